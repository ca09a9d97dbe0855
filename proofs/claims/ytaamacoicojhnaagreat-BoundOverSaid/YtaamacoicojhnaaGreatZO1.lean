/- Proofs over the given program, part 1. -/
import Derived.Test.YtaamacoicojhnaaGreatProg
import Derived.Test.YtaamacoicojhnaaGreatRows
import Derived.BigQuiet
import Derived.BigRegion
import Derived.ChangeKeysEq
import Derived.ChangeOld
import Derived.Deep.AppendLies
import Derived.Deep.CutBlock
import Derived.Deep.DeepCutAuto
import Derived.Deep.DrawnRows
import Derived.Deep.Matrix
import Derived.Deep.MidRow
import Derived.Deep.QuietTactic
import Derived.Deep.RegionHeld3
import Derived.Deep.RegionLaw
import Derived.Deep.RegionWith
import Derived.Deep.WholeRow
import Derived.DeepKeys5
import Derived.IntWalk
import Derived.Laws.BytesArg
import Derived.Laws.CopyRow
import Derived.Laws.MakeOwn
import Derived.Laws.OwnMore
import Derived.Laws.StructEq
import Derived.Lib.Hide
import Derived.Lib.MinMax
import Derived.Lib.OwnKind
import Derived.Lib.QuietBelow
import Derived.Lib.QuietBelowIn
import Derived.Lib.SlBytesConst
import Derived.Lib.SmallJoins
import Derived.LoopIn
import Derived.LoopNIn
import Derived.MapKept
import Derived.Maps.AppendAt
import Derived.Maps.Own
import Derived.Maps.OwnIn
import Derived.Maps.OwnOps
import Derived.Maps.OwnSet
import Derived.Maps.Views
import Derived.OpenShut
import Derived.OwnWalk
import Derived.OwnWalkIn
import Derived.ProofKit
import Derived.RangeFuncBound
import Derived.RangeFuncBox
import Derived.RangeFuncCalls
import Derived.RangeFuncLeaves
import Derived.RangeFuncNested
import Derived.RangeFuncWrites
import Derived.Shelf.Abstract
import Derived.Shelf.RegionOpen
import Derived.Shelf.SlGeneric
import Derived.Shelf.SlLaysF
import Derived.Shelf.SlSortCmp.NoneTotal
import Derived.Shelf.Small.Strs
import Derived.ShutString
import Derived.StillTail
import Derived.StillTailTactics
import Derived.Stop.Walk2
import Derived.StringKeys
import Derived.TacticsIn
import Derived.TacticsInMore
import Derived.WalkKit
import Derived.WalkLawsBesides
set_option linter.unusedVariables false
set_option linter.unusedSimpArgs false
set_option maxRecDepth 100000
set_option maxHeartbeats 16000000
open Go.Proofs.Tryz
open Go.Proofs.Tryz renaming prog→ZP
open Go.World(cell? frozen?)
open Go.Value(int slice pointer bool)
open Go.IntKind(i64)
namespace Go.Proofs.YtaamacoicojhnaaGreat
open Go.RowKit Go.Sort
abbrev Br(w v:World):=RowKit.Below w.heap.size w v
theorem Va:type_of% @if_neg:=@if_neg
theorem Vb:type_of% @if_pos:=@if_pos
theorem Vc:type_of% @of_decide_eq_true:=@of_decide_eq_true
theorem Vd:type_of% @And.intro:=@And.intro
theorem Ve:type_of% @decide_eq_true:=@decide_eq_true
theorem Vf:type_of% @below_regrown:=@below_regrown
theorem Vg:type_of% @wp_region_held_drew:=@wp_region_held_drew
theorem Vh:type_of% @wp_region_noPanic:=@wp_region_noPanic
theorem Vi:type_of% @cell_regrown:=@cell_regrown
theorem Vj:type_of% @wpAnyH_done:=@wpAnyH_done
theorem Vk:type_of% @info_parts:=@info_parts
theorem Vl:type_of% @bodyPost_ret:=@bodyPost_ret
theorem Vm:type_of% @enters_of:=@enters_of
abbrev Lq:=List (List Int)
theorem CZ:type_of% @Tryz.underlying3:=@Tryz.underlying3
theorem Ej:type_of% @Tryz.underlying30:=@Tryz.underlying30
theorem DO:type_of% @World.block_lt_of_cell?:=@World.block_lt_of_cell?
theorem AP:type_of% @List.getElem?_eq_some_iff:=@List.getElem?_eq_some_iff
theorem FT:type_of% @List.getElem?_take:=@List.getElem?_take
theorem AS:type_of% @Nat.le_trans:=@Nat.le_trans
theorem AD:type_of% @Array.getElem?_eq_some_iff:=@Array.getElem?_eq_some_iff
theorem AK:type_of% @Option.some.inj:=@Option.some.inj
theorem Dw:type_of% @Option.map_some:=@Option.map_some
theorem IN:type_of% @Sem.run_bind:=@Sem.run_bind
theorem IM:type_of% @Sem.run_pure:=@Sem.run_pure
theorem LI:type_of% @List.map_toArray:=@List.map_toArray
theorem BO:type_of% @List.map_cons:=@List.map_cons
theorem DE:type_of% @List.map_nil:=@List.map_nil
theorem BK:type_of% @IntKind.wrap_i64:=@IntKind.wrap_i64
theorem AA:type_of% @Lib.hid:=@Lib.hid
theorem At:type_of% @NoPanic.normal:=@NoPanic.normal
theorem CX:type_of% @Oper.semAt_some:=@Oper.semAt_some
theorem Af:type_of% @Nat.lt_of_lt_of_le:=@Nat.lt_of_lt_of_le
theorem DN:type_of% @World.size_alloc:=@World.size_alloc
theorem By:type_of% @List.getElem?_append_left:=@List.getElem?_append_left
theorem Dy:type_of% @List.getElem?_toArray:=@List.getElem?_toArray
theorem BU:type_of% @List.getElem?_map:=@List.getElem?_map
theorem BG:type_of% @List.length_set:=@List.length_set
theorem Is:type_of% @List.map_set:=@List.map_set
theorem DP:type_of% @Nat.le_of_lt:=@Nat.le_of_lt
theorem AC:type_of% @Nat.le_refl:=@Nat.le_refl
theorem AH:type_of% @Below.refl:=@Below.refl
theorem AT:type_of% @World.alloc_heap_new:=@World.alloc_heap_new
theorem AR:type_of% @Nat.zero_le:=@Nat.zero_le
theorem Bg:type_of% @Below.heap_alloc:=@Below.heap_alloc
theorem MU:type_of% @List.length_take_le:=@List.length_take_le
theorem EG:type_of% @List.mem_of_mem_take:=@List.mem_of_mem_take
theorem OH:type_of% @World.cell?_alloc_lt:=@World.cell?_alloc_lt
theorem In:type_of% @Tryz.underlying22:=@Tryz.underlying22
theorem AQ:type_of% @Below.heap_setCell:=@Below.heap_setCell
theorem Ap:type_of% @List.take_of_length_le:=@List.take_of_length_le
theorem BC:type_of% @World.cell?_of_block:=@World.cell?_of_block
theorem Db:type_of% @Bool.eq_iff_iff:=@Bool.eq_iff_iff
theorem Mb:type_of% @Int.eq_ofNat_of_zero_le:=@Int.eq_ofNat_of_zero_le
theorem Aa:type_of% @Int.toNat_natCast:=@Int.toNat_natCast
theorem Aw:type_of% @AllReadyH.cons:=@AllReadyH.cons
theorem Ci:type_of% @AllReadyH.nil:=@AllReadyH.nil
theorem OO:type_of% @Array.setIfInBounds_comm:=@Array.setIfInBounds_comm
theorem Js:type_of% @Array.getElem?_modify:=@Array.getElem?_modify
theorem DD:type_of% @Nat.zero_add:=@Nat.zero_add
theorem GR:type_of% @Nat.mul_le_mul:=@Nat.mul_le_mul
theorem Iy:type_of% @Int.natCast_mul:=@Int.natCast_mul
theorem CS:type_of% @List.length_replicate:=@List.length_replicate
theorem OJ:type_of% @List.map_congr_left:=@List.map_congr_left
theorem Be:type_of% @List.mem_map:=@List.mem_map
theorem MY:type_of% @List.cons.injEq:=@List.cons.injEq
theorem CR:type_of% @List.mem_cons:=@List.mem_cons
theorem LH:type_of% @List.take_add_one:=@List.take_add_one
theorem Dx:type_of% @List.take_append_drop:=@List.take_append_drop
theorem FI:type_of% @List.foldl_append:=@List.foldl_append
theorem Gq:type_of% @Nat.le_of_eq:=@Nat.le_of_eq
theorem Fm:type_of% @Tryz.underlying69:=@Tryz.underlying69
theorem Iu:type_of% @List.getElem?_cons_zero:=@List.getElem?_cons_zero
theorem IP:type_of% @List.getElem?_cons_succ:=@List.getElem?_cons_succ
theorem It:type_of% @List.getElem?_range:=@List.getElem?_range
theorem Cw:type_of% @List.size_toArray:=@List.size_toArray
theorem Ao:type_of% @List.length_cons:=@List.length_cons
theorem Bw:type_of% @List.length_nil:=@List.length_nil
theorem Dd:type_of% @Array.replicate_succ:=@Array.replicate_succ
theorem Dc:type_of% @Array.replicate_zero:=@Array.replicate_zero
theorem DX:type_of% @List.push_toArray:=@List.push_toArray
theorem Da:type_of% @List.append_toArray:=@List.append_toArray
theorem Av:type_of% @List.nil_append:=@List.nil_append
theorem CT:type_of% @List.cons_append:=@List.cons_append
theorem Jq:type_of% @Int.tmod_eq_emod_of_nonneg:=@Int.tmod_eq_emod_of_nonneg
theorem Ek:type_of% @Nat.mod_lt:=@Nat.mod_lt
theorem Ar:type_of% @List.getElem?_eq_getElem:=@List.getElem?_eq_getElem
theorem DZ:type_of% @List.getD_eq_getElem?_getD:=@List.getD_eq_getElem?_getD
theorem Ag:type_of% @List.length_take:=@List.length_take
theorem Aj:type_of% @List.map_append:=@List.map_append
theorem Ho:type_of% @List.eq_of_mem_replicate:=@List.eq_of_mem_replicate
theorem AX:type_of% @List.mem_of_getElem?:=@List.mem_of_getElem?
theorem Hk:type_of% @Nat.mul_one:=@Nat.mul_one
theorem DB:type_of% @Tryz.underlying32:=@Tryz.underlying32
theorem DQ:type_of% @Nat.add_zero:=@Nat.add_zero
theorem Bf:type_of% @List.mem_append:=@List.mem_append
theorem GS:type_of% @List.getElem?_modify:=@List.getElem?_modify
theorem Ip:type_of% @List.replicate_succ:=@List.replicate_succ
theorem Jm:type_of% @List.set_append_right:=@List.set_append_right
theorem FG:type_of% @Nat.sub_self:=@Nat.sub_self
theorem CE:type_of% @List.append_assoc:=@List.append_assoc
theorem Cx:type_of% @List.append_nil:=@List.append_nil
theorem Bz:type_of% @List.eq_nil_of_length_eq_zero:=@List.eq_nil_of_length_eq_zero
theorem MR:type_of% @World.grownBy_alloc:=@World.grownBy_alloc
theorem apF:type_of% @World.putObj_heap_same:=@World.putObj_heap_same
theorem Cm:type_of% @World.putObj_heap_other:=@World.putObj_heap_other
theorem Ir:type_of% @List.mem_flatMap:=@List.mem_flatMap
theorem Fq:type_of% @List.mem_singleton:=@List.mem_singleton
theorem BP:type_of% @List.length_map:=@List.length_map
theorem CG:type_of% @Option.getD_some:=@Option.getD_some
theorem Jn:type_of% @List.pairwise_cons:=@List.pairwise_cons
theorem El:type_of% @List.range_succ:=@List.range_succ
theorem En:type_of% @List.count_append:=@List.count_append
theorem Md:type_of% @Classical.byContradiction:=@Classical.byContradiction
theorem Fo:type_of% @Option.map_eq_some_iff:=@Option.map_eq_some_iff
theorem OL:type_of% @List.length_eq_zero_iff:=@List.length_eq_zero_iff
theorem BN:type_of% @World.ownsRow_nil:=@World.ownsRow_nil
theorem Bq:type_of% @Bool.and_eq_true:=@Bool.and_eq_true
theorem MZ:type_of% @List.any_eq_true:=@List.any_eq_true
theorem DR:type_of% @List.getElem?_of_mem:=@List.getElem?_of_mem
theorem FJ:type_of% @Bool.true_and:=@Bool.true_and
theorem Fp:type_of% @List.setIfInBounds_toArray:=@List.setIfInBounds_toArray
theorem FU:type_of% @List.getElem?_set_self:=@List.getElem?_set_self
theorem FH:type_of% @List.getElem?_set_ne:=@List.getElem?_set_ne
theorem apG:type_of% @List.length_pos_iff:=@List.length_pos_iff
theorem Gr:type_of% @List.getElem?_set:=@List.getElem?_set
theorem Jp:type_of% @KeepsOthers.setCell:=@KeepsOthers.setCell
theorem Jo:type_of% @List.getElem?_replicate:=@List.getElem?_replicate
theorem MX:type_of% @List.getElem?_concat_length:=@List.getElem?_concat_length
theorem IL:type_of% @Value.slice.injEq:=@Value.slice.injEq
theorem MT:type_of% @List.mem_cons_of_mem:=@List.mem_cons_of_mem
theorem DC:type_of% @Option.some.injEq:=@Option.some.injEq
theorem Em:type_of% @List.dropLast_concat_getLast:=@List.dropLast_concat_getLast
theorem Hm:type_of% @List.getElem?_drop:=@List.getElem?_drop
theorem Iq:type_of% @List.mem_of_mem_drop:=@List.mem_of_mem_drop
theorem Jl:type_of% @Nat.add_sub_cancel:=@Nat.add_sub_cancel
theorem Hl:type_of% @List.take_length:=@List.take_length
theorem Gp:type_of% @Tryz.underlying5:=@Tryz.underlying5
theorem Jk:type_of% @Prod.mk.injEq:=@Prod.mk.injEq
theorem MQ:type_of% @World.ownsMap_made:=@World.ownsMap_made
theorem LC:type_of% @Tryz.underlying4:=@Tryz.underlying4
theorem Hn:type_of% @List.ext_getElem?:=@List.ext_getElem?
theorem ON:type_of% @Int.mul_le_mul_of_nonneg_left:=@Int.mul_le_mul_of_nonneg_left
theorem Jj:type_of% @RowKit.Below.refl:=@RowKit.Below.refl
theorem GT:type_of% @List.getElem?_eq_none:=@List.getElem?_eq_none
theorem Jr:type_of% @Int.add_mul:=@Int.add_mul
theorem LK:type_of% @Int.natCast_add:=@Int.natCast_add
theorem Iw:type_of% @List.count_nil:=@List.count_nil
theorem Iv:type_of% @List.count_pos_iff:=@List.count_pos_iff
theorem Io:type_of% @Option.bind_eq_some_iff:=@Option.bind_eq_some_iff
theorem LG:type_of% @Nat.lt_or_ge:=@Nat.lt_or_ge
theorem MV:type_of% @List.getLast?_eq_some_getLast:=@List.getLast?_eq_some_getLast
theorem EV:type_of% @Option.bind_some:=@Option.bind_some
theorem DY:type_of% @List.getElem?_append_right:=@List.getElem?_append_right
theorem OK:type_of% @List.length_singleton:=@List.length_singleton
theorem LD:type_of% @Tryz.underlying389:=@Tryz.underlying389
theorem LJ:type_of% @List.dropLast_concat:=@List.dropLast_concat
theorem MW:type_of% @List.getElem?_take_of_lt:=@List.getElem?_take_of_lt
theorem OM:type_of% @List.count_singleton:=@List.count_singleton
theorem OI:type_of% @List.perm_iff_count:=@List.perm_iff_count
theorem IO:type_of% @Nat.mul_le_mul_right:=@Nat.mul_le_mul_right
theorem Ji:type_of% @Tryz.underlying9:=@Tryz.underlying9
theorem OG:type_of% @World.cell?_setCell_far:=@World.cell?_setCell_far
theorem Ma:type_of% @Int.mul_nonneg:=@Int.mul_nonneg
theorem LF:type_of% @Tryz.func276:=@Tryz.func276
theorem LE:type_of% @Tryz.ntmps276:=@Tryz.ntmps276
theorem om{P:Prop}(h:P:=by omega):P:=h
theorem kr{P:Prop}(h:P:=by kernel_rfl):P:=h
theorem sm{P:Prop}(h:P:=by simp):P:=h
section
open Go Go.RowKit Go.Sort
/-! ### plain -/
section plain
variable {P:Program}{ops:Array Oper}{md:Region.Mode}{C:World->Prop}
def MB(P:Program)(md:Region.Mode)(ops:Array Oper)(C:World->Prop)(m:Nat)(L:Array Bool->Act->Prop):Nat->Array Bool->Act->Prop
 |0,Z,a=>L Z a
 |f+1,Z,a=>Region.ready md ops Z≠[]/\∀i∈Region.ready md ops Z,i<m/\qOp P ops C i (MB P md ops C m L f (Z.setIfInBounds i true)) a
theorem ab6{m g:Nat}{L:Array Bool->Act->Prop}{Q':Exit->Act->World->Prop}(X:∀Z a w,C w->L Z a->wpAny P md ops Q' g Z a w) :∀(f:Nat)(Z:Array Bool)(a:Act)(w:World),C w->MB P md ops C m L f Z a->wpAny P md ops Q' (f+g) Z a w
 |0,Z,a,w,hw,h=>by rw[DD];exact X _ _ _ hw h
 |f+1,Z,a,w,hw,h=>by rw[show f+1+g=(f+g)+1 by omega];exact⟨λh0=>absurd h0 h.1,λi V=>wpOp_of_qOp hw (λN w' Y U=>ab6 X f _ N w' Y U) (h.2 i V).2⟩
theorem aff{m i:Nat}{oi:Oper}{v:Value}{L:Array Bool->Act->Prop}(hi:ops[i]?=some oi)(I:∀(j:Nat)(o:Oper) cs b,ops[j]?=some o->o.op≠.select cs b)
  (hs:Region.sinkB md ops m=true) (hc:Region.chainB md ops m=true) (hm:m<ops.size) (a6:i<m)
  (hdone:∀Z a,L Z a->∀j∈Region.ready md ops Z,m<=j) :
  ∀(f:Nat) (Z:Array Bool) (a:Act),HeadInv md ops m Z->
   (∀j y,ops[j]?=some y->j≠i->Z.getD j true=false->(∀e∈y.after,Region.binds md e=true->e.on≠i)->oi.apart ops y=true)->
   i∈Region.ready md ops Z->YieldsIn P ops C oi v a->
   MB P md ops C m L f (Z.setIfInBounds i true) (a.put oi.dst v)->MB P md ops C m L (f+1) Z a:=by
 intro f
 induction f with
 |zero=>
  intro Z a V _ D hy H;have U:=(mem_ready.1 D).1;refine⟨λh=>(by rw[h]at D;cases D),λj hj=>?_⟩;have N:j<m:=by
   rcases LG j m with h|h
   ·exact h
   ·exact absurd hj (tail_waits hs hc hm V _ i rfl a6 U j h)
  refine⟨N,?_⟩
  by_cases Y:j=i
  ·subst Y;exact hy.qOp hi H
  ·have:=hdone _ _ H j (ready_mono hj Y);omega
 |succ f ih=>
  intro Z a V X D hy H;have U:=(mem_ready.1 D).1;refine⟨λh=>(by rw[h]at D;cases D),λj hj=>?_⟩;have N:j<m:=by
   rcases LG j m with h|h
   ·exact h
   ·exact absurd hj (tail_waits hs hc hm V _ i rfl a6 U j h)
  refine⟨N,?_⟩
  by_cases Y:j=i
  ·subst Y;exact hy.qOp hi H
  ·have h1:=(H.2 j (ready_mono hj Y)).2;obtain⟨A,y,s,a7⟩:=mem_ready.1 hj;have a1:∀e∈y.after,Region.binds md e=true->e.on≠i:=λe he hb ab=>by
    have h1:=a7 e he hb;rw[ab,getD_both U]at h1
    cases h1
   have h2:=qOp_put s (X j y s Y A a1) (λcs b=>I i oi cs b hi) (λcs b=>I j y cs b s) hy h1;have J:∀k ok,ops[k]?=some ok->k≠i->(Z.setIfInBounds j true).getD k true=false->
     (∀e∈ok.after,Region.binds md e=true->e.on≠i)->oi.apart ops ok=true:=λk ok hk aa B a8=>by
    refine X k ok hk aa ?_ a8
    by_cases a2:j=k
    ·subst a2;exact A
    ·rw[getD_set_ne true a2]at B;exact B
   refine qOp_mono (λa' h3=>ih (Z.setIfInBounds j true) a' (V.set hj N) J (ready_mono D (Ne.symm Y)) h3.1 ?_) h2;rw[OO _ _ Y];exact h3.2
theorem ae9{m g:Nat}{I:Act->Prop}(X:Region.noSelect ops=true)(H:Region.sinkB md ops m=true)(B:Region.chainB md ops m=true)(D:m<ops.size) :∀(l:List Oper)(k:Nat)(Z:Array Bool)(a:Act),(∀j,j<l.length->l[j]?=ops[k+j]?)->k+l.length=m->HeadInv md ops m Z->
  Region.lexHead md ops g l.length k Z=true->wpQuiet P ops C I l a->
  MB P md ops C m (λY A=>Region.seqB md ops g m Y=true/\I A) l.length Z a
 |[],k,Z,a,_,hk,_,hB,h=>by
  have:k=m:=by simpa using hk
  subst this;exact⟨by simpa[Region.lexHead]using hB,h⟩
 |o::l,k,Z,a,hl,hk,inv,hB,h=>by
  have h0:ops[k]?=some o:=by simpa using (hl 0 sm).symm
  simp only[Ao,Region.lexHead,Bq]at hB;obtain⟨⟨s,e⟩,J⟩:=hB;have U:k<m:=by simp only[Ao]at hk;omega
  have V:k∈Region.ready md ops Z:=by simpa using s
  have N:qOp P ops C k (wpQuiet P ops C I l) a:=by unfold qOp;simp only[h0];exact h
  obtain⟨v,y,hK⟩:=yieldsIn_of_qOp h0 N;exact aff h0 (Region.noSelect_spec X) H B D U (λY A hL=>seqB_ready hL.1) l.length Z a inv (Region.free_spec h0 e) V y
   (ae9 X H B D l (k+1) _ _ (λj hj=>by have:=hl (j+1) (by simp;omega);simpa[Nat.add_assoc,Nat.add_comm 1 j]using this) (by simp only[Ao]at hk;omega) (inv.set V U) J hK)
theorem aa3{id:Nat}{Q:Exit->Act->World->Prop}{a:Act}{w:World}{l:List Oper}(m:Nat)(I:P.follows .mixedOrders=true)(hB:Region.lexTailB .any l.toArray m=true)(hC:C {w with drawn:=w.drawn+1})
  (h:wpQuiet P l.toArray C (λB=>∀w',C w'->wpList P l.toArray Q (l.drop m) B w') (l.take m) a):(Code.region id l.toArray true).wp P Q a w:=by
 simp only[Region.lexTailB,Bq,decide_eq_true_eq]at hB;obtain⟨⟨⟨⟨V,A⟩,hs⟩,hc⟩,U⟩:=hB;have a1:m<l.length:=by simpa using A
 have Y:(l.take m).length=m:=by simp;omega
 have N:(l.drop m).length=l.toArray.size-m:=by simp
 have X:HeadInv .any l.toArray m (Array.replicate l.toArray.size false):=
  ⟨by simp,λj oj _ y=>(by rw[getD_replicate_false]at y;cases y),λt _ e=>getD_in (by simpa using e) (getD_replicate_false _ _)⟩
 have H:=ae9 (md:=.any) (g:=l.toArray.size-m) V hs hc A (l.take m) 0 _ a (λj s=>by
  have D:j<m:=by rw[Y]at s;exact s
  simp[D]) (by simpa using Y) X (by rw[Y];exact U) h
 refine wp_region_any I ?_;have:=ab6 (Q':=Q) (g:=l.toArray.size-m) (λZ B w' J o=>by
  have:=wpAny_of_seq (md:=.any) (Q':=Q) (l.drop m) m Z B w' (λj=>by simp[Hm]) (by rw[N];exact o.1) (o.2 w' J)
  rwa[N]at this) _ _ _ _ hC H
 rw[Y,show m+(l.toArray.size-m)=l.toArray.size by omega]at this;exact this
theorem aaQ{id:Nat}{Q:Exit->Act->World->Prop}{a:Act}{w:World}{l:List Oper}(m:Nat)(Z:P.follows .mixedOrders=true)(hB:Region.lexTailB .any l.toArray m=true)
  (h:wpQuiet P l.toArray (λw'=>∃p:Regrown,w'=grow (redrawn w p.d) p.os) (λY=>∀w',(∃p:Regrown,w'=grow (redrawn w p.d) p.os)->wpList P l.toArray Q (l.drop m) Y w') (l.take m) a):(Code.region id l.toArray true).wp P Q a w:=
 aa3 (C:=λw'=>∃p:Regrown,w'=grow (redrawn w p.d) p.os) m Z hB ⟨⟨w.drawn+1,#[]⟩,by rw[grow_empty];rfl⟩ h
theorem Hw{id:Nat}{Q:Exit->Act->World->Prop}{a:Act}{w:World}{l:List Oper}(m:Nat)(Z:P.follows .mixedOrders=true)(hB:Region.lexTailB .any l.toArray m=true)
  (h:wpQuiet P l.toArray (λw'=>∃n,w'=w.drewN n) (λY=>∀w',(∃n,w'=w.drewN n)->wpList P l.toArray Q (l.drop m) Y w') (l.take m) a):(Code.region id l.toArray true).wp P Q a w:=
 aa3 (C:=λw'=>∃n,w'=w.drewN n) m Z hB ⟨1,rfl⟩ h
end plain
/-! ### in a fence,in a round -/
section fenced
variable {F:Fence}{n:Nat}{P:Program}{ops:Array Oper}{md:Region.Mode}{C:World->Prop}
def Eb(ops:Array Oper):Bool:=ops.all λo=>match o.op with|.defer _=>false|_=>true
theorem ab0(h:Eb ops=true){i:Nat}{o:Oper}(Z:ops[i]?=some o):∀c,o.op≠.defer c:=by intro c Y;have:=Array.all_eq_true'.1 h o (Array.mem_of_getElem? Z);simp[Y]at this
theorem acd{o:Oper}{a:Act}{K:Act->Prop}{U:Act->World->Prop}{Q':Exit->Act->World->Prop}{w:World}(V:∀c,o.op≠.defer c)(X:C w)(h:∀a w',C w'->K a->U a w')
  (ha:o.askedIn F P a C) (N:o.quietIn F n P a C K):o.wpIn F n P a w U Q':=by
 obtain⟨v,h1,h2⟩:=N;have h3:=h1 w X;unfold Oper.quietAtIn at h3;unfold Oper.wpIn;refine⟨ha w X,?_⟩;rw[Oper.semAt_eq _ _ _ V]
 generalize (execOp a.eval o).run P w=r at *
 cases r with
 |ok x w'=>
  cases x<;>simp only[Oper.quietUponIn]at h3<;>simp only[Oper.uponIn]
  case value u=>
   obtain⟨Y,e2⟩:=h3;rw[Y,e2];exact h _ _ X h2
  case skip=>
   obtain⟨Y,e2⟩:=h3;rw[Y,<-e2];exact h _ _ X h2
  case enter f args=>
   obtain⟨Y,I,H⟩:=h3;rw[Y];exact⟨I,H.mono λe w'' ⟨J,Z⟩=>by subst J;exact h _ _ Z h2⟩
 |halt x w'=>simp only[Oper.quietUponIn]at h3
theorem aal{i:Nat}{a:Act}{K:Act->Prop}{U:Act->World->Prop}{Q':Exit->Act->World->Prop}{w:World}(V:Eb ops=true)(Y:C w)(h:∀a w',C w'->K a->U a w')
  (Z:qOpIn F n P ops C i K a):wpOpIn F n P ops Q' i U a w:=by
 unfold qOpIn at Z;unfold wpOpIn
 split
 ·rename_i ho;simp only[ho]at Z;exact h _ _ Y Z
 ·rename_i o ho
  simp only[ho]at Z;obtain⟨ha,Z⟩:=Z
  split
  ·rename_i X;simp only[X,if_true]at Z;exact acd (ab0 V ho) Y h ha Z
  ·rename_i X;simp only[X]at Z;exact⟨ha w Y,h _ _ Y Z⟩
def MA(F:Fence)(n:Nat)(P:Program)(md:Region.Mode)(ops:Array Oper)(C:World->Prop)(m:Nat)(L:Array Bool->Act->Prop):Nat->Array Bool->Act->Prop
 |0,Z,a=>L Z a
 |f+1,Z,a=>Region.ready md ops Z≠[]/\∀i∈Region.ready md ops Z,i<m/\qOpIn F n P ops C i (MA F n P md ops C m L f (Z.setIfInBounds i true)) a
theorem aag{m g:Nat}{L:Array Bool->Act->Prop}{Q':Exit->Act->World->Prop}(Y:Eb ops=true)(V:∀Z a w,C w->L Z a->wpAnyIn F n P md ops Q' g Z a w) :∀(f:Nat)(Z:Array Bool)(a:Act)(w:World),C w->MA F n P md ops C m L f Z a->wpAnyIn F n P md ops Q' (f+g) Z a w
 |0,Z,a,w,hw,h=>by rw[DD];exact V _ _ _ hw h
 |f+1,Z,a,w,hw,h=>by rw[show f+1+g=(f+g)+1 by omega];exact⟨λh0=>absurd h0 h.1,λi U=>aal Y hw (λJ w' X N=>aag Y V f _ J w' X N) (h.2 i U).2⟩
theorem adk{m i:Nat}{oi:Oper}{v:Value}{L:Array Bool->Act->Prop}(hi:ops[i]?=some oi)(I:∀(j:Nat)(o:Oper) cs b,ops[j]?=some o->o.op≠.select cs b)
  (hs:Region.sinkB md ops m=true) (hc:Region.chainB md ops m=true) (hm:m<ops.size) (a6:i<m)
  (hdone:∀Z a,L Z a->∀j∈Region.ready md ops Z,m<=j) :
  ∀(f:Nat) (Z:Array Bool) (a:Act),HeadInv md ops m Z->
   (∀j y,ops[j]?=some y->j≠i->Z.getD j true=false->(∀e∈y.after,Region.binds md e=true->e.on≠i)->oi.apart ops y=true)->
   i∈Region.ready md ops Z->YieldsQuiet F n P ops C oi v a->
   MA F n P md ops C m L f (Z.setIfInBounds i true) (a.put oi.dst v)->MA F n P md ops C m L (f+1) Z a:=by
 intro f
 induction f with
 |zero=>
  intro Z a V _ D hy H;have U:=(mem_ready.1 D).1;refine⟨λh=>(by rw[h]at D;cases D),λj hj=>?_⟩;have N:j<m:=by
   rcases LG j m with h|h
   ·exact h
   ·exact absurd hj (tail_waits hs hc hm V _ i rfl a6 U j h)
  refine⟨N,?_⟩
  by_cases Y:j=i
  ·subst Y;exact hy.qOpIn hi H
  ·have:=hdone _ _ H j (ready_mono hj Y);omega
 |succ f ih=>
  intro Z a V X D hy H;have U:=(mem_ready.1 D).1;refine⟨λh=>(by rw[h]at D;cases D),λj hj=>?_⟩;have N:j<m:=by
   rcases LG j m with h|h
   ·exact h
   ·exact absurd hj (tail_waits hs hc hm V _ i rfl a6 U j h)
  refine⟨N,?_⟩
  by_cases Y:j=i
  ·subst Y;exact hy.qOpIn hi H
  ·have h1:=(H.2 j (ready_mono hj Y)).2;obtain⟨A,y,s,a7⟩:=mem_ready.1 hj;have a1:∀e∈y.after,Region.binds md e=true->e.on≠i:=λe he hb ab=>by
    have h1:=a7 e he hb;rw[ab,getD_both U]at h1
    cases h1
   have h2:=qOpIn_put s (X j y s Y A a1) (λcs b=>I i oi cs b hi) (λcs b=>I j y cs b s) hy h1;have J:∀k ok,ops[k]?=some ok->k≠i->(Z.setIfInBounds j true).getD k true=false->
     (∀e∈ok.after,Region.binds md e=true->e.on≠i)->oi.apart ops ok=true:=λk ok hk aa B a8=>by
    refine X k ok hk aa ?_ a8
    by_cases a2:j=k
    ·subst a2;exact A
    ·rw[getD_set_ne true a2]at B;exact B
   refine qOpIn_mono (λa' h3=>ih (Z.setIfInBounds j true) a' (V.set hj N) J (ready_mono D (Ne.symm Y)) h3.1 ?_) h2;rw[OO _ _ Y];exact h3.2
theorem abL{m g:Nat}{I:Act->Prop}(X:Region.noSelect ops=true)(H:Region.sinkB md ops m=true)(B:Region.chainB md ops m=true)(D:m<ops.size) :∀(l:List Oper)(k:Nat)(Z:Array Bool)(a:Act),(∀j,j<l.length->l[j]?=ops[k+j]?)->k+l.length=m->HeadInv md ops m Z->
  Region.lexHead md ops g l.length k Z=true->wpQuietIn F n P ops C I l a->
  MA F n P md ops C m (λY A=>Region.seqB md ops g m Y=true/\I A) l.length Z a
 |[],k,Z,a,_,hk,_,hB,h=>by
  have:k=m:=by simpa using hk
  subst this;exact⟨by simpa[Region.lexHead]using hB,h⟩
 |o::l,k,Z,a,hl,hk,inv,hB,h=>by
  have h0:ops[k]?=some o:=by simpa using (hl 0 sm).symm
  simp only[Ao,Region.lexHead,Bq]at hB;obtain⟨⟨s,e⟩,J⟩:=hB;have U:k<m:=by simp only[Ao]at hk;omega
  have V:k∈Region.ready md ops Z:=by simpa using s
  have N:qOpIn F n P ops C k (wpQuietIn F n P ops C I l) a:=by unfold qOpIn;simp only[h0];exact h
  obtain⟨v,y,hK⟩:=yieldsQuiet_of_qOpIn h0 N;exact adk h0 (Region.noSelect_spec X) H B D U (λY A hL=>seqB_ready hL.1) l.length Z a inv (Region.free_spec h0 e) V y
   (abL X H B D l (k+1) _ _ (λj hj=>by have:=hl (j+1) (by simp;omega);simpa[Nat.add_assoc,Nat.add_comm 1 j]using this) (by simp only[Ao]at hk;omega) (inv.set V U) J hK)
theorem ab8{Q':Exit->Act->World->Prop}:∀(l:List Oper)(k:Nat)(Z:Array Bool)(a:Act)(w:World),(∀j,l[j]?=ops[k+j]?)->
  Region.seqB md ops l.length k Z=true->wpListIn F n P ops Q' l a w->wpAnyIn F n P md ops Q' l.length Z a w
 |[],_,_,_,_,_,hB,h=>⟨by simpa[Region.seqB]using hB,h⟩
 |o::l,k,Z,a,w,hl,hB,h=>by
  have h0:ops[k]?=some o:=by simpa using (hl 0).symm
  simp only[Ao,Region.seqB,Bq,decide_eq_true_eq]at hB;refine⟨λh1=>(by rw[hB.1]at h1;cases h1),λi X=>?_⟩;rw[hB.1]at X;have Y:i=k:=by simpa using X
  subst Y;have V:wpOpIn F n P ops Q' i (wpListIn F n P ops Q' l) a w:=by unfold wpOpIn;simp only[h0];exact h
  exact wpOpIn_mono (λN w' U=>ab8 l (i+1) _ N w' (λj=>by have:=hl (j+1);simpa[Nat.add_assoc,Nat.add_comm 1 j]using this) hB.2 U) V
theorem aa1{id:Nat}{Q:Exit->Act->World->Prop}{a:Act}{w:World}{l:List Oper}(m:Nat)(D:P.follows .mixedOrders=true)(hB:Region.lexTailB .any l.toArray m=true)(I:Eb l.toArray=true)(hC:C {w with drawn:=w.drawn+1})
  (h:wpQuietIn F n P l.toArray C (λA=>∀w',C w'->wpListIn F n P l.toArray Q (l.drop m) A w') (l.take m) a):(Code.region id l.toArray true).wpIn F n P Q a w:=by
 simp only[Region.lexTailB,Bq,decide_eq_true_eq]at hB;obtain⟨⟨⟨⟨V,y⟩,hs⟩,hc⟩,U⟩:=hB;have a1:m<l.length:=by simpa using y
 have Y:(l.take m).length=m:=by simp;omega
 have N:(l.drop m).length=l.toArray.size-m:=by simp
 have X:HeadInv .any l.toArray m (Array.replicate l.toArray.size false):=
  ⟨by simp,λj oj _ s=>(by rw[getD_replicate_false]at s;cases s),λt _ ht=>getD_in (by simpa using ht) (getD_replicate_false _ _)⟩
 have H:=abL (md:=.any) (g:=l.toArray.size-m) V hs hc y (l.take m) 0 _ a (λj o=>by
  have B:j<m:=by rw[Y]at o;exact o
  simp[B]) (by simpa using Y) X (by rw[Y];exact U) h
 refine wpIn_region_any D ?_;have:=aag (Q':=Q) (g:=l.toArray.size-m) I (λZ A w' J e=>by
  have:=ab8 (md:=.any) (Q':=Q) (l.drop m) m Z A w' (λj=>by simp[Hm]) (by rw[N];exact e.1) (e.2 w' J)
  rwa[N]at this) _ _ _ _ hC H
 rw[Y,show m+(l.toArray.size-m)=l.toArray.size by omega]at this;exact this
theorem aaa{Q:Act->Prop}{Q':Exit->Act->World->Prop}(X:Eb ops=true)(U:∀a w,C w->Q a->Q' .normal a w):∀(Y:Nat)(Z:Array Bool)(a:Act)(w:World),C w->
  wpAnyQIn F n P md ops C Q Y Z a->wpAnyIn F n P md ops Q' Y Z a w
 |0,_,_,_,hw,h=>⟨h.1,U _ _ hw h.2⟩
 |Y+1,_,_,_,hw,h=>⟨λh0=>U _ _ hw (h.1 h0),λi N=>aal X hw (λJ w' V=>aaa X U Y _ J w' V) (h.2 i N)⟩
theorem aan{id:Nat}{Q:Exit->Act->World->Prop}{a:Act}{w:World}{l:List Oper}(X:P.follows .mixedOrders=true)(hB:Region.lexB .any l.toArray=true)(Y:Eb l.toArray=true)(U:C {w with drawn:=w.drawn+1})
  (h:wpQuietIn F n P l.toArray C (λV=>∀w',C w'->Q .normal V w') l a):(Code.region id l.toArray true).wpIn F n P Q a w:=by
 simp only[Region.lexB,Bq]at hB;refine wpIn_region_any X (aaa (Q:=λV=>∀w',C w'->Q .normal V w') Y (λ_ w' Z h=>h w' Z) _ _ _ _ U ?_);have:=wpAnyQIn_lex (F:=F) (n:=n) (C:=C) (md:=.any) hB.1 l 0 (Array.replicate l.toArray.size false) a sm (by simpa using hB.2) h
 simpa using this
theorem aca{id:Nat}{Q:Exit->Act->World->Prop}{a:Act}{w:World}{l:List Oper}(Y:P.follows .mixedOrders=true)(hB:Region.lexB .any l.toArray=true)(Z:Eb l.toArray=true)
  (h:wpQuietIn F n P l.toArray (λw'=>∃p:Regrown,w'=grow (redrawn w p.d) p.os) (λX=>∀w',(∃p:Regrown,w'=grow (redrawn w p.d) p.os)->Q .normal X w') l a):(Code.region id l.toArray true).wpIn F n P Q a w:=
 aan (C:=λw'=>∃p:Regrown,w'=grow (redrawn w p.d) p.os) Y hB Z ⟨⟨w.drawn+1,#[]⟩,by rw[grow_empty];rfl⟩ h
theorem aaw{id:Nat}{Q:Exit->Act->World->Prop}{a:Act}{w:World}{l:List Oper}(m:Nat)(Y:P.follows .mixedOrders=true)(hB:Region.lexTailB .any l.toArray m=true)(Z:Eb l.toArray=true)
  (h:wpQuietIn F n P l.toArray (λw'=>∃p:Regrown,w'=grow (redrawn w p.d) p.os) (λX=>∀w',(∃p:Regrown,w'=grow (redrawn w p.d) p.os)->wpListIn F n P l.toArray Q (l.drop m) X w') (l.take m) a):(Code.region id l.toArray true).wpIn F n P Q a w:=
 aa1 (C:=λw'=>∃p:Regrown,w'=grow (redrawn w p.d) p.os) m Y hB Z ⟨⟨w.drawn+1,#[]⟩,by rw[grow_empty];rfl⟩ h
theorem aay{id:Nat}{Q:Exit->Act->World->Prop}{a:Act}{w:World}{l:List Oper}(m:Nat)(Y:P.follows .mixedOrders=true)(hB:Region.lexTailB .any l.toArray m=true)(Z:Eb l.toArray=true)
  (h:wpQuietIn F n P l.toArray (λw'=>∃n,w'=w.drewN n) (λX=>∀w',(∃n,w'=w.drewN n)->wpListIn F n P l.toArray Q (l.drop m) X w') (l.take m) a):(Code.region id l.toArray true).wpIn F n P Q a w:=
 aa1 (C:=λw'=>∃n,w'=w.drewN n) m Y hB Z ⟨1,rfl⟩ h
theorem ac4{id:Nat}{Q:Exit->Act->World->Prop}{a:Act}{w:World}{l:List Oper}(Y:P.follows .mixedOrders=true)(hB:Region.lexB .any l.toArray=true)(Z:Eb l.toArray=true)
  (h:wpQuietIn F n P l.toArray (λw'=>∃n,w'=w.drewN n) (λX=>∀w',(∃n,w'=w.drewN n)->Q .normal X w') l a):(Code.region id l.toArray true).wpIn F n P Q a w:=
 aan (C:=λw'=>∃n,w'=w.drewN n) Y hB Z ⟨1,rfl⟩ h
end fenced
/-! ### the wide fence,in a round or not: the quiet part walked plainly -/
section wide
variable {F:Fence}{n:Nat}{P:Program}{ops:Array Oper}{C:World->Prop}
structure Jg(F:Fence)(n:Nat)(P:Program):Prop where
 fn:∀f,F.fn f
 depth:F.depth=none
 calls:∀{f args w R},Calls P f args w R->CallsIn F (n-1) P f args w R
theorem FL(n:Nat)(P:Program):Jg Fence.wide n P:=⟨λ_=>trivial,rfl,λh=>callsIn_wide.2 h⟩
theorem OV(n:Nat)(P:Program)(l:Nat):Jg (Fence.wide.inRound l) n P:=⟨λ_=>trivial,rfl,λh=>(callsIn_wide (n:=n-1)).2 h⟩
theorem KJ(Z:Jg F n P){Q:Act->Prop}:∀(l:List Oper)(a:Act),wpQuiet P ops C Q l a->wpQuietIn F n P ops C Q l a
 |[],_,h=>h
 |o::l,a,h=>by
  refine⟨λ_ _ f _=>Z.fn f,?_⟩;unfold wpQuiet at h
  split
  ·rename_i Y
   rw[Vb Y]at h;obtain⟨v,h1,h2⟩:=h;refine⟨v,λw V=>?_,KJ Z l _ h2⟩;have:=h1 w V;unfold Oper.quietAt at this;unfold Oper.quietAtIn
   generalize (execOp a.eval o).run P w=r at *
   cases r with
   |ok x w'=>
    cases x<;>simp only[Oper.quietUpon]at this<;>simp only[Oper.quietUponIn]
    case value u=>exact this
    case skip=>exact this
    case enter f args=>
     refine⟨this.1,?_,Z.calls this.2⟩;intro X;rw[Z.depth]at X
     cases X
   |halt x w'=>simp only[Oper.quietUpon]at this
  ·rename_i Y
   rw[Va Y]at h;exact KJ Z l _ h
theorem Le(X:Jg F n P){id:Nat}{Q:Exit->Act->World->Prop}{a:Act}{w:World}{l:List Oper}(Y:P.follows .mixedOrders=true)(hB:Region.lexB .any l.toArray=true)(Z:Eb l.toArray=true)
  (h:wpQuiet P l.toArray (λw'=>∃p:Regrown,w'=grow (redrawn w p.d) p.os) (λV=>∀w',(∃p:Regrown,w'=grow (redrawn w p.d) p.os)->Q .normal V w') l a):(Code.region id l.toArray true).wpIn F n P Q a w:=
 aca Y hB Z (KJ X _ _ h)
theorem aaE(X:Jg F n P){id:Nat}{Q:Exit->Act->World->Prop}{a:Act}{w:World}{l:List Oper}(m:Nat)(Y:P.follows .mixedOrders=true)(hB:Region.lexTailB .any l.toArray m=true)(Z:Eb l.toArray=true)
  (h:wpQuiet P l.toArray (λw'=>∃p:Regrown,w'=grow (redrawn w p.d) p.os) (λV=>∀w',(∃p:Regrown,w'=grow (redrawn w p.d) p.os)->wpListIn F n P l.toArray Q (l.drop m) V w') (l.take m) a):(Code.region id l.toArray true).wpIn F n P Q a w:=
 aaw m Y hB Z (KJ X _ _ h)
theorem KF(X:Jg F n P){id:Nat}{Q:Exit->Act->World->Prop}{a:Act}{w:World}{l:List Oper}(Y:P.follows .mixedOrders=true)(hB:Region.lexB .any l.toArray=true)(Z:Eb l.toArray=true)
  (h:wpQuiet P l.toArray (λw'=>∃n,w'=w.drewN n) (λV=>∀w',(∃n,w'=w.drewN n)->Q .normal V w') l a):(Code.region id l.toArray true).wpIn F n P Q a w:=
 ac4 Y hB Z (KJ X _ _ h)
theorem Ld(X:Jg F n P){id:Nat}{Q:Exit->Act->World->Prop}{a:Act}{w:World}{l:List Oper}(m:Nat)(Y:P.follows .mixedOrders=true)(hB:Region.lexTailB .any l.toArray m=true)(Z:Eb l.toArray=true)
  (h:wpQuiet P l.toArray (λw'=>∃n,w'=w.drewN n) (λV=>∀w',(∃n,w'=w.drewN n)->wpListIn F n P l.toArray Q (l.drop m) V w') (l.take m) a):(Code.region id l.toArray true).wpIn F n P Q a w:=
 aay m Y hB Z (KJ X _ _ h)
end wide
/-! ### contracts,met within a quiet walk -/
section met
variable {P:Program}{f:FuncId}{args:Array Value}{w:World}{v:Value}
theorem ahz{n:Nat}(h:Calls P f args (w.drewN n) λe w'=>e=.returned v/\w.drewN n=w'):Calls P f args (w.drewN n) λe w''=>e=.returned v/\∃m,w''=w.drewN m:=h.mono λ_ _ ⟨h1,h2⟩=>⟨h1,n,h2.symm⟩
theorem ahv{d:Nat}{os:Array Obj}(h:Calls P f args (grow (redrawn w d) os) λe w'=>e=.returned v/\grow (redrawn w d) os=w'):Calls P f args (grow (redrawn w d) os) λe w''=>e=.returned v/\∃p:Regrown,w''=grow (redrawn w p.d) p.os:=h.mono λ_ _ ⟨h1,h2⟩=>⟨h1,⟨d,os⟩,h2.symm⟩
theorem Eu{d:Nat}{os:Array Obj}(h:Calls P f args (grow (redrawn w d) os) λe w'=>e=.returned v/\Below (grow (redrawn w d) os).heap.size (grow (redrawn w d) os) w'):Calls P f args (grow (redrawn w d) os) λe w''=>e=.returned v/\∃p:Regrown,w''=grow (redrawn w p.d) p.os:=Calls.regrown_of h
end met
end
def btw(n lo Z:Int):Bool:=decide (lo<=n)&&decide (n<=Z)
def Ce(wk bl rg Y X Z fr:Int):Bool:=btw wk 1 8&&btw bl 1 256&&btw rg 1 16&&btw Y 1 16&&btw X 1 16&&btw Z 1 256&&btw fr 0 4611686018427387904
theorem Gi{wk bl rg Y X Z fr:Int}:Ce wk bl rg Y X Z fr=true↔(1<=wk/\wk<=8)/\(1<=bl/\bl<=256)/\(1<=rg/\rg<=16)/\(1<=Y/\Y<=16)/\(1<=X/\X<=16)/\(1<=Z/\Z<=256)/\(0<=fr/\fr<=4611686018427387904):=by simp[Ce,btw];omega
def FY(wk bl rg Y X Z fr L y:Int):Bool:=Ce wk bl rg Y X Z fr&&btw L 1 32&&btw y 0 2147483647
def CK(size Z:Int):Int:=Z / size+if 0<Z % size then 1 else 0
theorem JK{s b:Int}(Z:1<=s)(Y:0<=b):0<=CK s b/\CK s b<=b:=by
 unfold CK;have h1:=Int.mul_ediv_add_emod b s;have h2:0<=b / s:=Int.ediv_nonneg Y om;have h3:0<=b % s:=Int.emod_nonneg _ om;have h4:b / s*1<=s*(b / s):=by rw[Int.mul_comm s];exact ON Z h2
 split<;>omega
def wI(L B:Int)(k:Nat):Int:=min (L-1) (k*B)
def Eo(L B S:Int):Nat->Int
 |0=>0
 |k+1=>Eo L B S k+CK S (wI L B k+B)
def EA(L B S y:Int):Int:=Eo L B S (y / B).toNat+if 0<y % B then CK S (wI L B (y / B).toNat+y % B) else 0
theorem LQ{L B:Int}(Z:1<=L)(hB:1<=B)(k:Nat):0<=wI L B k/\wI L B k<=L-1:=by have:0<=(k:Int)*B:=Ma om om;unfold wI;omega
theorem akE{L B:Int}(hB:1<=B){i j:Nat}(h:i<=j)(Z:¬wI L B i<L-1):wI L B j=L-1:=by have:(i:Int)*B<=(j:Int)*B:=Int.mul_le_mul_of_nonneg_right om om;unfold wI at *;omega
def Jy(L B y:Int)(k0:Nat):List (Int×Int):=
 (if k0<(y / B).toNat then [(L - 1+B,(((y / B).toNat - k0:Nat):Int))] else [])++(if 0<y % B then [(wI L B (y / B).toNat+y % B,1)] else [])
def Gf(L B:Int)(k0:Nat):List (Int×Int):=(List.range k0).map λi=>(wI L B i+B,1)
def FW(S:Int)(l:List (Int×Int)):Int:=l.foldl (λs p=>s+p.2*CK S p.1) 0
theorem LT(S:Int)(l:List (Int×Int))(p:Int×Int):FW S (l++[p])=FW S l+p.2*CK S p.1:=by simp[FW]
theorem aco(L B:Int)(k:Nat):Gf L B (k+1)=Gf L B k++[(wI L B k+B,1)]:=by simp[Gf,El]
theorem adE(L B:Int)(k:Nat):(Gf L B k).length=k:=by simp[Gf]
theorem aeB(L B S:Int)(k:Nat):FW S (Gf L B k)=Eo L B S k:=by
 induction k with
 |zero=>rfl
 |succ k ih=>rw[aco,LT,ih,Eo];simp
theorem Oc{L B S:Int}(hB:1<=B){k0:Nat}(h:¬wI L B k0<L-1):∀d,Eo L B S (k0+d)=Eo L B S k0+d*CK S (L-1+B)
 |0=>by simp
 |d+1=>by
  have h1:=akE (B:=B) hB (show k0<=k0+d by omega) h;rw[show k0+(d+1)=(k0+d)+1 from rfl,Eo,Oc hB h d,h1];have:((d+1:Nat):Int)=(d:Int)+1:=by omega
  rw[this,Jr];omega
theorem alS{L B S y:Int}(hB:1<=B){k0:Nat}(hk:k0<=(y / B).toNat)(h:k0<(y / B).toNat->¬wI L B k0<L - 1):FW S (Gf L B k0++Jy L B y k0)=EA L B S y:=by
 have Z:FW S (Gf L B k0++(if k0<(y / B).toNat then [(L - 1+B,(((y / B).toNat - k0:Nat):Int))] else []))=Eo L B S (y / B).toNat:=by
  split
  ·rename_i X
   rw[LT,aeB];have:=Oc (S:=S) hB (h X) ((y / B).toNat - k0);rw[show k0+((y / B).toNat - k0)=(y / B).toNat by omega]at this;exact this.symm
  ·rename_i V
   rw[Cx,aeB,show k0=(y / B).toNat by omega]
 unfold Jy EA;rw[<-CE]
 by_cases Y:0<y % B
 ·rw[Vb Y,Vb Y,LT,Z];simp
 ·rw[Va Y,Va Y,Cx,Z];simp
def Cz(l s:Int):Int:=if l<1∨s<1 then 0 else CK s l
theorem agQ{l s:Int}(Z:0<=l)(Y:1<=s):Cz l s=CK s l:=by
 unfold Cz
 split
 ·rename_i h
  have:l=0:=by omega
  subst this;simp[CK]
 ·rfl
theorem aaX{B y:Int}(hB:1<=B)(Z:0<=y):(((y / B).toNat:Nat):Int)*B<=y/\((y / B).toNat:Int)<=y:=by have e:=Int.mul_ediv_add_emod y B;have V:0<=y % B:=Int.emod_nonneg _ om;have X:0<=y / B:=Int.ediv_nonneg Z om;obtain⟨q,Y⟩:∃q:Nat,y / B=q:=⟨(y / B).toNat,by omega⟩;rw[Y]at e⊢;simp only[Aa];have:(q:Int)*1<=(q:Int)*B:=ON hB om;rw[Int.mul_comm]at e;omega
theorem mixed:ZP.follows .mixedOrders=true:=by kernel_rfl
theorem MH{W Z:World}(Y:Br W Z):(∀b o,b<W.heap.size->Z.cell? ⟨b,o,none⟩=W.cell? ⟨b,o,none⟩)/\(∀b o,b<W.heap.size->Z.frozen? ⟨b,o,none⟩=W.frozen? ⟨b,o,none⟩):=⟨λb o h=>Y.cell (p:=⟨b,o,none⟩) h,λb o h=>Y.frozen (p:=⟨b,o,none⟩) h⟩
theorem JG{k:IntKind}{a b:Int}(h:a=b):Ending.returned (.int k a)=.returned (.int k b):=by rw[h]
theorem af1(size Z:Int)(w:World)(h1:1<=size)(h2:0<=Z)(h3:size<=9223372036854775807)(h4:Z<=4611686018427387904) :Calls ZP 83 #[int i64 size,int i64 Z] w λe w'=>e=.returned (int i64 (CK size Z))/\w=w':=by
 have Y:(size==0)=false:=by simp;omega
 have U:0<=Z / size:=Int.ediv_nonneg h2 om;have X:Z / size<=Z:=Int.ediv_le_self _ h2
 by_cases V:0<Z % size
 all_goals
  go_enter func83,ntmps83;go_wp2;go_ret;exact⟨JG (by unfold CK;first|rw[Vb V]|rw[Va om,Int.add_zero]),rfl⟩
theorem ad0(n:Int)(w:World) :Calls ZP 85 #[int i64 n] w λe w'=>e=.returned (bool (btw n 1 32))/\w=w':=by
 by_cases h1:1<=n
 ·by_cases h2:n<=32
  all_goals
   go_enter func85,ntmps85;go_wp2;go_ret;exact⟨by simp[btw];try omega,rfl⟩
 ·go_enter func85,ntmps85;go_wp2;go_ret;exact⟨by simp[btw];try omega,rfl⟩
theorem Nr(n:Int)(w:World) :Calls ZP 84 #[int i64 n] w λe w'=>e=.returned (bool (btw n 0 2147483647))/\w=w':=by
 by_cases h1:0<=n
 ·by_cases h2:n<=2147483647
  all_goals
   go_enter func84,ntmps84;go_wp2;go_ret;exact⟨by simp[btw];try omega,rfl⟩
 ·go_enter func84,ntmps84;go_wp2;go_ret;exact⟨by simp[btw];try omega,rfl⟩
theorem afX(n lo Z:Int)(w:World) :Calls ZP 61 #[int i64 n,int i64 lo,int i64 Z] w λe w'=>e=.returned (bool (btw n lo Z))/\w=w':=by
 by_cases h1:lo<=n
 ·by_cases h2:n<=Z
  all_goals
   go_enter func61,ntmps61;go_wp2;go_ret;exact⟨by simp[btw];try omega,rfl⟩
 ·go_enter func61,ntmps61;go_wp2;go_ret;exact⟨by simp[btw];try omega,rfl⟩
abbrev Ee(wk bl rg Y X Z fr:Int):Array Value:=#[int i64 wk,int i64 bl,int i64 rg,int i64 Y,int i64 X,int i64 Z,int i64 fr]
abbrev Cn(wk bl rg Y X Z fr L y:Int):Array Value:=#[int i64 wk,int i64 bl,int i64 rg,int i64 Y,int i64 X,int i64 Z,int i64 fr,int i64 L,int i64 y]
theorem NG(wk bl rg Y X Z fr:Int)(w:World) :Calls ZP 26 #[.agg (Ee wk bl rg Y X Z fr)] w λe w'=>e=.returned (bool (Ce wk bl rg Y X Z fr))/\Br w w':=by
 go_enter func26,ntmps26
 go_wp2_with (go_at_call 61;refine(afX _ _ _ _).mono ?_;rintro e w' ⟨rfl,rfl⟩)
 all_goals
  go_ret;exact⟨by simp[Ce, *],(AH _ _).alloc (AC _) _⟩
theorem acA(wk bl rg Y X Z fr L y:Int)(w:World) :Calls ZP 81 #[.agg (Cn wk bl rg Y X Z fr L y)] w λe w'=>e=.returned (bool (FY wk bl rg Y X Z fr L y))/\Br w w':=by
 go_enter func81,ntmps81
 go_wp2_with fail
 refine(NG _ _ _ _ _ _ _ _).mono ?_;rintro e w' ⟨rfl,V⟩;obtain⟨N,U⟩:=MH V;have hB:=((AH w.heap.size w).alloc (AC _) (.cells (Cn wk bl rg Y X Z fr L y) 139)).trans (V.mono sm)
 go_wp2_with (first|(go_at_call 85;refine(ad0 _ _).mono ?_;rintro e w' ⟨rfl,rfl⟩)|(go_at_call 84;refine(Nr _ _).mono ?_;rintro e w' ⟨rfl,rfl⟩))
 all_goals
  go_ret;exact⟨by simp[FY, *],hB⟩
theorem LO(wk bl rg Y X Z fr L y:Int)(k:Nat)(w:World)(h1:1<=L)(h2:L<=32)(h3:1<=bl)(h4:bl<=256)(hk:k<=2147483647) :Calls ZP 126 #[.agg (Cn wk bl rg Y X Z fr L y),int i64 k] w λe w'=>e=.returned (int i64 (wI L bl k))/\Br w w':=by
 have V:0<=(k:Int)*bl:=Ma om om;have p1:(k:Int)*bl<=(k:Int)*256:=ON h4 om;go_enter func126,ntmps126;go_wp2
 all_goals
  go_ret;exact⟨JG (by unfold wI;omega),(AH _ _).alloc (AC _) _⟩
section
open Go Go.RowKit Go.Sort
theorem Ak(k:FuncId):Fence.wide.fn k=True:=rfl
theorem Al:Fence.wide.depth=none:=rfl
def Kf(b:Nat)(W Z:World):Prop:=Z.heap[b]?=W.heap[b]?
theorem amw{b:Nat}{A B C:World}(h:Kf b A B)(k:Kf b B C):Kf b A C:=k.trans h
theorem ald{b:Nat}{w:World}(Y:b<w.heap.size)(W:World)(l:Nat)(o o':Obj)(Z:w.heap.size<=l)(_:W.heap[l]?=some o)(_:o.isCells=false)(_:o.isWalk=false):Kf b W (W.putObj l o'):=Cm om
def Cc(S:Nat->Prop)(W Z:World):Prop:=∀k,S k->Z.heap[k]?=W.heap[k]?
theorem GD{S:Nat->Prop}{A B C:World}(h:Cc S A B)(k:Cc S B C):Cc S A C:=λi Z=>(k i Z).trans (h i Z)
theorem JR{S:Nat->Prop}{w:World}(Z:∀k,S k->k<w.heap.size)(W:World)(l:Nat)(o o':Obj)(Y:w.heap.size<=l)(_:W.heap[l]?=some o)(_:o.isCells=false)(_:o.isWalk=false):Cc S W (W.putObj l o'):=λk hk=>Cm (by have:=Z k hk;omega)
theorem Km{w w':World}(h:Br w w'):w.grownBy w' none:=⟨h.os,h.tape,h.output,h.size,λk hk _=>h.block k hk⟩
theorem IJ{β:Type}{B:Nat}{J:β->World->Prop}(h:AbidesFrom B J){s:β}{w w':World}(Z:J s w)(Y:Br w w'):J s w':=h s w w' none Z (Km Y) (λr e=>by cases e)
theorem Nj{B:Nat}{w w':World}(h:Br w w'):KeepsFrom B w w':=⟨h.size,λk o _ hk _=>(h.block k (AD.1 hk).1).trans hk⟩
theorem Ke{S:Nat->Prop}{w w':World}(h:Br w w')(Z:∀k,S k->k<w.heap.size):Cc S w w':=λk hk=>h.block k (Z k hk)
theorem Hc{P:Program}{f:FuncId}{fn:Func}{c:Code}{args:Array Value}{w:World}{R:Ending->World->Prop}
  (Z:P.funcs[f]?=some fn) (Y:fn.body=some c)
  (h:c.wp P (bodyPostM Fence.wide 9 P fn R) {tmps:=args++Array.replicate (fn.ntmps-args.size) undef,defers:=[]} w):Calls P f args w R:=
 (callsIn_wide (n:=9)).1 (callsIn_of_wp_marks Z Y trivial (wpIn_wide.2 h) rfl)
theorem Gg{P:Program}{fn:Func}{R:Ending->World->Prop}{a:Act}{W:World}{D:Nat}{v:Value}(Y:a.defers=[{target:=.collected D,args:=#[]}])(V:W.heap[D]?=some (.deferred (some [])))
  (Z:(results fn a.tmps).run P (W.putObj D (.deferred none))=.ok v (W.putObj D (.deferred none))) (X:R (.returned v) (W.putObj D (.deferred none))):bodyPostM Fence.wide 9 P fn R .ret a W:=by
 show LeavesInM Fence.wide 9 P fn a.tmps R a.defers .returning W;rw[Y];refine⟨by simp,.inl ⟨_,_,rfl,run_takeDeferred V,?_⟩⟩;exact⟨_,Z,X⟩
theorem aon{P:Program}{fn:Func}{R:Ending->World->Prop}{a:Act}{W:World}{D:Nat}{v:Value}(Y:a.defers=[{target:=.collected D,args:=#[]}])(V:W.heap[D]?=some (.deferred (some [])))
  (Z:(results fn a.tmps).run P (W.putObj D (.deferred none))=.ok v (W.putObj D (.deferred none))) (X:R (.returned v) (W.putObj D (.deferred none))):bodyPostM Fence.wide 9 P fn R .normal a W:=
 Gg Y V Z X
theorem aps{P:Program}{fn:Func}{R:Ending->World->Prop}{a:Act}{W:World}{v:Value}(Y:a.defers=[])
  (Z:(results fn a.tmps).run P W=.ok v W) (X:R (.returned v) W):bodyPostM Fence.wide 9 P fn R .ret a W:=by
 show LeavesInM Fence.wide 9 P fn a.tmps R a.defers .returning W;rw[Y];exact⟨_,Z,X⟩
theorem FZ{Z D:Nat}{w W:World}(hB:Below Z w W)(X:Z<=D)(Y:Z<=w.heap.size)(o':Obj):Below Z w (W.putObj D o'):=hB.grown (grownBy_putObj' W D o') (AS Y hB.size) (λk e=>by cases e;exact X)
theorem KI{P:Program}{α:Type}{g:Operand}{H:Array Tmp}{assign body:Code}{Q:Exit->Act->World->Prop}{a:Act}{w:World}{U:Nat}{e:Array Value}
  (hg:a.eval g=.func (.func U) #[] e) (eg:∀args w,(callFunc U args).run P w=.ok (.enter U args) w)
  {Y:α->Array Value} {X:World->World->Prop} {S Sp:List α->Prop} {N:Nat} (V:SeqStopsK Fence.wide 8 P U e Y X S Sp N w)
  (s:∀{A B C:World},X A B->X B C->X A C) (hKb:∀(W:World)(l:Nat)(o o':Obj),w.heap.size<=l->W.heap[l]?=some o->o.isCells=false->o.isWalk=false->X W (W.putObj l o')) (y:∀x,(Y x).size=H.size)
  (I:List α->World->Prop) (J:Code->List α->World->Prop) (hI:OwnFrom w.heap.size I) (hIx:∀c,OwnFrom w.heap.size (J c)) (h0:I [] w) (j:α->Act)
  (hassign:∀(l:Nat) (x:α) (W:World) (K:Act->World->Prop),K (j x) W->
   assign.wpIn (Fence.wide.inRound l) 7 P (Exit.then K (λ_ _ _=>False)) {tmps:=(H.zip (Y x)).foldl (λt (p,v)=>t.setIfInBounds p v) a.tmps,defers:=[]} W)
  (hbody:∀(l:Nat)(Z:List α)(x:α)(W:World),I Z W->Z.length<N->body.wpIn (Fence.wide.inRound l) 7 P (ownPostG w.heap.size X I J (Z++[x]) W) (j x) W)
  (hdone:∀(D:Nat)(xs:List α)(W:World),w.heap.size<=D->S xs->I xs W->W.heap[D]?=some (.deferred (some []))->Q .normal {a with defers:={target:=.collected D,args:=#[]}::a.defers} W)
  (hstop:∀(D:Nat)(c:Code)(Z:List α)(W:World),w.heap.size<=D->Sp Z->J c Z W->W.heap[D]?=some (.deferred (some []))->c.wp P Q {a with defers:={target:=.collected D,args:=#[]}::a.defers} W) :
  (Code.rangeFunc g H assign body).wp P Q a w:=
 (wpIn_wide (n:=9)).1 (wpIn_rangeFunc_ownG rfl (by decide) hg trivial eg V s hKb (AH _ _) y I J hI hIx h0 j hassign hbody hdone
  (λD c Z W h1 h2 h3 h4=>wpIn_wide.2 (hstop D c Z W h1 h2 h3 h4)))
end
section
attribute[local go_sem] Oper.semAt_some
attribute[local simp] Ak Al
attribute[local go_sem] Ak Al
abbrev Blk:={p:Int×Int // 0<=p.1/\p.1<=1000/\0<=p.2/\p.2<=2147483647}
def Je(p:Blk):Array Value:=#[int i64 p.1.1,int i64 p.1.2]
def adh(L B y:Int)(xs:List Blk):Prop:=∃k0:Nat,k0<=(y / B).toNat/\(k0<(y / B).toNat->¬wI L B k0<L - 1)/\xs.map (·.1)=Gf L B k0++Jy L B y k0
theorem ajK(wk bl rg j ou o fr L y:Int)(n:Nat)(l N:Nat)(h1:1<=L)(h2:L<=32)(h3:1<=bl)(h4:bl<=256)(h5:0<=y)(h6:y<=2147483647)(J Jx:List Blk->World->Prop)(W:World)
  (hJ:AbidesFrom W.heap.size J) (aB:AbidesFrom W.heap.size Jx)
  (hY:∀Z x W1,J Z W1->Z.length<34->YieldAt Fence.wide (n-1) ZP l (Je x) W1 λe W'=>
   (e=.returned (bool true)/\J (Z++[x]) W'/\Kf N W1 W')∨(e=.returned (bool false)/\Jx (Z++[x]) W'))
  (af:W.heap[N]?=some (.cells (Cn wk bl rg j ou o fr L y) 139 (0,0))) (h0:J [] W) :
  CallsIn Fence.wide n ZP 125 #[.func (.yield l) #[] #[],.pointer (some ⟨N,0,none⟩)] W λe W'=>(∃v,e=.returned v)/\
   ((∃xs,adh L bl y xs/\J xs W')∨(∃Z,True/\Jx Z W')):=by
 obtain⟨K,hK⟩:∃K:Nat,y / bl=K:=⟨(y / bl).toNat,by have:=Int.ediv_nonneg h5 (show 0<=bl by omega);omega⟩;obtain⟨R,hR⟩:∃R:Int,y % bl=R:=⟨_,rfl⟩;have az:0<=R:=by rw[<-hR];exact Int.emod_nonneg _ om
 have ay:R<bl:=by rw[<-hR];exact Int.emod_lt_of_pos _ om
 have aA:(K:Int)<=2147483647:=by have:=(aaX (B:=bl) h3 h5).2;rw[hK]at this;simp at this;omega
 have aw:(bl==0)=false:=by simp;omega
 have HS:Hid (∀k0:Nat,k0<=K->(k0<K->¬wI L bl k0<L-1)->∀xs:List Blk,xs.map (·.1)=Gf L bl k0++Jy L bl y k0->adh L bl y xs):=by intro k0 a b xs e;exact⟨k0,by rw[hK];simpa using a,by rw[hK];simpa using b,e⟩
 have HT:Hid (∀k0,Jy L bl y k0=(if k0<K then [(L-1+bl,((K-k0:Nat):Int))] else [])++(if 0<R then [(wI L bl K+R,1)] else [])):=by intro k0;unfold Jy;rw[hK,hR,Aa]
 have cells:∀w:World,w.heap[N]?=some (.cells (Cn wk bl rg j ou o fr L y) 139 (0,0))->
   w.cell? ⟨N,0,none⟩=some (int i64 wk)/\w.cell? ⟨N,1,none⟩=some (int i64 bl)/\w.cell? ⟨N,2,none⟩=some (int i64 rg)/\w.cell? ⟨N,3,none⟩=some (int i64 j)/\w.cell? ⟨N,4,none⟩=some (int i64 ou)/\w.cell? ⟨N,5,none⟩=some (int i64 o)/\w.cell? ⟨N,6,none⟩=some (int i64 fr)/\w.cell? ⟨N,7,none⟩=some (int i64 L)/\w.cell? ⟨N,8,none⟩=some (int i64 y):=by
  intro w h;simp[cell?,h]
 obtain⟨c0,c1,c2,c3,c4,c5,s,A,C⟩:=cells W af;refine callsIn_of_wp func125 rfl trivial ?_ rfl;simp only[ntmps125,Cw,Ao,Bw,Nat.reduceAdd,Nat.reduceSub,Dd,Dc,DX,Da,Av,CT]
 gi_wp2
 refine KF (FL _ _) mixed kr kr ?_
 repeat (go_big_quiet_step (fail))
 refine wpQuiet_nil ?_;rintro _ ⟨nq,rfl⟩
 gi_wp2
 have ar:Br W (W.drewN nq):=⟨rfl,rfl,rfl,AC _,λ_ _=>rfl⟩;rw[hK,hR]
 gi_loopw [5] (λi wr=>∃(k:Nat) (Z:List Blk),k<=K/\(k:Int)<=L-1/\i=.int .i64 k/\Z.map (·.1)=Gf L bl k/\J Z wr/\wr.heap[N]?=some (.cells (Cn wk bl rg j ou o fr L y) 139 (0,0)))
  (λi _=>K-(intOf i).toNat)
 case atStart=>exact⟨0,[],AR _,by omega,rfl,rfl,IJ hJ h0 ar,af⟩
 case round=>
  obtain⟨k,Z,hk,ax,rfl,I,hj,V⟩:=hrel;clear c0 c1 c2 c3 c4 c5 s A C af;obtain⟨c0,c1,c2,c3,c4,c5,s,A,C⟩:=cells wr V;have hw:=LQ (L:=L) (B:=bl) h1 h3 k;have HL:Hid (wI L bl k<L-1->((k+1:Nat):Int)<=L-1):=by intro h;have:(k:Int)*1<=(k:Int)*bl:=ON h3 om;unfold wI at h;omega
  have av:Z.length=k:=by have:=congrArg List.length I;simpa[adE]using this
  by_cases ai:k<K
  ·by_cases ap:wI L bl k<L-1
   ·have k0:=Vi c0;have k1:=Vi c1;have k2:=Vi c2;have k3:=Vi c3;have k4:=Vi c4;have k5:=Vi c5;have k6:=Vi s;have k7:=Vi A;have k8:=Vi C;have cW:∀d os,Calls ZP 126 #[.agg (Cn wk bl rg j ou o fr L y),int i64 k] (grow (redrawn wr d) os) λe w''=>e=.returned (int i64 (wI L bl k))/\∃p:Regrown,w''=grow (redrawn wr p.d) p.os:=
     λd os=>Calls.regrown_of (LO wk bl rg j ou o fr L y k _ h1 h2 h3 h4 om)
    gi_wp2
    refine Le (FL _ _) mixed kr kr ?_
    repeat (go_big_quiet_step (exact cW _ _))
    refine wpQuiet_nil ?_;rintro _ ⟨⟨dq,H⟩,rfl⟩;obtain⟨U,X⟩:∃U,grow (redrawn wr dq) H=U:=⟨_,rfl⟩;rw[X];have D:Br wr U:=X ▸ Vf wr dq H;clear X k0 k1 k2 k3 k4 k5 k6 k7 k8 cW c0 c1 c2 c3 c4 c5 s A C;have Y:U.heap[N]?=_:=(D.block N (AD.1 V).1).trans V;obtain⟨c0,c1,c2,c3,c4,c5,s,A,C⟩:=cells U Y;have k0:=Vi c0;have k1:=Vi c1;have k2:=Vi c2;have k3:=Vi c3;have k4:=Vi c4;have k5:=Vi c5;have k6:=Vi s;have k7:=Vi A;have k8:=Vi C;have cW:∀d os,Calls ZP 126 #[.agg (Cn wk bl rg j ou o fr L y),int i64 k] (grow (redrawn U d) os) λe w''=>e=.returned (int i64 (wI L bl k))/\∃p:Regrown,w''=grow (redrawn U p.d) p.os:=
     λd os=>Calls.regrown_of (LO wk bl rg j ou o fr L y k _ h1 h2 h3 h4 om)
    gi_wp2
    refine aaE (FL _ _) 8 mixed kr kr ?_;dsimp only[List.take_succ_cons,List.take_zero,List.drop_succ_cons,List.drop_zero]
    repeat (go_big_quiet_step (exact cW _ _))
    refine wpQuiet_nil ?_;rintro _ ⟨⟨ao,a6⟩,rfl⟩;obtain⟨W3,ab⟩:∃W3,grow (redrawn U ao) a6=W3:=⟨_,rfl⟩;rw[ab];have ak:Br U W3:=ab ▸ Vf U ao a6;clear ab k0 k1 k2 k3 k4 k5 k6 k7 k8 cW c0 c1 c2 c3 c4 c5 s A C;have am:W3.heap[N]?=_:=(ak.block N (AD.1 Y).1).trans Y;obtain⟨fn,tmps,assign,body,hy,ae⟩:=hY Z ⟨(wI L bl k+bl,1),by simp;omega,by simp;omega,by simp,by simp⟩ W3 (IJ hJ (IJ hJ hj D) ak) om;dsimp only[Je]at hy
    gi_wp2
    refine ae.mono ?_;rintro e W4 (⟨rfl,hJ4,hk4⟩|⟨rfl,hJx4⟩)
    ·gi_wp2
     go_roundw
     case rel=>exact⟨k+1,_,by omega,HL.out ap,by go_num,by rw[aco];simp[I],hJ4,hk4.trans am⟩
     case measure=>simp[intOf];omega
    ·gi_wp2
     refine Vl (results_none rfl _ _ _) rfl ?_;exact⟨⟨_,rfl⟩,.inr ⟨_,trivial,hJx4⟩⟩
   ·have k0:=Vi c0;have k1:=Vi c1;have k2:=Vi c2;have k3:=Vi c3;have k4:=Vi c4;have k5:=Vi c5;have k6:=Vi s;have k7:=Vi A;have k8:=Vi C;have cW:∀d os,Calls ZP 126 #[.agg (Cn wk bl rg j ou o fr L y),int i64 k] (grow (redrawn wr d) os) λe w''=>e=.returned (int i64 (wI L bl k))/\∃p:Regrown,w''=grow (redrawn wr p.d) p.os:=
     λd os=>Calls.regrown_of (LO wk bl rg j ou o fr L y k _ h1 h2 h3 h4 om)
    gi_wp2
    refine Le (FL _ _) mixed kr kr ?_
    repeat (go_big_quiet_step (exact cW _ _))
    refine wpQuiet_nil ?_;rintro _ ⟨⟨dq,H⟩,rfl⟩;obtain⟨U,X⟩:∃U,grow (redrawn wr dq) H=U:=⟨_,rfl⟩;rw[X];have D:Br wr U:=X ▸ Vf wr dq H;clear X k0 k1 k2 k3 k4 k5 k6 k7 k8 cW c0 c1 c2 c3 c4 c5 s A C;have Y:U.heap[N]?=_:=(D.block N (AD.1 V).1).trans V;obtain⟨c0,c1,c2,c3,c4,c5,s,A,C⟩:=cells U Y;obtain⟨fn,tmps,assign,body,hy,ae⟩:=hY Z ⟨(L-1+bl,(K:Int)-(k:Int)),by simp;omega,by simp;omega,by simp;omega,by simp;omega⟩ U (IJ hJ hj D) om;dsimp only[Je]at hy
    gi_wp2
    refine ae.mono ?_;clear c0 c1 c2 c3 c4 c5 s A C;rintro e W4 (⟨rfl,hJ4,hk4⟩|⟨rfl,hJx4⟩)
    ·have al:W4.heap[N]?=_:=hk4.trans Y;obtain⟨c0,c1,c2,c3,c4,c5,s,A,C⟩:=cells _ al
     by_cases ac:0<R
     ·gi_wp2_with fail
      refine(callsIn_wide.2 (LO wk bl rg j ou o fr L y K _ h1 h2 h3 h4 om)).mono ?_;rintro e W6 ⟨rfl,aa⟩;have aq:=LQ (L:=L) (B:=bl) h1 h3 K;obtain⟨au,a7,a2,ag,a8,a1⟩:=hY (Z++[⟨(L-1+bl,(K:Int)-(k:Int)),_⟩]) ⟨(wI L bl K+R,1),by simp;omega,by simp;omega,by simp,by simp⟩ W6 (IJ hJ hJ4 aa) (by simp;omega);dsimp only[Je]at a8
      gi_wp2
      refine a1.mono ?_;rintro e W7 (⟨rfl,hJ7,hk7⟩|⟨rfl,hJx7⟩)
      ·gi_wp2
       go_end0
       exact⟨⟨_,rfl⟩,.inl ⟨_,HS.out k hk (λ_=>by omega) _ (by rw[HT.out k];simp[I,ac,ai,Int.ofNat_sub hk]),hJ7⟩⟩
      ·gi_wp2
       go_end0
       exact⟨⟨_,rfl⟩,.inr ⟨_,trivial,hJx7⟩⟩
     ·gi_wp2
      go_end0
      exact⟨⟨_,rfl⟩,.inl ⟨_,HS.out k hk (λ_=>by omega) _ (by rw[HT.out k,Va (by omega:¬0<R)];simp[I,ai,Int.ofNat_sub hk]),hJ4⟩⟩
    ·gi_wp2
     refine Vl (results_none rfl _ _ _) rfl ?_;exact⟨⟨_,rfl⟩,.inr ⟨_,trivial,hJx4⟩⟩
  ·obtain rfl:k=K:=by omega
   gi_wp2
   refine Le (FL _ _) mixed kr kr ?_
   repeat (go_big_quiet_step (fail))
   refine wpQuiet_nil ?_;rintro _ ⟨⟨dq,H⟩,rfl⟩;obtain⟨U,X⟩:∃U,grow (redrawn wr dq) H=U:=⟨_,rfl⟩;rw[X];have D:Br wr U:=X ▸ Vf wr dq H;clear X c0 c1 c2 c3 c4 c5 s A C;have Y:U.heap[N]?=_:=(D.block N (AD.1 V).1).trans V;have aj:=IJ hJ hj D;obtain⟨c0,c1,c2,c3,c4,c5,s,A,C⟩:=cells _ Y
   by_cases ac:0<R
   ·gi_wp2_with fail
    refine(callsIn_wide.2 (LO wk bl rg j ou o fr L y k _ h1 h2 h3 h4 om)).mono ?_;rintro e W6 ⟨rfl,aa⟩;have aq:=LQ (L:=L) (B:=bl) h1 h3 k;obtain⟨au,a7,a2,ag,a8,a1⟩:=hY (Z) ⟨(wI L bl k+R,1),by simp;omega,by simp;omega,by simp,by simp⟩ W6 (IJ hJ aj aa) om;dsimp only[Je]at a8
    gi_wp2
    refine a1.mono ?_;rintro e W7 (⟨rfl,hJ7,hk7⟩|⟨rfl,hJx7⟩)
    ·gi_wp2
     go_end0
     exact⟨⟨_,rfl⟩,.inl ⟨_,HS.out k hk (λh=>by omega) _ (by rw[HT.out k];simp[I,ac]),hJ7⟩⟩
    ·gi_wp2
     go_end0
     exact⟨⟨_,rfl⟩,.inr ⟨_,trivial,hJx7⟩⟩
   ·gi_wp2
    go_end0
    exact⟨⟨_,rfl⟩,.inl ⟨_,HS.out k hk (λh=>by omega) _ (by rw[HT.out k,Va (by omega:¬0<R)];simp[I]),aj⟩⟩
end
section
attribute[local go_sem] Oper.semAt_some
attribute[local simp] Ak Al
attribute[local go_sem] Ak Al
theorem aep(wk bl rg U N V fr L y:Int)(n Y:Nat)(h1:1<=L)(h2:L<=32)(h3:1<=bl)(h4:bl<=256)(h5:0<=y)(h6:y<=2147483647)(w:World)
  (Z:w.heap[Y]?=some (.cells (Cn wk bl rg U N V fr L y) 139 (0,0))) :
  SeqStopsK Fence.wide n ZP 125 #[pointer (some ⟨Y,0,none⟩)] Je (Kf Y) (adh L bl y) (λ_=>True) 34 w:=
 λl J D W hW H X I h0=>ajK wk bl rg U N V fr L y n l Y h1 h2 h3 h4 h5 h6 J D W H X I ((hW.block Y (AD.1 Z).1).trans Z) h0
theorem ahS(wk bl rg Y X Z fr L y:Int)(w:World) :Calls ZP 82 #[.agg (Cn wk bl rg Y X Z fr L y)] w λe w'=>e=.returned (.func (.func 125) #[] #[pointer (some ⟨w.heap.size,0,none⟩)])/\w'=w.alloc (.cells (Cn wk bl rg Y X Z fr L y) 139):=by go_enter func82,ntmps82;go_wp2;go_ret;exact⟨rfl,rfl⟩
theorem aka(wk bl rg Y X Z fr L y:Int)(w:World)(V:FY wk bl rg Y X Z fr L y=false) :Calls ZP 48 #[.agg (Ee wk bl rg Y X Z fr),int i64 L,int i64 y] w λe w'=>e=.returned (.tuple #[int i64 0,int i64 2])/\Br w w':=by
 go_enter func48,ntmps48
 go_wp2_with fail
 refine(acA _ _ _ _ _ _ _ _ _ _).mono ?_;rintro e w' ⟨rfl,U⟩;rw[V];go_wp2;go_ret2;exact⟨rfl,(((AH _ _).alloc (AC _) _).alloc sm _).trans (U.mono (by simp;omega))⟩
theorem ank{S:Int}(J:1<=S)(xs:List Blk):0<=FW S (xs.map (·.1))/\FW S (xs.map (·.1))<=xs.length*2147483647000:=by
 obtain⟨n,Z⟩:∃n,xs.length=n:=⟨_,rfl⟩
 induction n generalizing xs with
 |zero=>obtain rfl:=Bz Z;simp[FW]
 |succ n ih'=>
  obtain⟨l,x,rfl⟩:∃l x,xs=l++[x]:=⟨xs.dropLast,xs.getLast (by intro h;simp[h]at Z),(Em _).symm⟩;have H:=ih' l (by simpa using Z);obtain⟨⟨d,b⟩,Y,N,V,X⟩:=x;have U:=JK J Y;dsimp only at *;have I:0<=b*CK S d:=Ma V U.1;have m1:b*CK S d<=2147483647*1000:=Int.mul_le_mul X om U.1 om;rw[Aj,BO,DE,LT];simp only[List.length_append,Ao,Bw];omega
theorem aic(wk bl rg X V Z fr L y:Int)(w:World)(hr:FY wk bl rg X V Z fr L y=true) :Calls ZP 48 #[.agg (Ee wk bl rg X V Z fr),int i64 L,int i64 y] w λe w'=>e=.returned (.tuple #[int i64 (EA L bl Z y),int i64 0])/\Br w w':=by
 have v:=hr;simp only[FY,Bq,Gi,btw,decide_eq_true_eq]at v;obtain⟨⟨⟨_,⟨b1,b2⟩,_,_,_,⟨s1,s2⟩,_⟩,l1,l2⟩,y1,y2⟩:=v;refine Hc func48 rfl ?_;simp only[ntmps48,Cw,Ao,Bw,Nat.reduceAdd,Nat.reduceSub,Dd,Dc,DX,Da,Av,CT]
 go_wp2_with fail
 refine(acA _ _ _ _ _ _ _ _ _ _).mono ?_;rintro e Y ⟨rfl,hb⟩;rw[hr];obtain⟨hc,hf⟩:=MH hb;have aa:Br w Y:=(((AH _ _).alloc (AC _) _).alloc sm _).trans (hb.mono (by simp;omega));have ac:w.heap.size+1<Y.heap.size:=by have:=hb.size;simp at this;omega
 have a7:Y.heap[w.heap.size+1]?=some (.cells (Cn wk bl rg X V Z fr L y) 139 (0,0)):=by
  refine(hb.block _ sm).trans ?_;have:=AT (w.alloc (.cells (Ee wk bl rg X V Z fr) 26)) (.cells (Cn wk bl rg X V Z fr L y) 139)
  rwa[DN]at this
 go_wp2_with (go_at_call 82;refine(ahS _ _ _ _ _ _ _ _ _ _).mono ?_;rintro e w' ⟨rfl,rfl⟩)
 have a1:((Y.alloc (.cells #[int i64 0] 3)).alloc (.cells (Cn wk bl rg X V Z fr L y) 139)).heap[Y.heap.size+1]?=some (.cells (Cn wk bl rg X V Z fr L y) 139 (0,0)):=by
  have:=AT (Y.alloc (.cells #[int i64 0] 3)) (.cells (Cn wk bl rg X V Z fr L y) 139)
  rwa[DN]at this
 have bM:=(Boxed.new Y 3 (int i64 0)).alloc (.cells (Cn wk bl rg X V Z fr L y) 139);have a8:Br w ((Y.alloc (.cells #[int i64 0] 3)).alloc (.cells (Cn wk bl rg X V Z fr L y) 139)):=(aa.alloc om _).alloc (by simp;omega) _;have a6:((Y.alloc (.cells #[int i64 0] 3)).alloc (.cells (Cn wk bl rg X V Z fr L y) 139)).heap[w.heap.size+1]?=some (.cells (Cn wk bl rg X V Z fr L y) 139 (0,0)):=by rw[Bg _ _ _ (by simp;omega),Bg _ _ _ om];exact a7
 apply KI rfl (enters_of func125 kr rfl) (aep wk bl rg X V Z fr L y 8 (Y.heap.size+1) l1 l2 b1 b2 y1 y2 _ a1) amw (ald sm) (λ_=>rfl)
  (λU W=>Boxed W Y.heap.size 3 (int i64 (FW Z (U.map (·.1))))/\Br w W/\W.heap[w.heap.size+1]?=some (.cells (Cn wk bl rg X V Z fr L y) 139 (0,0)))
  (λ_ _ _=>False)
 case hI=>
  refine OwnFrom.and (Own.from (boxed_own _ _ _) _) (OwnFrom.and (ownFrom_below (AC _) (by simp;omega)) ?_);exact λs A B row H hg C=>(hg.block _ (AD.1 H).1 (λe=>by have:=(C _ e.symm).1;simp at this;omega)).trans H
 case hIx=>exact λ_ _ _ _ _ H _ _=>H
 case h0=>exact⟨bM,a8,a6⟩
 case hassign=>
  intro l x W K hK;unfold Je
  gi_wp2
  exact hK
 case hbody=>
  rintro l U ⟨⟨d,b⟩,N,a2,j,o⟩ W ⟨hM,hB,hR⟩ ab;dsimp only at N a2 j o⊢;have hp:=JK s1 N;have H:=ank s1 U;have m0:0<=b*CK Z d:=Ma j hp.1;have m1:b*CK Z d<=2147483647*1000:=Int.mul_le_mul o om hp.1 om;have hc:=hM.cell;have hf:=hM.frozen;have ae:W.cell? ⟨w.heap.size+1,5,none⟩=some (int i64 Z):=by simp[cell?,hR]
  gi_wp2
  refine Ld (OV _ _ _) 9 mixed kr kr ?_;dsimp only[List.take_succ_cons,List.take_zero,List.drop_succ_cons,List.drop_zero]
  repeat (go_big_quiet_step (exact ahz (af1 Z d _ s1 N om om)))
  refine wpQuiet_nil ?_;rintro _ ⟨nq,rfl⟩
  gi_wp2
  have kO:=(Jp W ⟨Y.heap.size,0,none⟩ (int i64 (FW Z (U.map (·.1))+b*CK Z d))).from ((Y.alloc (.cells #[int i64 0] 3)).alloc (.cells (Cn wk bl rg X V Z fr L y) 139)).heap.size;have I:=hB.setCell (p:=⟨Y.heap.size,0,none⟩) (by show w.heap.size<=Y.heap.size;omega) (int i64 (FW Z (U.map (·.1))+b*CK Z d));refine⟨⟨kO.size,kO.same⟩,?_,?_,⟨I.os,I.tape,I.output,I.size,I.block⟩,?_⟩
  ·exact AQ W ⟨Y.heap.size,0,none⟩ _ _ sm
  ·rw[Aj,BO,DE,LT];exact hM.set _
  ·exact(AQ W ⟨Y.heap.size,0,none⟩ _ _ (by simp;omega)).trans hR
 case hdone=>
  rintro D xs W hD hS ⟨hM,hB,hR⟩ hK;have hc:=hM.cell;have hT:Hid (FW Z (xs.map (·.1))=EA L bl Z y):=by obtain⟨k0,hk,J,hx⟩:=hS;rw[hx];exact alS b1 hk J
  go_wp2;refine Gg rfl hK (results_tmp2 rfl _ _ _) ⟨?_,FZ hB (by simp at hD;omega) (AC _) _⟩;rw[<-hT.out]
  rfl
 case hstop=>exact λ_ _ _ _ _ _ h _=>h.elim
end
theorem af0{α:Type}{l:List α}{k:Nat}{x:α}(h:l[k]?=some x):l.take (k+1)=l.take k++[x]:=by rw[LH,h];rfl
/-! ### the functions' answers -/
section answers
variable (wk bl rg qu ou sl fr:Int)
def IU(L y:Int):Int:=if FY wk bl rg qu ou sl fr L y then EA L bl sl y else 0
def Hv(L y:Int):Int:=if FY wk bl rg qu ou sl fr L y then 0 else 2
def IS(L y r h:Int):Bool:=FY wk bl rg qu ou sl fr L y&&btw r 0 2147483647&&btw h 0 2147483647
def Hs(L y r h:Int):Int:=if IS wk bl rg qu ou sl fr L y r h then 6*Cz y bl+r+wk+EA L bl sl y+2*h+5 else 0
def Ht(L y r h:Int):Int:=if IS wk bl rg qu ou sl fr L y r h then 0 else 2
def MI:Int:=if Ce wk bl rg qu ou sl fr then 2*wk+qu+4 else 0
def MJ:Int:=if Ce wk bl rg qu ou sl fr then 0 else 2
def Lc(L:Int):Bool:=Ce wk bl rg qu ou sl fr&&btw L 1 32
def La(L:Int):Int:=if Lc wk bl rg qu ou sl fr L then rg*(bl+L-1) else 0
def Lb(L:Int):Int:=if Lc wk bl rg qu ou sl fr L then 0 else 2
end answers
def Ez(size:Int)(l:List Int):Int:=l.foldl (λs n=>s+Cz n size) 0
theorem aeP(size:Int)(l:List Int)(n:Int):Ez size (l++[n])=Ez size l+Cz n size:=by simp[Ez]
theorem ahE{size:Int}(h:size<1)(l:List Int):Ez size l=0:=by
 have:∀(l:List Int)(a:Int),l.foldl (λs n=>s+Cz n size) a=a:=by
  intro l
  induction l with
  |nil=>intro a;rfl
  |cons n l ih=>intro a;rw[List.foldl_cons,ih];simp[Cz,h]
 exact this l 0
theorem ad3{n size:Int}:0<=Cz n size/\(Cz n size<=n∨Cz n size=0):=by
 unfold Cz
 split
 ·exact⟨by omega,.inr rfl⟩
 ·rename_i h
  have:=JK (s:=size) (b:=n) om om;omega
theorem anO(size:Int){M:Int}(U:0<=M):∀(l:List Int),(∀n∈l,n<=M)->0<=Ez size l/\Ez size l<=l.length*M:=by
 intro l;obtain⟨n,Y⟩:∃n,l.length=n:=⟨_,rfl⟩
 induction n generalizing l with
 |zero=>obtain rfl:=Bz Y;simp[Ez]
 |succ n ih'=>
  obtain⟨Z,x,rfl⟩:∃Z x,l=Z++[x]:=⟨l.dropLast,l.getLast (by intro h;simp[h]at Y),(Em _).symm⟩;intro h;have X:=ih' Z (by simpa using Y) (λn Y=>h n (by simp[Y]));have V:=h x sm;have ho:=ad3 (n:=x) (size:=size);rw[aeP];have e:((Z++[x]).length:Int)*M=Z.length*M+M:=by simp[Jr]
  rw[e];omega
/-! ### sizes -/
theorem aix{L B S:Int}(Y:1<=L)(hB:1<=B)(Z:1<=S):∀k,0<=Eo L B S k/\Eo L B S k<=k*(L-1+B)
 |0=>by simp[Eo]
 |k+1=>by
  have X:=aix Y hB Z k;have V:=LQ (L:=L) (B:=B) Y hB k;have U:=JK (s:=S) (b:=wI L B k+B) Z om;have e:((k+1:Nat):Int)*(L-1+B)=k*(L-1+B)+(L-1+B):=by rw[LK,Jr];simp
  rw[Eo,e];omega
theorem ak4{L B S y:Int}(X:1<=L)(V:L<=32)(hB:1<=B)(U:B<=256)(Y:1<=S)(Z:0<=y):0<=EA L B S y/\EA L B S y<=y*287+287:=by
 have h1:=aix (S:=S) X hB Y (y / B).toNat;have h2:=(aaX hB Z).2;have h3:(((y / B).toNat:Nat):Int)*(L - 1+B)<=y*287:=Int.mul_le_mul h2 om om Z;have J:=LQ (L:=L) (B:=B) X hB (y / B).toNat;have N:0<=y % B:=Int.emod_nonneg _ om;have m1:y % B<B:=Int.emod_lt_of_pos _ om;have I:=JK (s:=S) (b:=wI L B (y / B).toNat+y % B) Y om;unfold EA
 split<;>omega
/-! ### the document's loop -/
def Sl1{α:Type}(enc:α->Value)(w:World)(a:Option Addr)(len:Nat)(xs:List α):Prop:=
 xs.length=len/\(len=0∨∃b off,a=some ⟨b,off,none⟩/\b<w.heap.size/\∀i x,xs[i]?=some x->w.cell? ⟨b,off+i,none⟩=some (enc x))
theorem Sl1.below{α:Type}{enc:α->Value}{w w':World}{a:Option Addr}{len:Nat}{xs:List α}(h:Sl1 enc w a len xs)(Y:Br w w'):Sl1 enc w' a len xs:=by
 obtain⟨h1,h2|⟨b,off,e,Z,V⟩⟩:=h
 ·exact⟨h1,.inl h2⟩
 ·exact⟨h1,.inr ⟨b,off,e,Af Z Y.size,λi x X=>(Y.cell (p:=⟨b,off+i,none⟩) Z).trans (V i x X)⟩⟩
theorem aen(wk bl rg Y X Z fr:Int)(w:World) :Calls ZP 20 #[.agg (Ee wk bl rg Y X Z fr)] w λe w'=>e=.returned (.tuple #[int i64 (MI wk bl rg Y X Z fr),int i64 (MJ wk bl rg Y X Z fr)])/\Br w w':=by
 go_enter func20,ntmps20
 go_wp2_with fail
 refine(NG _ _ _ _ _ _ _ _).mono ?_;rintro e w' ⟨rfl,V⟩;obtain⟨J,N⟩:=MH V;have hB:Br w w':=((AH _ _).alloc (AC _) _).trans (V.mono sm)
 by_cases h:Ce wk bl rg Y X Z fr=true
 ·have U:=Gi.1 h;obtain⟨⟨_,_⟩,_,_,⟨_,_⟩,_⟩:=U;rw[h];go_wp2;go_ret2;exact⟨by simp[MI,MJ,h],hB⟩
 ·have h2:Ce wk bl rg Y X Z fr=false:=by simpa using h
  rw[h2];go_wp2;go_ret2;exact⟨by simp[MI,MJ,h2],hB⟩
theorem alw(wk bl rg Y X Z fr L:Int)(w:World) :Calls ZP 50 #[.agg (Ee wk bl rg Y X Z fr),int i64 L] w λe w'=>e=.returned (.tuple #[int i64 (La wk bl rg Y X Z fr L),int i64 (Lb wk bl rg Y X Z fr L)])/\Br w w':=by
 go_enter func50,ntmps50
 go_wp2_with fail
 refine(NG _ _ _ _ _ _ _ _).mono ?_;rintro e w' ⟨rfl,J⟩;obtain⟨C,D⟩:=MH J;have hB:Br w w':=((AH _ _).alloc (AC _) _).trans (J.mono sm)
 by_cases h:Ce wk bl rg Y X Z fr=true
 ·by_cases N:btw L 1 32=true
  ·have I:=Gi.1 h;obtain⟨⟨_,_⟩,⟨_,_⟩,⟨_,_⟩,⟨_,_⟩,_⟩:=I;have U:=N;simp only[btw,Bq,decide_eq_true_eq]at U;obtain⟨_,_⟩:=U;have H:0<=rg*(bl+L-1):=Ma om om;have m1:rg*(bl+L-1)<=16*287:=Int.mul_le_mul om om om om;rw[h]
   go_wp2_with (go_at_call 85;refine(ad0 _ _).mono ?_;rintro e w' ⟨rfl,rfl⟩;rw[N])
   go_ret2;exact⟨by simp[La,Lb,Lc,h,N],hB⟩
  ·have V:btw L 1 32=false:=by simpa using N
   rw[h]
   go_wp2_with (go_at_call 85;refine(ad0 _ _).mono ?_;rintro e w' ⟨rfl,rfl⟩;rw[V])
   go_ret2;exact⟨by simp[La,Lb,Lc,h,V],hB⟩
 ·have h2:Ce wk bl rg Y X Z fr=false:=by simpa using h
  rw[h2];go_wp2;go_ret2;exact⟨by simp[La,Lb,Lc,h2],hB⟩
theorem aap(size:Int)(a:Option Addr)(len cap:Nat)(zs:List Int)(w:World)(hs:-9223372036854775808<=size/\size<=9223372036854775807)(hl:len<=60)(Y:∀n∈zs,n<=1099511627776)(h:Sl1 (int i64) w a len zs) :Calls ZP 51 #[int i64 size,slice a len cap] w λe w'=>e=.returned (int i64 (Ez size zs))/\w=w':=by
 obtain⟨j,o⟩:=hs
 by_cases h1:size<1
 ·rw[ahE h1];go_enter func51,ntmps51;go_wp2;go_ret;exact⟨rfl,rfl⟩
 ·obtain⟨Z,D⟩:=h;have A:=AA Y;have y:=AA Z;clear Y Z;go_enter func51,ntmps51;go_wp2
  go_loop[5,12] (λs i=>∃k:Nat,k<=len/\i=int i64 k/\s=int i64 (Ez size (zs.take k))) (λ_ i=>len-(intOf i).toNat)
  case atStart=>exact⟨0,AR _,rfl,rfl⟩
  case round=>
   obtain⟨k,hk,rfl,rfl⟩:=hrel
   by_cases N:k<len
   ·obtain⟨z,Y⟩:∃z,zs[k]?=some z:=⟨zs[k]'(by rw[y.out];exact N),by simp⟩;have v:=A.out z (AX Y);obtain⟨b,off,rfl,_,C⟩:=D.resolve_left om;have J:=C k z Y;have X:=af0 Y;have a1:=anO size (M:=1099511627776) om (zs.take k) (λn hn=>A.out n (EG hn));have I:((zs.take k).length:Int)<=60:=by have:=MU k zs;omega
    have B:((zs.take k).length:Int)*1099511627776<=60*1099511627776:=Int.mul_le_mul_of_nonneg_right I om;have U:=ad3 (n:=z) (size:=size);have V:Hid (Ez size (zs.take (k+1))=Ez size (zs.take k)+Cz z size):=by rw[X,aeP];rfl
    have HO:Hid (1<=z->Cz z size=CK size z):=λh=>by unfold Cz;rw[Va om]
    have HN:Hid (z<1->Cz z size=0):=λh=>by unfold Cz;rw[Vb om]
    clear X Y C D
    by_cases H:1<=z
    ·rw[HO.out H]at V U
     go_wp2_with (go_at_call 83;refine(af1 _ _ _ om om om om).mono ?_;rintro e w' ⟨rfl,rfl⟩)
     go_round
     case rel=>exact⟨k+1,by omega,by go_num,by rw[V.out]⟩
     case measure=>simp[intOf];omega
    ·rw[HN.out om]at V;go_wp2
     go_round
     case rel=>exact⟨k+1,by omega,by go_num,by rw[V.out,Int.add_zero]⟩
     case measure=>simp[intOf];omega
   ·obtain rfl:k=len:=by omega
    go_wp2;go_ret;exact⟨JG (by rw[Ap (by rw[y.out];exact AC _)]),rfl⟩
section
open Go.ChangeShapes Go.WideShapes Go.ChangeAt Go.RowKit Go.Joins
open Go.ChangeMaps (open_string shut_string)
theorem own:ownKnob ZP.godebug=none:=by kernel_rfl
theorem laidOut:laidOutB ZP=true:=by kernel_rfl
theorem ahH:ZP.cellsOf 26=7:=by kernel_rfl
theorem Jd:ZP.cellsOf 3=1:=by kernel_rfl
section
variable {H:Type}{enc:TypeId×Value->H}{W:World}{r:Reach}{base:Nat}{d:DataW H}{p:List MemPlace}{v:Value}
theorem afh(B:Value.okWide ZP W r base 30 v)(h:DataW.Trod enc ZP W 0 (λ_=>true) true 30 v d p) :∃(a:Option Addr)(len cap:Nat)(zs:List Int),v=slice a len cap/\Sl1 (int i64) W a len zs:=by
 obtain⟨a,len,cap,rfl⟩:=okWide_slice underlying30 B;refine⟨a,len,cap,?_⟩;obtain⟨J,y⟩:=h
 rcases open_ints underlying30 underlying3 kr y with⟨Z,_⟩|⟨x,l,c,zs,Z,_,o,s,D,_,Y,C⟩
 ·simp[Value.cells]at Z;obtain⟨rfl,rfl,rfl⟩:=Z;exact⟨[],rfl,rfl,.inl rfl⟩
 ·simp[Value.cells]at Z;obtain⟨rfl,rfl,rfl⟩:=Z;have I:zs.length=cap:=by simpa using D
  refine⟨zs.take len,rfl,by simp;omega,?_⟩
  by_cases h0:len=0
  ·exact .inl h0
  ·right
   obtain⟨b,off,V⟩:=x;have N:=Y 0 om;have X:V=none:=by simpa[Addr.add]using World.cell?_spot N
   subst X;refine⟨b,off,rfl,?_,?_⟩
   ·have:=DO W _ N
    simpa[Addr.add]using this
   ·intro i x U;have A:i<len:=by have:=(AP.1 U).1;simp at this;omega
    have h1:=Y i om;rw[Addr.add_lit]at h1;rw[h1];rw[FT,Vb A]at U;simp[U]
end
end
def BE(x:Int):Int:=if 65<=x/\x<=90 then x+32 else x
def AO(fold:Bool)(xs:List Int):List Int:=if fold then xs.map BE else xs
def CH(fold:Bool)(xs ys:List Int):Bool:=decide (AO fold xs=AO fold ys)
def atL(fold:Bool)(text:List Int)(place:Int)(Z:List Int):Bool:=
 decide ((Z.length:Int)<=place/\place<=(text.length:Int))&&CH fold ((text.drop (place.toNat-Z.length)).take Z.length) Z
def LM(fold:Bool)(text:List Int)(wss:Lq):Option Nat:=wss.findIdx? (λw=>CH fold text w)
def BV(fold:Bool)(text:List Int)(wss:Lq):Int:=match LM fold text wss with|none=>-1|some k=>k
theorem JW{x:Int}(h:0<=x/\x<=255):0<=BE x/\BE x<=255:=by unfold BE;split<;>omega
theorem afT(x:Int):BE (BE x)=BE x:=by unfold BE;by_cases h:65<=x/\x<=90<;>simp[h]<;>omega
theorem Ew(fold:Bool)(xs:List Int):(AO fold xs).length=xs.length:=by cases fold<;>simp[AO]
theorem abq(fold:Bool)(xs:List Int):AO fold (AO fold xs)=AO fold xs:=by
 cases fold
 ·rfl
 ·simp only[AO,if_true,List.map_map];exact OJ λx _=>afT x
theorem MD{fold:Bool}{xs:List Int}(h:∀x∈xs,0<=x/\x<=255):∀x∈AO fold xs,0<=x/\x<=255:=by
 cases fold
 ·exact h
 ·intro x Z;simp only[AO,if_true,Be]at Z;obtain⟨y,Y,rfl⟩:=Z;exact JW (h y Y)
theorem aci(fold:Bool)(xs ys:List Int):CH fold xs ys=CH fold ys xs:=by
 unfold CH
 by_cases h:AO fold xs=AO fold ys
 ·simp[h]
 ·simp[h];exact λe=>h e.symm
theorem aey{fold:Bool}{xs ys:List Int}(h:CH fold xs ys=true):xs.length=ys.length:=by
 have:=Vc h;have h2:=congrArg List.length this
 rwa[Ew,Ew]at h2
theorem amu{fold:Bool}{xs ys:List Int}(h:xs.length≠ys.length):CH fold xs ys=false:=by
 cases e:CH fold xs ys with
 |false=>rfl
 |true=>exact absurd (aey e) h
def KD(fold:Bool)(x y:Int):Bool:=if fold then decide (BE x=BE y) else decide (x=y)
theorem Fg(fold:Bool)(xs:List Int):AO fold xs=xs.map (λx=>if fold then BE x else x):=by cases fold<;>simp[AO]
theorem abl{fold:Bool}:∀{xs ys:List Int},xs.length=ys.length->(CH fold xs ys=true↔∀p∈xs.zip ys,KD fold p.1 p.2=true)
 |[],[],_=>by simp[CH]
 |x::xs,y::ys,h=>by
  have Z:=abl (fold:=fold) (xs:=xs) (ys:=ys) (by simpa using h);unfold CH at Z⊢;rw[Fg,Fg]at Z⊢;simp only[decide_eq_true_eq]at Z⊢;simp only[BO,MY,List.zip_cons_cons,CR,forall_eq_or_imp,Z]
  cases fold<;>simp[KD]
 |[],_::_,h=>by simp at h
 |_::_,[],h=>by simp at h
theorem acn(fold:Bool)(text:List Int):BV fold text []=-1:=rfl
theorem aai{fold:Bool}{text:List Int}{wss:Lq}{y:List Int}(h:BV fold text wss=-1)(Z:CH fold text y=false):BV fold text (wss++[y])=-1:=by
 unfold BV LM at h⊢;rw[List.findIdx?_append]
 cases e:wss.findIdx? (λw=>CH fold text w)with
 |none=>simp[Z]
 |some k=>rw[e]at h;simp at h
theorem acK{fold:Bool}{text:List Int}{wss rest:Lq}{y:List Int}(h:BV fold text wss=-1)(Z:CH fold text y=true):BV fold text (wss++y::rest)=wss.length:=by
 unfold BV LM at h⊢;rw[List.findIdx?_append]
 cases e:wss.findIdx? (λw=>CH fold text w)with
 |none=>simp[Z,List.findIdx?_cons]
 |some k=>rw[e]at h;simp at h
theorem ajV(fold:Bool)(text:List Int)(wss:Lq):-1<=BV fold text wss/\BV fold text wss<wss.length:=by
 unfold BV LM
 cases e:wss.findIdx? (λw=>CH fold text w)with
 |none=>simp;omega
 |some k=>
  have:=(List.findIdx?_eq_some_iff_getElem.1 e).1;simp;omega
theorem As{α:Type}{xs:List α}{k:Nat}{z:α}(h:xs[k]?=some z):xs.take (k+1)=xs.take k++[z]:=by rw[LH,h];rfl
theorem Mu{α:Type}{xs:List α}{k:Nat}{z:α}(h:xs[k]?=some z):xs=xs.take k++z::xs.drop (k+1):=by have hk:=(AP.1 h);obtain⟨Z,rfl⟩:=hk;rw[<-List.drop_eq_getElem_cons Z,Dx]
def Au(wss:Lq):Int:=wss.foldl (λn w=>max n (w.length:Int)) 0
theorem acO(l:Lq)(x:List Int):Au (l++[x])=max (Au l) (x.length:Int):=by simp[Au,FI]
theorem amW:ZP.cellsOf 407=0:=by kernel_rfl
theorem aa9(w:World)(b:Nat)(cs:Array Value)(t:TypeId)(fr:Nat×Nat)(h:w.heap[b]?=some (.cells cs t fr))(Z:ZP.cellsOf t=0) :Sem.run ZP (partAt ⟨b,0,none⟩ 0 0) w=.ok ⟨b,0,none⟩ w:=by simp[partAt,byteOf,noView,viewAt,World.shape?,h,Z,go_sem]
theorem ah0(w:World)(t:TypeId)(Z:ZP.cellsOf t=0) :Sem.run ZP (partAt ⟨w.heap.size,0,none⟩ 0 0) (w.alloc (.cells #[] t))=.ok ⟨w.heap.size,0,none⟩ (w.alloc (.cells #[] t)):=aa9 _ _ _ _ _ (AT _ _) Z
theorem aeY{w:World}{b:Nat}{cs:Array Value}{t:TypeId}{fr:Nat×Nat}(h:w.heap[b]?=some (.cells cs t fr))(Z:ZP.cellsOf t=0)(d:Nat)(os:Array Obj) :Sem.run ZP (partAt ⟨b,0,none⟩ 0 0) (grow (redrawn w d) os)=.ok ⟨b,0,none⟩ (grow (redrawn w d) os):=aa9 _ _ _ _ _ (((Vf w d os).block b (AD.1 h).1).trans h) Z
theorem ads(x:Int)(w:World)(h0:0<=x)(h1:x<=255) :Calls ZP 230 #[.int .u8 x] w λe w'=>e=.returned (.int .u8 (BE x))/\w=w':=by
 by_cases h2:65<=x
 ·by_cases h3:x<=90
  all_goals
   go_enter func230,ntmps230;go_wp2;go_ret;exact⟨JG (by unfold BE;first|rw[Vb om]|rw[Va om]),rfl⟩
 ·go_enter func230,ntmps230;go_wp2;go_ret;exact⟨JG (by unfold BE;rw[Va om]),rfl⟩
theorem akw(x:Int)(w:World)(h0:0<=x)(h1:x<=255) :Calls ZP 214 #[.int .u8 x] w λe w'=>e=.returned (.int .u8 (BE x))/\w=w':=by
 by_cases h2:65<=x
 ·by_cases h3:x<=90
  all_goals
   go_enter func214,ntmps214;go_wp2;go_ret;exact⟨JG (by unfold BE;first|rw[Vb om]|rw[Va om]),rfl⟩
 ·go_enter func214,ntmps214;go_wp2;go_ret;exact⟨JG (by unfold BE;rw[Va om]),rfl⟩
theorem adW(x y:Int)(w:World) :Calls ZP 299 #[.agg #[],.int .u8 x,.int .u8 y] w λe w'=>e=.returned (bool (decide (x=y)))/\Br w w':=by
 by_cases h:x=y
 all_goals
  go_enter func299,ntmps299;go_wp2;go_ret;exact⟨by simp[h],(AH _ _).alloc (AC _) _⟩
theorem ahq(x y:Int)(w:World)(U:0<=x)(V:x<=255)(X:0<=y)(Y:y<=255) :Calls ZP 298 #[.agg #[],.int .u8 x,.int .u8 y] w λe w'=>e=.returned (bool (decide (BE x=BE y)))/\Br w w':=by
 have H:=JW ⟨U,V⟩;have I:=JW ⟨X,Y⟩;go_enter func298,ntmps298;have J:=aeY (AT w (.cells #[] 407)) amW;go_wp2;refine wp_region_quiet_below mixed kr ?_
 repeat (go_big_quiet_step (first|exact ahv (ads _ _ om om)|exact Eu (adW _ _ _)))
 refine wpQuiet_nil ?_;rintro _ ⟨⟨N,Z⟩,rfl⟩;go_wp2;go_ret;exact⟨rfl,((AH _ _).alloc (AC _) _).trans ((Vf _ N Z).mono sm)⟩
theorem IW(P:Program)(w:World)(a:Addr)(f:Fn)(Z us:Array Value)(m:Mode):(store a (.func f Z us) m).run P w=stored P w a (.func f Z us) m:=run_store P w a _ m rfl
def EP(fold:Bool):FuncId:=if fold then 298 else 299
theorem aoA(fold:Bool)(w:World) :Calls ZP 294 #[bool fold] w λe w'=>e=.returned (.func (.func (EP fold)) #[.agg #[]] #[])/\Br w w':=by
 cases fold
 all_goals
  go_enter func294,ntmps294;have Z:=ah0 w 407 amW;go_wp2;go_ret;exact⟨by simp[EP],(AH _ _).alloc (AC _) _⟩
end Go.Proofs.YtaamacoicojhnaaGreat
