/- Proofs over the given program, part 1. -/
import Derived.Test.YtaamacoicojhnaaGreatProg
import Derived.Test.YtaamacoicojhnaaGreatRows
import Derived.BigQuiet
import Derived.BigRegion
import Derived.ChangeKeysEq
import Derived.ChangeOld
import Derived.Deep.AppendLies
import Derived.Deep.CutBlock
import Derived.Deep.DeepCutAuto
import Derived.Deep.DrawnRows
import Derived.Deep.Matrix
import Derived.Deep.MidRow
import Derived.Deep.QuietTactic
import Derived.Deep.RegionHeld3
import Derived.Deep.RegionLaw
import Derived.Deep.RegionWith
import Derived.Deep.WholeRow
import Derived.DeepKeys5
import Derived.IntWalk
import Derived.Laws.BytesArg
import Derived.Laws.CopyRow
import Derived.Laws.MakeOwn
import Derived.Laws.OwnMore
import Derived.Laws.StructEq
import Derived.Laws.Tables
import Derived.Lib.Hide
import Derived.Lib.MinMax
import Derived.Lib.OwnKind
import Derived.Lib.QuietBelow
import Derived.Lib.QuietBelowIn
import Derived.Lib.SlBytesConst
import Derived.Lib.SmallJoins
import Derived.LoopIn
import Derived.LoopNIn
import Derived.MapKept
import Derived.Maps.AppendAt
import Derived.Maps.Own
import Derived.Maps.OwnIn
import Derived.Maps.OwnOps
import Derived.Maps.OwnSet
import Derived.Maps.Views
import Derived.OpenShut
import Derived.OwnWalk
import Derived.OwnWalkIn
import Derived.ProofKit
import Derived.RangeFuncBound
import Derived.RangeFuncBox
import Derived.RangeFuncCalls
import Derived.RangeFuncLeaves
import Derived.RangeFuncNested
import Derived.RangeFuncWrites
import Derived.Shelf.Abstract
import Derived.Shelf.RegionOpen
import Derived.Shelf.SlGeneric
import Derived.Shelf.SlLaysF
import Derived.Shelf.SlSortCmp.NoneTotal
import Derived.Shelf.Small.Strs
import Derived.ShutString
import Derived.StillTail
import Derived.StillTailTactics
import Derived.Stop.Walk2
import Derived.StringKeys
import Derived.TacticsIn
import Derived.TacticsInMore
import Derived.WalkKit
import Derived.WalkLawsBesides
set_option linter.unusedVariables false
set_option linter.unusedSimpArgs false
set_option maxRecDepth 100000
set_option maxHeartbeats 16000000
open Go.Proofs.Tryz
open Go.Proofs.Tryz renaming prog→ZP
open Go.World(cell? frozen?)
open Go.Value(int slice pointer bool)
open Go.IntKind(i64)
namespace Go.Proofs.YtaamacoicojhnaaGreat
open Go.RowKit Go.Sort
abbrev Bt(w v:World):=RowKit.Below w.heap.size w v
theorem Lb:type_of% @if_neg:=@if_neg
theorem Lc:type_of% @if_pos:=@if_pos
theorem Lj:type_of% @of_decide_eq_true:=@of_decide_eq_true
theorem Lq:type_of% @And.intro:=@And.intro
theorem Lz:type_of% @decide_eq_true:=@decide_eq_true
theorem Kf:type_of% @below_regrown:=@below_regrown
theorem Va:type_of% @wp_region_held_drew:=@wp_region_held_drew
theorem Vb:type_of% @wp_region_noPanic:=@wp_region_noPanic
theorem Vc:type_of% @cell_regrown:=@cell_regrown
theorem Vd:type_of% @wpAnyH_done:=@wpAnyH_done
theorem Ve:type_of% @info_parts:=@info_parts
theorem Vf:type_of% @bodyPost_ret:=@bodyPost_ret
theorem Vg:type_of% @enters_of:=@enters_of
abbrev La:=List (List Int)
theorem CZ:type_of% @Tryz.underlying3:=@Tryz.underlying3
theorem Ej:type_of% @Tryz.underlying30:=@Tryz.underlying30
theorem DO:type_of% @World.block_lt_of_cell?:=@World.block_lt_of_cell?
theorem AP:type_of% @List.getElem?_eq_some_iff:=@List.getElem?_eq_some_iff
theorem FT:type_of% @List.getElem?_take:=@List.getElem?_take
theorem AS:type_of% @Nat.le_trans:=@Nat.le_trans
theorem AD:type_of% @Array.getElem?_eq_some_iff:=@Array.getElem?_eq_some_iff
theorem AK:type_of% @Option.some.inj:=@Option.some.inj
theorem Dw:type_of% @Option.map_some:=@Option.map_some
theorem IN:type_of% @Sem.run_bind:=@Sem.run_bind
theorem IM:type_of% @Sem.run_pure:=@Sem.run_pure
theorem LI:type_of% @List.map_toArray:=@List.map_toArray
theorem BO:type_of% @List.map_cons:=@List.map_cons
theorem DE:type_of% @List.map_nil:=@List.map_nil
theorem BK:type_of% @IntKind.wrap_i64:=@IntKind.wrap_i64
theorem AA:type_of% @Lib.hid:=@Lib.hid
theorem At:type_of% @NoPanic.normal:=@NoPanic.normal
theorem CX:type_of% @Oper.semAt_some:=@Oper.semAt_some
theorem Af:type_of% @Nat.lt_of_lt_of_le:=@Nat.lt_of_lt_of_le
theorem DN:type_of% @World.size_alloc:=@World.size_alloc
theorem By:type_of% @List.getElem?_append_left:=@List.getElem?_append_left
theorem Dy:type_of% @List.getElem?_toArray:=@List.getElem?_toArray
theorem BU:type_of% @List.getElem?_map:=@List.getElem?_map
theorem BG:type_of% @List.length_set:=@List.length_set
theorem Is:type_of% @List.map_set:=@List.map_set
theorem DP:type_of% @Nat.le_of_lt:=@Nat.le_of_lt
theorem AC:type_of% @Nat.le_refl:=@Nat.le_refl
theorem AH:type_of% @Below.refl:=@Below.refl
theorem AT:type_of% @World.alloc_heap_new:=@World.alloc_heap_new
theorem AR:type_of% @Nat.zero_le:=@Nat.zero_le
theorem Bg:type_of% @Below.heap_alloc:=@Below.heap_alloc
theorem MU:type_of% @List.length_take_le:=@List.length_take_le
theorem EG:type_of% @List.mem_of_mem_take:=@List.mem_of_mem_take
theorem OH:type_of% @World.cell?_alloc_lt:=@World.cell?_alloc_lt
theorem In:type_of% @Tryz.underlying22:=@Tryz.underlying22
theorem AQ:type_of% @Below.heap_setCell:=@Below.heap_setCell
theorem Ap:type_of% @List.take_of_length_le:=@List.take_of_length_le
theorem BC:type_of% @World.cell?_of_block:=@World.cell?_of_block
theorem Db:type_of% @Bool.eq_iff_iff:=@Bool.eq_iff_iff
theorem Mb:type_of% @Int.eq_ofNat_of_zero_le:=@Int.eq_ofNat_of_zero_le
theorem Aa:type_of% @Int.toNat_natCast:=@Int.toNat_natCast
theorem Aw:type_of% @AllReadyH.cons:=@AllReadyH.cons
theorem Ci:type_of% @AllReadyH.nil:=@AllReadyH.nil
theorem OO:type_of% @Array.setIfInBounds_comm:=@Array.setIfInBounds_comm
theorem Js:type_of% @Array.getElem?_modify:=@Array.getElem?_modify
theorem DD:type_of% @Nat.zero_add:=@Nat.zero_add
theorem GR:type_of% @Nat.mul_le_mul:=@Nat.mul_le_mul
theorem Iy:type_of% @Int.natCast_mul:=@Int.natCast_mul
theorem CS:type_of% @List.length_replicate:=@List.length_replicate
theorem OJ:type_of% @List.map_congr_left:=@List.map_congr_left
theorem Be:type_of% @List.mem_map:=@List.mem_map
theorem MY:type_of% @List.cons.injEq:=@List.cons.injEq
theorem CR:type_of% @List.mem_cons:=@List.mem_cons
theorem LH:type_of% @List.take_add_one:=@List.take_add_one
theorem Dx:type_of% @List.take_append_drop:=@List.take_append_drop
theorem FI:type_of% @List.foldl_append:=@List.foldl_append
theorem Gq:type_of% @Nat.le_of_eq:=@Nat.le_of_eq
theorem Fm:type_of% @Tryz.underlying69:=@Tryz.underlying69
theorem Iu:type_of% @List.getElem?_cons_zero:=@List.getElem?_cons_zero
theorem IP:type_of% @List.getElem?_cons_succ:=@List.getElem?_cons_succ
theorem It:type_of% @List.getElem?_range:=@List.getElem?_range
theorem Cw:type_of% @List.size_toArray:=@List.size_toArray
theorem Ao:type_of% @List.length_cons:=@List.length_cons
theorem Bw:type_of% @List.length_nil:=@List.length_nil
theorem Dd:type_of% @Array.replicate_succ:=@Array.replicate_succ
theorem Dc:type_of% @Array.replicate_zero:=@Array.replicate_zero
theorem DX:type_of% @List.push_toArray:=@List.push_toArray
theorem Da:type_of% @List.append_toArray:=@List.append_toArray
theorem Av:type_of% @List.nil_append:=@List.nil_append
theorem CT:type_of% @List.cons_append:=@List.cons_append
theorem Jq:type_of% @Int.tmod_eq_emod_of_nonneg:=@Int.tmod_eq_emod_of_nonneg
theorem Ek:type_of% @Nat.mod_lt:=@Nat.mod_lt
theorem Ar:type_of% @List.getElem?_eq_getElem:=@List.getElem?_eq_getElem
theorem DZ:type_of% @List.getD_eq_getElem?_getD:=@List.getD_eq_getElem?_getD
theorem Ag:type_of% @List.length_take:=@List.length_take
theorem Aj:type_of% @List.map_append:=@List.map_append
theorem Ho:type_of% @List.eq_of_mem_replicate:=@List.eq_of_mem_replicate
theorem AX:type_of% @List.mem_of_getElem?:=@List.mem_of_getElem?
theorem Hk:type_of% @Nat.mul_one:=@Nat.mul_one
theorem DB:type_of% @Tryz.underlying32:=@Tryz.underlying32
theorem DQ:type_of% @Nat.add_zero:=@Nat.add_zero
theorem Bf:type_of% @List.mem_append:=@List.mem_append
theorem GS:type_of% @List.getElem?_modify:=@List.getElem?_modify
theorem Ip:type_of% @List.replicate_succ:=@List.replicate_succ
theorem Jm:type_of% @List.set_append_right:=@List.set_append_right
theorem FG:type_of% @Nat.sub_self:=@Nat.sub_self
theorem CE:type_of% @List.append_assoc:=@List.append_assoc
theorem Cx:type_of% @List.append_nil:=@List.append_nil
theorem Bz:type_of% @List.eq_nil_of_length_eq_zero:=@List.eq_nil_of_length_eq_zero
theorem MR:type_of% @World.grownBy_alloc:=@World.grownBy_alloc
theorem apF:type_of% @World.putObj_heap_same:=@World.putObj_heap_same
theorem Cm:type_of% @World.putObj_heap_other:=@World.putObj_heap_other
theorem Ir:type_of% @List.mem_flatMap:=@List.mem_flatMap
theorem Fq:type_of% @List.mem_singleton:=@List.mem_singleton
theorem BP:type_of% @List.length_map:=@List.length_map
theorem CG:type_of% @Option.getD_some:=@Option.getD_some
theorem Jn:type_of% @List.pairwise_cons:=@List.pairwise_cons
theorem El:type_of% @List.range_succ:=@List.range_succ
theorem En:type_of% @List.count_append:=@List.count_append
theorem Md:type_of% @Classical.byContradiction:=@Classical.byContradiction
theorem Fo:type_of% @Option.map_eq_some_iff:=@Option.map_eq_some_iff
theorem OL:type_of% @List.length_eq_zero_iff:=@List.length_eq_zero_iff
theorem BN:type_of% @World.ownsRow_nil:=@World.ownsRow_nil
theorem Bq:type_of% @Bool.and_eq_true:=@Bool.and_eq_true
theorem MZ:type_of% @List.any_eq_true:=@List.any_eq_true
theorem DR:type_of% @List.getElem?_of_mem:=@List.getElem?_of_mem
theorem FJ:type_of% @Bool.true_and:=@Bool.true_and
theorem Fp:type_of% @List.setIfInBounds_toArray:=@List.setIfInBounds_toArray
theorem FU:type_of% @List.getElem?_set_self:=@List.getElem?_set_self
theorem FH:type_of% @List.getElem?_set_ne:=@List.getElem?_set_ne
theorem apG:type_of% @List.length_pos_iff:=@List.length_pos_iff
theorem Gr:type_of% @List.getElem?_set:=@List.getElem?_set
theorem Jp:type_of% @KeepsOthers.setCell:=@KeepsOthers.setCell
theorem Jo:type_of% @List.getElem?_replicate:=@List.getElem?_replicate
theorem MX:type_of% @List.getElem?_concat_length:=@List.getElem?_concat_length
theorem IL:type_of% @Value.slice.injEq:=@Value.slice.injEq
theorem MT:type_of% @List.mem_cons_of_mem:=@List.mem_cons_of_mem
theorem DC:type_of% @Option.some.injEq:=@Option.some.injEq
theorem Em:type_of% @List.dropLast_concat_getLast:=@List.dropLast_concat_getLast
theorem Hm:type_of% @List.getElem?_drop:=@List.getElem?_drop
theorem Iq:type_of% @List.mem_of_mem_drop:=@List.mem_of_mem_drop
theorem Jl:type_of% @Nat.add_sub_cancel:=@Nat.add_sub_cancel
theorem Hl:type_of% @List.take_length:=@List.take_length
theorem Gp:type_of% @Tryz.underlying5:=@Tryz.underlying5
theorem Jk:type_of% @Prod.mk.injEq:=@Prod.mk.injEq
theorem MQ:type_of% @World.ownsMap_made:=@World.ownsMap_made
theorem LC:type_of% @Tryz.underlying4:=@Tryz.underlying4
theorem Hn:type_of% @List.ext_getElem?:=@List.ext_getElem?
theorem ON:type_of% @Int.mul_le_mul_of_nonneg_left:=@Int.mul_le_mul_of_nonneg_left
theorem Jj:type_of% @RowKit.Below.refl:=@RowKit.Below.refl
theorem GT:type_of% @List.getElem?_eq_none:=@List.getElem?_eq_none
theorem Jr:type_of% @Int.add_mul:=@Int.add_mul
theorem LK:type_of% @Int.natCast_add:=@Int.natCast_add
theorem Iw:type_of% @List.count_nil:=@List.count_nil
theorem Iv:type_of% @List.count_pos_iff:=@List.count_pos_iff
theorem Io:type_of% @Option.bind_eq_some_iff:=@Option.bind_eq_some_iff
theorem LG:type_of% @Nat.lt_or_ge:=@Nat.lt_or_ge
theorem MV:type_of% @List.getLast?_eq_some_getLast:=@List.getLast?_eq_some_getLast
theorem EV:type_of% @Option.bind_some:=@Option.bind_some
theorem DY:type_of% @List.getElem?_append_right:=@List.getElem?_append_right
theorem OK:type_of% @List.length_singleton:=@List.length_singleton
theorem LD:type_of% @Tryz.underlying389:=@Tryz.underlying389
theorem LJ:type_of% @List.dropLast_concat:=@List.dropLast_concat
theorem MW:type_of% @List.getElem?_take_of_lt:=@List.getElem?_take_of_lt
theorem OM:type_of% @List.count_singleton:=@List.count_singleton
theorem OI:type_of% @List.perm_iff_count:=@List.perm_iff_count
theorem IO:type_of% @Nat.mul_le_mul_right:=@Nat.mul_le_mul_right
theorem Ji:type_of% @Tryz.underlying9:=@Tryz.underlying9
theorem OG:type_of% @World.cell?_setCell_far:=@World.cell?_setCell_far
theorem Ma:type_of% @Int.mul_nonneg:=@Int.mul_nonneg
theorem LF:type_of% @Tryz.func276:=@Tryz.func276
theorem LE:type_of% @Tryz.ntmps276:=@Tryz.ntmps276
theorem om{P:Prop}(h:P:=by omega):P:=h
theorem kr{P:Prop}(h:P:=by kernel_rfl):P:=h
theorem sm{P:Prop}(h:P:=by simp):P:=h
section
open Go Go.RowKit Go.Sort
/-! ### plain -/
section plain
variable {P:Program}{ops:Array Oper}{md:Region.Mode}{C:World->Prop}
def MB(P:Program)(md:Region.Mode)(ops:Array Oper)(C:World->Prop)(m:Nat)(L:Array Bool->Act->Prop):Nat->Array Bool->Act->Prop
 |0,Z,a=>L Z a
 |f+1,Z,a=>Region.ready md ops Z≠[]/\∀i∈Region.ready md ops Z,i<m/\qOp P ops C i (MB P md ops C m L f (Z.setIfInBounds i true)) a
theorem ab6{m g:Nat}{L:Array Bool->Act->Prop}{Q':Exit->Act->World->Prop}(X:∀Z a w,C w->L Z a->wpAny P md ops Q' g Z a w) :∀(f:Nat)(Z:Array Bool)(a:Act)(w:World),C w->MB P md ops C m L f Z a->wpAny P md ops Q' (f+g) Z a w
 |0,Z,a,w,hw,h=>by rw[DD];exact X _ _ _ hw h
 |f+1,Z,a,w,hw,h=>by rw[show f+1+g=(f+g)+1 by omega];exact⟨λh0=>absurd h0 h.1,λi V=>wpOp_of_qOp hw (λN w' Y U=>ab6 X f _ N w' Y U) (h.2 i V).2⟩
theorem aff{m i:Nat}{s:Oper}{v:Value}{L:Array Bool->Act->Prop}(hi:ops[i]?=some s)(I:∀(j:Nat)(o:Oper) cs b,ops[j]?=some o->o.op≠.select cs b)
  (hs:Region.sinkB md ops m=true) (hc:Region.chainB md ops m=true) (hm:m<ops.size) (a6:i<m)
  (hdone:∀Z a,L Z a->∀j∈Region.ready md ops Z,m<=j) :
  ∀(f:Nat) (Z:Array Bool) (a:Act),HeadInv md ops m Z->
   (∀j z,ops[j]?=some z->j≠i->Z.getD j true=false->(∀e∈z.after,Region.binds md e=true->e.on≠i)->s.apart ops z=true)->
   i∈Region.ready md ops Z->YieldsIn P ops C s v a->
   MB P md ops C m L f (Z.setIfInBounds i true) (a.put s.dst v)->MB P md ops C m L (f+1) Z a:=by
 intro f
 induction f with
 |zero=>
  intro Z a V _ D hy H;have U:=(mem_ready.1 D).1;refine⟨λh=>(by rw[h]at D;cases D),λj x=>?_⟩;have N:j<m:=by
   rcases LG j m with h|h
   ·exact h
   ·exact absurd x (tail_waits hs hc hm V _ i rfl a6 U j h)
  refine⟨N,?_⟩
  by_cases Y:j=i
  ·subst Y;exact hy.qOp hi H
  ·have:=hdone _ _ H j (ready_mono x Y);omega
 |succ f ih=>
  intro Z a V X D hy H;have U:=(mem_ready.1 D).1;refine⟨λh=>(by rw[h]at D;cases D),λj x=>?_⟩;have N:j<m:=by
   rcases LG j m with h|h
   ·exact h
   ·exact absurd x (tail_waits hs hc hm V _ i rfl a6 U j h)
  refine⟨N,?_⟩
  by_cases Y:j=i
  ·subst Y;exact hy.qOp hi H
  ·have h1:=(H.2 j (ready_mono x Y)).2;obtain⟨A,z,y,a7⟩:=mem_ready.1 x;have a1:∀e∈z.after,Region.binds md e=true->e.on≠i:=λe he hb ab=>by
    have h1:=a7 e he hb;rw[ab,getD_both U]at h1
    cases h1
   have h2:=qOp_put y (X j z y Y A a1) (λcs b=>I i s cs b hi) (λcs b=>I j z cs b y) hy h1;have J:∀k ok,ops[k]?=some ok->k≠i->(Z.setIfInBounds j true).getD k true=false->
     (∀e∈ok.after,Region.binds md e=true->e.on≠i)->s.apart ops ok=true:=λk ok hk aa B a8=>by
    refine X k ok hk aa ?_ a8
    by_cases a2:j=k
    ·subst a2;exact A
    ·rw[getD_set_ne true a2]at B;exact B
   refine qOp_mono (λa' h3=>ih (Z.setIfInBounds j true) a' (V.set x N) J (ready_mono D (Ne.symm Y)) h3.1 ?_) h2;rw[OO _ _ Y];exact h3.2
theorem ae9{m g:Nat}{I:Act->Prop}(X:Region.noSelect ops=true)(H:Region.sinkB md ops m=true)(B:Region.chainB md ops m=true)(D:m<ops.size) :∀(l:List Oper)(k:Nat)(Z:Array Bool)(a:Act),(∀j,j<l.length->l[j]?=ops[k+j]?)->k+l.length=m->HeadInv md ops m Z->
  Region.lexHead md ops g l.length k Z=true->wpQuiet P ops C I l a->
  MB P md ops C m (λY A=>Region.seqB md ops g m Y=true/\I A) l.length Z a
 |[],k,Z,a,_,hk,_,hB,h=>by
  have:k=m:=by simpa using hk
  subst this;exact⟨by simpa[Region.lexHead]using hB,h⟩
 |o::l,k,Z,a,hl,hk,inv,hB,h=>by
  have h0:ops[k]?=some o:=by simpa using (hl 0 sm).symm
  simp only[Ao,Region.lexHead,Bq]at hB;obtain⟨⟨y,x⟩,J⟩:=hB;have U:k<m:=by simp only[Ao]at hk;omega
  have V:k∈Region.ready md ops Z:=by simpa using y
  have N:qOp P ops C k (wpQuiet P ops C I l) a:=by unfold qOp;simp only[h0];exact h
  obtain⟨v,z,e⟩:=yieldsIn_of_qOp h0 N;exact aff h0 (Region.noSelect_spec X) H B D U (λY A s=>seqB_ready s.1) l.length Z a inv (Region.free_spec h0 x) V z
   (ae9 X H B D l (k+1) _ _ (λj hj=>by have:=hl (j+1) (by simp;omega);simpa[Nat.add_assoc,Nat.add_comm 1 j]using this) (by simp only[Ao]at hk;omega) (inv.set V U) J e)
theorem aa3{id:Nat}{Q:Exit->Act->World->Prop}{a:Act}{w:World}{l:List Oper}(m:Nat)(I:P.follows .mixedOrders=true)(hB:Region.lexTailB .any l.toArray m=true)(hC:C {w with drawn:=w.drawn+1})
  (h:wpQuiet P l.toArray C (λB=>∀w',C w'->wpList P l.toArray Q (l.drop m) B w') (l.take m) a):(Code.region id l.toArray true).wp P Q a w:=by
 simp only[Region.lexTailB,Bq,decide_eq_true_eq]at hB;obtain⟨⟨⟨⟨V,A⟩,e⟩,hc⟩,U⟩:=hB;have a1:m<l.length:=by simpa using A
 have Y:(l.take m).length=m:=by simp;omega
 have N:(l.drop m).length=l.toArray.size-m:=by simp
 have X:HeadInv .any l.toArray m (Array.replicate l.toArray.size false):=
  ⟨by simp,λj oj _ z=>(by rw[getD_replicate_false]at z;cases z),λt _ s=>getD_in (by simpa using s) (getD_replicate_false _ _)⟩
 have H:=ae9 (md:=.any) (g:=l.toArray.size-m) V e hc A (l.take m) 0 _ a (λj y=>by
  have D:j<m:=by rw[Y]at y;exact y
  simp[D]) (by simpa using Y) X (by rw[Y];exact U) h
 refine wp_region_any I ?_;have:=ab6 (Q':=Q) (g:=l.toArray.size-m) (λZ B w' J x=>by
  have:=wpAny_of_seq (md:=.any) (Q':=Q) (l.drop m) m Z B w' (λj=>by simp[Hm]) (by rw[N];exact x.1) (x.2 w' J)
  rwa[N]at this) _ _ _ _ hC H
 rw[Y,show m+(l.toArray.size-m)=l.toArray.size by omega]at this;exact this
theorem aaQ{id:Nat}{Q:Exit->Act->World->Prop}{a:Act}{w:World}{l:List Oper}(m:Nat)(Z:P.follows .mixedOrders=true)(hB:Region.lexTailB .any l.toArray m=true)
  (h:wpQuiet P l.toArray (λw'=>∃p:Regrown,w'=grow (redrawn w p.d) p.os) (λY=>∀w',(∃p:Regrown,w'=grow (redrawn w p.d) p.os)->wpList P l.toArray Q (l.drop m) Y w') (l.take m) a):(Code.region id l.toArray true).wp P Q a w:=
 aa3 (C:=λw'=>∃p:Regrown,w'=grow (redrawn w p.d) p.os) m Z hB ⟨⟨w.drawn+1,#[]⟩,by rw[grow_empty];rfl⟩ h
theorem Hw{id:Nat}{Q:Exit->Act->World->Prop}{a:Act}{w:World}{l:List Oper}(m:Nat)(Z:P.follows .mixedOrders=true)(hB:Region.lexTailB .any l.toArray m=true)
  (h:wpQuiet P l.toArray (λw'=>∃n,w'=w.drewN n) (λY=>∀w',(∃n,w'=w.drewN n)->wpList P l.toArray Q (l.drop m) Y w') (l.take m) a):(Code.region id l.toArray true).wp P Q a w:=
 aa3 (C:=λw'=>∃n,w'=w.drewN n) m Z hB ⟨1,rfl⟩ h
end plain
/-! ### in a fence,in a round -/
section fenced
variable {F:Fence}{n:Nat}{P:Program}{ops:Array Oper}{md:Region.Mode}{C:World->Prop}
def Eb(ops:Array Oper):Bool:=ops.all λo=>match o.op with|.defer _=>false|_=>true
theorem ab0(h:Eb ops=true){i:Nat}{o:Oper}(Z:ops[i]?=some o):∀c,o.op≠.defer c:=by intro c Y;have:=Array.all_eq_true'.1 h o (Array.mem_of_getElem? Z);simp[Y]at this
theorem acd{o:Oper}{a:Act}{K:Act->Prop}{N:Act->World->Prop}{Q':Exit->Act->World->Prop}{w:World}(V:∀c,o.op≠.defer c)(X:C w)(h:∀a w',C w'->K a->N a w')
  (ha:o.askedIn F P a C) (J:o.quietIn F n P a C K):o.wpIn F n P a w N Q':=by
 obtain⟨v,h1,h2⟩:=J;have h3:=h1 w X;unfold Oper.quietAtIn at h3;unfold Oper.wpIn;refine⟨ha w X,?_⟩;rw[Oper.semAt_eq _ _ _ V]
 generalize (execOp a.eval o).run P w=r at *
 cases r with
 |ok x w'=>
  cases x<;>simp only[Oper.quietUponIn]at h3<;>simp only[Oper.uponIn]
  case value u=>
   obtain⟨Y,U⟩:=h3;rw[Y,U];exact h _ _ X h2
  case skip=>
   obtain⟨Y,U⟩:=h3;rw[Y,<-U];exact h _ _ X h2
  case enter f args=>
   obtain⟨Y,H,D⟩:=h3;rw[Y];exact⟨H,D.mono λe w'' ⟨I,Z⟩=>by subst I;exact h _ _ Z h2⟩
 |halt x w'=>simp only[Oper.quietUponIn]at h3
theorem aal{i:Nat}{a:Act}{K:Act->Prop}{U:Act->World->Prop}{Q':Exit->Act->World->Prop}{w:World}(V:Eb ops=true)(Y:C w)(h:∀a w',C w'->K a->U a w')
  (Z:qOpIn F n P ops C i K a):wpOpIn F n P ops Q' i U a w:=by
 unfold qOpIn at Z;unfold wpOpIn
 split
 ·rename_i ho;simp only[ho]at Z;exact h _ _ Y Z
 ·rename_i o ho
  simp only[ho]at Z;obtain⟨ha,Z⟩:=Z
  split
  ·rename_i X;simp only[X,if_true]at Z;exact acd (ab0 V ho) Y h ha Z
  ·rename_i X;simp only[X]at Z;exact⟨ha w Y,h _ _ Y Z⟩
def MA(F:Fence)(n:Nat)(P:Program)(md:Region.Mode)(ops:Array Oper)(C:World->Prop)(m:Nat)(L:Array Bool->Act->Prop):Nat->Array Bool->Act->Prop
 |0,Z,a=>L Z a
 |f+1,Z,a=>Region.ready md ops Z≠[]/\∀i∈Region.ready md ops Z,i<m/\qOpIn F n P ops C i (MA F n P md ops C m L f (Z.setIfInBounds i true)) a
theorem aag{m g:Nat}{L:Array Bool->Act->Prop}{Q':Exit->Act->World->Prop}(Y:Eb ops=true)(V:∀Z a w,C w->L Z a->wpAnyIn F n P md ops Q' g Z a w) :∀(f:Nat)(Z:Array Bool)(a:Act)(w:World),C w->MA F n P md ops C m L f Z a->wpAnyIn F n P md ops Q' (f+g) Z a w
 |0,Z,a,w,hw,h=>by rw[DD];exact V _ _ _ hw h
 |f+1,Z,a,w,hw,h=>by rw[show f+1+g=(f+g)+1 by omega];exact⟨λh0=>absurd h0 h.1,λi U=>aal Y hw (λJ w' X N=>aag Y V f _ J w' X N) (h.2 i U).2⟩
theorem adk{m i:Nat}{s:Oper}{v:Value}{L:Array Bool->Act->Prop}(hi:ops[i]?=some s)(I:∀(j:Nat)(o:Oper) cs b,ops[j]?=some o->o.op≠.select cs b)
  (hs:Region.sinkB md ops m=true) (hc:Region.chainB md ops m=true) (hm:m<ops.size) (a6:i<m)
  (hdone:∀Z a,L Z a->∀j∈Region.ready md ops Z,m<=j) :
  ∀(f:Nat) (Z:Array Bool) (a:Act),HeadInv md ops m Z->
   (∀j z,ops[j]?=some z->j≠i->Z.getD j true=false->(∀e∈z.after,Region.binds md e=true->e.on≠i)->s.apart ops z=true)->
   i∈Region.ready md ops Z->YieldsQuiet F n P ops C s v a->
   MA F n P md ops C m L f (Z.setIfInBounds i true) (a.put s.dst v)->MA F n P md ops C m L (f+1) Z a:=by
 intro f
 induction f with
 |zero=>
  intro Z a V _ D hy H;have U:=(mem_ready.1 D).1;refine⟨λh=>(by rw[h]at D;cases D),λj x=>?_⟩;have N:j<m:=by
   rcases LG j m with h|h
   ·exact h
   ·exact absurd x (tail_waits hs hc hm V _ i rfl a6 U j h)
  refine⟨N,?_⟩
  by_cases Y:j=i
  ·subst Y;exact hy.qOpIn hi H
  ·have:=hdone _ _ H j (ready_mono x Y);omega
 |succ f ih=>
  intro Z a V X D hy H;have U:=(mem_ready.1 D).1;refine⟨λh=>(by rw[h]at D;cases D),λj x=>?_⟩;have N:j<m:=by
   rcases LG j m with h|h
   ·exact h
   ·exact absurd x (tail_waits hs hc hm V _ i rfl a6 U j h)
  refine⟨N,?_⟩
  by_cases Y:j=i
  ·subst Y;exact hy.qOpIn hi H
  ·have h1:=(H.2 j (ready_mono x Y)).2;obtain⟨A,z,y,a7⟩:=mem_ready.1 x;have a1:∀e∈z.after,Region.binds md e=true->e.on≠i:=λe he hb ab=>by
    have h1:=a7 e he hb;rw[ab,getD_both U]at h1
    cases h1
   have h2:=qOpIn_put y (X j z y Y A a1) (λcs b=>I i s cs b hi) (λcs b=>I j z cs b y) hy h1;have J:∀k ok,ops[k]?=some ok->k≠i->(Z.setIfInBounds j true).getD k true=false->
     (∀e∈ok.after,Region.binds md e=true->e.on≠i)->s.apart ops ok=true:=λk ok hk aa B a8=>by
    refine X k ok hk aa ?_ a8
    by_cases a2:j=k
    ·subst a2;exact A
    ·rw[getD_set_ne true a2]at B;exact B
   refine qOpIn_mono (λa' h3=>ih (Z.setIfInBounds j true) a' (V.set x N) J (ready_mono D (Ne.symm Y)) h3.1 ?_) h2;rw[OO _ _ Y];exact h3.2
theorem abL{m g:Nat}{I:Act->Prop}(X:Region.noSelect ops=true)(H:Region.sinkB md ops m=true)(B:Region.chainB md ops m=true)(D:m<ops.size) :∀(l:List Oper)(k:Nat)(Z:Array Bool)(a:Act),(∀j,j<l.length->l[j]?=ops[k+j]?)->k+l.length=m->HeadInv md ops m Z->
  Region.lexHead md ops g l.length k Z=true->wpQuietIn F n P ops C I l a->
  MA F n P md ops C m (λY A=>Region.seqB md ops g m Y=true/\I A) l.length Z a
 |[],k,Z,a,_,hk,_,hB,h=>by
  have:k=m:=by simpa using hk
  subst this;exact⟨by simpa[Region.lexHead]using hB,h⟩
 |o::l,k,Z,a,hl,hk,inv,hB,h=>by
  have h0:ops[k]?=some o:=by simpa using (hl 0 sm).symm
  simp only[Ao,Region.lexHead,Bq]at hB;obtain⟨⟨y,x⟩,J⟩:=hB;have U:k<m:=by simp only[Ao]at hk;omega
  have V:k∈Region.ready md ops Z:=by simpa using y
  have N:qOpIn F n P ops C k (wpQuietIn F n P ops C I l) a:=by unfold qOpIn;simp only[h0];exact h
  obtain⟨v,z,e⟩:=yieldsQuiet_of_qOpIn h0 N;exact adk h0 (Region.noSelect_spec X) H B D U (λY A s=>seqB_ready s.1) l.length Z a inv (Region.free_spec h0 x) V z
   (abL X H B D l (k+1) _ _ (λj hj=>by have:=hl (j+1) (by simp;omega);simpa[Nat.add_assoc,Nat.add_comm 1 j]using this) (by simp only[Ao]at hk;omega) (inv.set V U) J e)
theorem ab8{Q':Exit->Act->World->Prop}:∀(l:List Oper)(k:Nat)(Z:Array Bool)(a:Act)(w:World),(∀j,l[j]?=ops[k+j]?)->
  Region.seqB md ops l.length k Z=true->wpListIn F n P ops Q' l a w->wpAnyIn F n P md ops Q' l.length Z a w
 |[],_,_,_,_,_,hB,h=>⟨by simpa[Region.seqB]using hB,h⟩
 |o::l,k,Z,a,w,hl,hB,h=>by
  have h0:ops[k]?=some o:=by simpa using (hl 0).symm
  simp only[Ao,Region.seqB,Bq,decide_eq_true_eq]at hB;refine⟨λh1=>(by rw[hB.1]at h1;cases h1),λi X=>?_⟩;rw[hB.1]at X;have Y:i=k:=by simpa using X
  subst Y;have V:wpOpIn F n P ops Q' i (wpListIn F n P ops Q' l) a w:=by unfold wpOpIn;simp only[h0];exact h
  exact wpOpIn_mono (λN w' U=>ab8 l (i+1) _ N w' (λj=>by have:=hl (j+1);simpa[Nat.add_assoc,Nat.add_comm 1 j]using this) hB.2 U) V
theorem aa1{id:Nat}{Q:Exit->Act->World->Prop}{a:Act}{w:World}{l:List Oper}(m:Nat)(D:P.follows .mixedOrders=true)(hB:Region.lexTailB .any l.toArray m=true)(I:Eb l.toArray=true)(hC:C {w with drawn:=w.drawn+1})
  (h:wpQuietIn F n P l.toArray C (λA=>∀w',C w'->wpListIn F n P l.toArray Q (l.drop m) A w') (l.take m) a):(Code.region id l.toArray true).wpIn F n P Q a w:=by
 simp only[Region.lexTailB,Bq,decide_eq_true_eq]at hB;obtain⟨⟨⟨⟨V,z⟩,hs⟩,hc⟩,U⟩:=hB;have a1:m<l.length:=by simpa using z
 have Y:(l.take m).length=m:=by simp;omega
 have N:(l.drop m).length=l.toArray.size-m:=by simp
 have X:HeadInv .any l.toArray m (Array.replicate l.toArray.size false):=
  ⟨by simp,λj oj _ y=>(by rw[getD_replicate_false]at y;cases y),λt _ e=>getD_in (by simpa using e) (getD_replicate_false _ _)⟩
 have H:=abL (md:=.any) (g:=l.toArray.size-m) V hs hc z (l.take m) 0 _ a (λj x=>by
  have B:j<m:=by rw[Y]at x;exact x
  simp[B]) (by simpa using Y) X (by rw[Y];exact U) h
 refine wpIn_region_any D ?_;have:=aag (Q':=Q) (g:=l.toArray.size-m) I (λZ A w' J s=>by
  have:=ab8 (md:=.any) (Q':=Q) (l.drop m) m Z A w' (λj=>by simp[Hm]) (by rw[N];exact s.1) (s.2 w' J)
  rwa[N]at this) _ _ _ _ hC H
 rw[Y,show m+(l.toArray.size-m)=l.toArray.size by omega]at this;exact this
theorem aaa{Q:Act->Prop}{Q':Exit->Act->World->Prop}(X:Eb ops=true)(U:∀a w,C w->Q a->Q' .normal a w):∀(Y:Nat)(Z:Array Bool)(a:Act)(w:World),C w->
  wpAnyQIn F n P md ops C Q Y Z a->wpAnyIn F n P md ops Q' Y Z a w
 |0,_,_,_,hw,h=>⟨h.1,U _ _ hw h.2⟩
 |Y+1,_,_,_,hw,h=>⟨λh0=>U _ _ hw (h.1 h0),λi N=>aal X hw (λJ w' V=>aaa X U Y _ J w' V) (h.2 i N)⟩
theorem aan{id:Nat}{Q:Exit->Act->World->Prop}{a:Act}{w:World}{l:List Oper}(X:P.follows .mixedOrders=true)(hB:Region.lexB .any l.toArray=true)(Y:Eb l.toArray=true)(U:C {w with drawn:=w.drawn+1})
  (h:wpQuietIn F n P l.toArray C (λV=>∀w',C w'->Q .normal V w') l a):(Code.region id l.toArray true).wpIn F n P Q a w:=by
 simp only[Region.lexB,Bq]at hB;refine wpIn_region_any X (aaa (Q:=λV=>∀w',C w'->Q .normal V w') Y (λ_ w' Z h=>h w' Z) _ _ _ _ U ?_);have:=wpAnyQIn_lex (F:=F) (n:=n) (C:=C) (md:=.any) hB.1 l 0 (Array.replicate l.toArray.size false) a sm (by simpa using hB.2) h
 simpa using this
theorem aca{id:Nat}{Q:Exit->Act->World->Prop}{a:Act}{w:World}{l:List Oper}(Y:P.follows .mixedOrders=true)(hB:Region.lexB .any l.toArray=true)(Z:Eb l.toArray=true)
  (h:wpQuietIn F n P l.toArray (λw'=>∃p:Regrown,w'=grow (redrawn w p.d) p.os) (λX=>∀w',(∃p:Regrown,w'=grow (redrawn w p.d) p.os)->Q .normal X w') l a):(Code.region id l.toArray true).wpIn F n P Q a w:=
 aan (C:=λw'=>∃p:Regrown,w'=grow (redrawn w p.d) p.os) Y hB Z ⟨⟨w.drawn+1,#[]⟩,by rw[grow_empty];rfl⟩ h
theorem aay{id:Nat}{Q:Exit->Act->World->Prop}{a:Act}{w:World}{l:List Oper}(m:Nat)(Y:P.follows .mixedOrders=true)(hB:Region.lexTailB .any l.toArray m=true)(Z:Eb l.toArray=true)
  (h:wpQuietIn F n P l.toArray (λw'=>∃n,w'=w.drewN n) (λX=>∀w',(∃n,w'=w.drewN n)->wpListIn F n P l.toArray Q (l.drop m) X w') (l.take m) a):(Code.region id l.toArray true).wpIn F n P Q a w:=
 aa1 (C:=λw'=>∃n,w'=w.drewN n) m Y hB Z ⟨1,rfl⟩ h
theorem ac4{id:Nat}{Q:Exit->Act->World->Prop}{a:Act}{w:World}{l:List Oper}(Y:P.follows .mixedOrders=true)(hB:Region.lexB .any l.toArray=true)(Z:Eb l.toArray=true)
  (h:wpQuietIn F n P l.toArray (λw'=>∃n,w'=w.drewN n) (λX=>∀w',(∃n,w'=w.drewN n)->Q .normal X w') l a):(Code.region id l.toArray true).wpIn F n P Q a w:=
 aan (C:=λw'=>∃n,w'=w.drewN n) Y hB Z ⟨1,rfl⟩ h
end fenced
/-! ### the wide fence,in a round or not: the quiet part walked plainly -/
section wide
variable {F:Fence}{n:Nat}{P:Program}{ops:Array Oper}{C:World->Prop}
structure Jg(F:Fence)(n:Nat)(P:Program):Prop where
 fn:∀f,F.fn f
 depth:F.depth=none
 calls:∀{f args w R},Calls P f args w R->CallsIn F (n-1) P f args w R
theorem FL(n:Nat)(P:Program):Jg Fence.wide n P:=⟨λ_=>trivial,rfl,λh=>callsIn_wide.2 h⟩
theorem OV(n:Nat)(P:Program)(l:Nat):Jg (Fence.wide.inRound l) n P:=⟨λ_=>trivial,rfl,λh=>(callsIn_wide (n:=n-1)).2 h⟩
theorem KJ(Z:Jg F n P){Q:Act->Prop}:∀(l:List Oper)(a:Act),wpQuiet P ops C Q l a->wpQuietIn F n P ops C Q l a
 |[],_,h=>h
 |o::l,a,h=>by
  refine⟨λ_ _ f _=>Z.fn f,?_⟩;unfold wpQuiet at h
  split
  ·rename_i Y
   rw[Lc Y]at h;obtain⟨v,h1,h2⟩:=h;refine⟨v,λw V=>?_,KJ Z l _ h2⟩;have:=h1 w V;unfold Oper.quietAt at this;unfold Oper.quietAtIn
   generalize (execOp a.eval o).run P w=r at *
   cases r with
   |ok x w'=>
    cases x<;>simp only[Oper.quietUpon]at this<;>simp only[Oper.quietUponIn]
    case value u=>exact this
    case skip=>exact this
    case enter f args=>
     refine⟨this.1,?_,Z.calls this.2⟩;intro X;rw[Z.depth]at X
     cases X
   |halt x w'=>simp only[Oper.quietUpon]at this
  ·rename_i Y
   rw[Lb Y]at h;exact KJ Z l _ h
theorem Le(X:Jg F n P){id:Nat}{Q:Exit->Act->World->Prop}{a:Act}{w:World}{l:List Oper}(Y:P.follows .mixedOrders=true)(hB:Region.lexB .any l.toArray=true)(Z:Eb l.toArray=true)
  (h:wpQuiet P l.toArray (λw'=>∃p:Regrown,w'=grow (redrawn w p.d) p.os) (λV=>∀w',(∃p:Regrown,w'=grow (redrawn w p.d) p.os)->Q .normal V w') l a):(Code.region id l.toArray true).wpIn F n P Q a w:=
 aca Y hB Z (KJ X _ _ h)
theorem KF(X:Jg F n P){id:Nat}{Q:Exit->Act->World->Prop}{a:Act}{w:World}{l:List Oper}(Y:P.follows .mixedOrders=true)(hB:Region.lexB .any l.toArray=true)(Z:Eb l.toArray=true)
  (h:wpQuiet P l.toArray (λw'=>∃n,w'=w.drewN n) (λV=>∀w',(∃n,w'=w.drewN n)->Q .normal V w') l a):(Code.region id l.toArray true).wpIn F n P Q a w:=
 ac4 Y hB Z (KJ X _ _ h)
theorem Ld(X:Jg F n P){id:Nat}{Q:Exit->Act->World->Prop}{a:Act}{w:World}{l:List Oper}(m:Nat)(Y:P.follows .mixedOrders=true)(hB:Region.lexTailB .any l.toArray m=true)(Z:Eb l.toArray=true)
  (h:wpQuiet P l.toArray (λw'=>∃n,w'=w.drewN n) (λV=>∀w',(∃n,w'=w.drewN n)->wpListIn F n P l.toArray Q (l.drop m) V w') (l.take m) a):(Code.region id l.toArray true).wpIn F n P Q a w:=
 aay m Y hB Z (KJ X _ _ h)
end wide
/-! ### contracts,met within a quiet walk -/
section met
variable {P:Program}{f:FuncId}{args:Array Value}{w:World}{v:Value}
theorem ahv{d:Nat}{os:Array Obj}(h:Calls P f args (grow (redrawn w d) os) λe w'=>e=.returned v/\grow (redrawn w d) os=w'):Calls P f args (grow (redrawn w d) os) λe w''=>e=.returned v/\∃p:Regrown,w''=grow (redrawn w p.d) p.os:=h.mono λ_ _ ⟨h1,h2⟩=>⟨h1,⟨d,os⟩,h2.symm⟩
theorem Eu{d:Nat}{os:Array Obj}(h:Calls P f args (grow (redrawn w d) os) λe w'=>e=.returned v/\Below (grow (redrawn w d) os).heap.size (grow (redrawn w d) os) w'):Calls P f args (grow (redrawn w d) os) λe w''=>e=.returned v/\∃p:Regrown,w''=grow (redrawn w p.d) p.os:=Calls.regrown_of h
end met
end
def btw(n lo Z:Int):Bool:=decide (lo<=n)&&decide (n<=Z)
def Ce(wk bl rg Y X Z fr:Int):Bool:=btw wk 1 8&&btw bl 1 256&&btw rg 1 16&&btw Y 1 16&&btw X 1 16&&btw Z 1 256&&btw fr 0 4611686018427387904
theorem Gi{wk bl rg Y X Z fr:Int}:Ce wk bl rg Y X Z fr=true↔(1<=wk/\wk<=8)/\(1<=bl/\bl<=256)/\(1<=rg/\rg<=16)/\(1<=Y/\Y<=16)/\(1<=X/\X<=16)/\(1<=Z/\Z<=256)/\(0<=fr/\fr<=4611686018427387904):=by simp[Ce,btw];omega
theorem mixed:ZP.follows .mixedOrders=true:=by kernel_rfl
theorem JG{k:IntKind}{a b:Int}(h:a=b):Ending.returned (.int k a)=.returned (.int k b):=by rw[h]
theorem afX(n lo Z:Int)(w:World) :Calls ZP 61 #[int i64 n,int i64 lo,int i64 Z] w λe w'=>e=.returned (bool (btw n lo Z))/\w=w':=by
 by_cases h1:lo<=n
 ·by_cases h2:n<=Z
  all_goals
   go_enter func61,ntmps61;go_wp2;go_ret;exact⟨by simp[btw];try omega,rfl⟩
 ·go_enter func61,ntmps61;go_wp2;go_ret;exact⟨by simp[btw];try omega,rfl⟩
abbrev Ee(wk bl rg Y X Z fr:Int):Array Value:=#[int i64 wk,int i64 bl,int i64 rg,int i64 Y,int i64 X,int i64 Z,int i64 fr]
theorem NG(wk bl rg Y X Z fr:Int)(w:World) :Calls ZP 26 #[.agg (Ee wk bl rg Y X Z fr)] w λe w'=>e=.returned (bool (Ce wk bl rg Y X Z fr))/\Bt w w':=by
 go_enter func26,ntmps26
 go_wp2_with (go_at_call 61;refine(afX _ _ _ _).mono ?_;rintro e w' ⟨rfl,rfl⟩)
 all_goals
  go_ret;exact⟨by simp[Ce, *],(AH _ _).alloc (AC _) _⟩
section
open Go Go.RowKit Go.Sort
theorem Ak(k:FuncId):Fence.wide.fn k=True:=rfl
theorem Al:Fence.wide.depth=none:=rfl
def Cc(S:Nat->Prop)(W Z:World):Prop:=∀k,S k->Z.heap[k]?=W.heap[k]?
theorem GD{S:Nat->Prop}{A B C:World}(h:Cc S A B)(k:Cc S B C):Cc S A C:=λi Z=>(k i Z).trans (h i Z)
theorem JR{S:Nat->Prop}{w:World}(Z:∀k,S k->k<w.heap.size)(W:World)(l:Nat)(o o':Obj)(Y:w.heap.size<=l)(_:W.heap[l]?=some o)(_:o.isCells=false)(_:o.isWalk=false):Cc S W (W.putObj l o'):=λk hk=>Cm (by have:=Z k hk;omega)
theorem Km{w w':World}(h:Bt w w'):w.grownBy w' none:=⟨h.os,h.tape,h.output,h.size,λk hk _=>h.block k hk⟩
theorem IJ{β:Type}{B:Nat}{J:β->World->Prop}(h:AbidesFrom B J){s:β}{w w':World}(Z:J s w)(Y:Bt w w'):J s w':=h s w w' none Z (Km Y) (λr e=>by cases e)
theorem Nj{B:Nat}{w w':World}(h:Bt w w'):KeepsFrom B w w':=⟨h.size,λk o _ hk _=>(h.block k (AD.1 hk).1).trans hk⟩
theorem Ke{S:Nat->Prop}{w w':World}(h:Bt w w')(Z:∀k,S k->k<w.heap.size):Cc S w w':=λk hk=>h.block k (Z k hk)
theorem Hc{P:Program}{f:FuncId}{fn:Func}{c:Code}{args:Array Value}{w:World}{R:Ending->World->Prop}
  (Z:P.funcs[f]?=some fn) (Y:fn.body=some c)
  (h:c.wp P (bodyPostM Fence.wide 9 P fn R) {tmps:=args++Array.replicate (fn.ntmps-args.size) undef,defers:=[]} w):Calls P f args w R:=
 (callsIn_wide (n:=9)).1 (callsIn_of_wp_marks Z Y trivial (wpIn_wide.2 h) rfl)
theorem Gg{P:Program}{fn:Func}{R:Ending->World->Prop}{a:Act}{W:World}{D:Nat}{v:Value}(Y:a.defers=[{target:=.collected D,args:=#[]}])(V:W.heap[D]?=some (.deferred (some [])))
  (Z:(results fn a.tmps).run P (W.putObj D (.deferred none))=.ok v (W.putObj D (.deferred none))) (X:R (.returned v) (W.putObj D (.deferred none))):bodyPostM Fence.wide 9 P fn R .ret a W:=by
 show LeavesInM Fence.wide 9 P fn a.tmps R a.defers .returning W;rw[Y];refine⟨by simp,.inl ⟨_,_,rfl,run_takeDeferred V,?_⟩⟩;exact⟨_,Z,X⟩
theorem aon{P:Program}{fn:Func}{R:Ending->World->Prop}{a:Act}{W:World}{D:Nat}{v:Value}(Y:a.defers=[{target:=.collected D,args:=#[]}])(V:W.heap[D]?=some (.deferred (some [])))
  (Z:(results fn a.tmps).run P (W.putObj D (.deferred none))=.ok v (W.putObj D (.deferred none))) (X:R (.returned v) (W.putObj D (.deferred none))):bodyPostM Fence.wide 9 P fn R .normal a W:=
 Gg Y V Z X
theorem aps{P:Program}{fn:Func}{R:Ending->World->Prop}{a:Act}{W:World}{v:Value}(Y:a.defers=[])
  (Z:(results fn a.tmps).run P W=.ok v W) (X:R (.returned v) W):bodyPostM Fence.wide 9 P fn R .ret a W:=by
 show LeavesInM Fence.wide 9 P fn a.tmps R a.defers .returning W;rw[Y];exact⟨_,Z,X⟩
theorem FZ{Z D:Nat}{w W:World}(hB:Below Z w W)(X:Z<=D)(Y:Z<=w.heap.size)(o':Obj):Below Z w (W.putObj D o'):=hB.grown (grownBy_putObj' W D o') (AS Y hB.size) (λk e=>by cases e;exact X)
theorem KI{P:Program}{α:Type}{g:Operand}{H:Array Tmp}{assign body:Code}{Q:Exit->Act->World->Prop}{a:Act}{w:World}{U:Nat}{j:Array Value}
  (e:a.eval g=.func (.func U) #[] j) (eg:∀args w,(callFunc U args).run P w=.ok (.enter U args) w)
  {Y:α->Array Value} {X:World->World->Prop} {S h:List α->Prop} {N:Nat} (V:SeqStopsK Fence.wide 8 P U j Y X S h N w)
  (y:∀{A B C:World},X A B->X B C->X A C) (hKb:∀(W:World)(l:Nat)(o o':Obj),w.heap.size<=l->W.heap[l]?=some o->o.isCells=false->o.isWalk=false->X W (W.putObj l o')) (z:∀x,(Y x).size=H.size)
  (I:List α->World->Prop) (J:Code->List α->World->Prop) (hI:OwnFrom w.heap.size I) (hIx:∀c,OwnFrom w.heap.size (J c)) (h0:I [] w) (s:α->Act)
  (hassign:∀(l:Nat) (x:α) (W:World) (K:Act->World->Prop),K (s x) W->
   assign.wpIn (Fence.wide.inRound l) 7 P (Exit.then K (λ_ _ _=>False)) {tmps:=(H.zip (Y x)).foldl (λt (p,v)=>t.setIfInBounds p v) a.tmps,defers:=[]} W)
  (hbody:∀(l:Nat)(Z:List α)(x:α)(W:World),I Z W->Z.length<N->body.wpIn (Fence.wide.inRound l) 7 P (ownPostG w.heap.size X I J (Z++[x]) W) (s x) W)
  (hdone:∀(D:Nat)(xs:List α)(W:World),w.heap.size<=D->S xs->I xs W->W.heap[D]?=some (.deferred (some []))->Q .normal {a with defers:={target:=.collected D,args:=#[]}::a.defers} W)
  (hstop:∀(D:Nat)(c:Code)(Z:List α)(W:World),w.heap.size<=D->h Z->J c Z W->W.heap[D]?=some (.deferred (some []))->c.wp P Q {a with defers:={target:=.collected D,args:=#[]}::a.defers} W) :
  (Code.rangeFunc g H assign body).wp P Q a w:=
 (wpIn_wide (n:=9)).1 (wpIn_rangeFunc_ownG rfl (by decide) e trivial eg V y hKb (AH _ _) z I J hI hIx h0 s hassign hbody hdone
  (λD c Z W h1 h2 h3 h4=>wpIn_wide.2 (hstop D c Z W h1 h2 h3 h4)))
end
def Sl1{α:Type}(enc:α->Value)(w:World)(a:Option Addr)(len:Nat)(xs:List α):Prop:=
 xs.length=len/\(len=0∨∃b off,a=some ⟨b,off,none⟩/\b<w.heap.size/\∀i x,xs[i]?=some x->w.cell? ⟨b,off+i,none⟩=some (enc x))
theorem Sl1.below{α:Type}{enc:α->Value}{w w':World}{a:Option Addr}{len:Nat}{xs:List α}(h:Sl1 enc w a len xs)(Y:Bt w w'):Sl1 enc w' a len xs:=by
 obtain⟨h1,h2|⟨b,off,e,Z,V⟩⟩:=h
 ·exact⟨h1,.inl h2⟩
 ·exact⟨h1,.inr ⟨b,off,e,Af Z Y.size,λi x X=>(Y.cell (p:=⟨b,off+i,none⟩) Z).trans (V i x X)⟩⟩
section
variable {α:Type}
theorem pA(l:List α)(i:Nat)(a:α):l.toArray.setIfInBounds i a=(l.set i a).toArray:=by simp
theorem pB(a b:α)(l:List α):(a::l).set 0 b=b::l:=rfl
theorem pC(a b:α)(l:List α)(n:Nat):(a::l).set (n+1) b=a::l.set n b:=rfl
theorem pq:(∀(a:Act) (t:Tmp) (v:Value),a.put (some t) v={a with tmps:=a.tmps.setIfInBounds t v})/\(∀(a:Act) (v:Value),a.put none v=a)/\(∀(α:Type) (l:List α) (i:Nat) (a:α),l.toArray.setIfInBounds i a=(l.set i a).toArray)/\(∀(α:Type) (a b:α) (l:List α),(a::l).set 0 b=b::l)/\(∀(α:Type) (a b:α) (l:List α) (n:Nat),(a::l).set (n+1) b=a::l.set n b):=⟨fun _ _ _=>rfl,fun _ _=>rfl,fun _=>pA,fun _=>pB,fun _=>pC⟩
theorem pD(l:List α)(i:Nat):l.toArray[i]?=l[i]?:=by simp
theorem pE(a:α)(l:List α):(a::l)[0]?=some a:=rfl
theorem pF(a:α)(l:List α)(n:Nat):(a::l)[n+1]?=l[n]?:=rfl
end
section
variable {P:Program}{md:Region.Mode}{ops:Array Oper}{Q:Exit->Act->World->Prop}{S:World->Prop}
theorem tkW(i:Nat){X:Oper}{v:Value}{Y:Nat}{Z:Array Bool}{a:Act}{w:World}
  (U:∀w,S w->(execOp a.eval X).run P w=.ok (.value v) w)
  (h:wpAnyH P md ops Q S Y (Z.setIfInBounds i true) (a.put X.dst v) w)
  (I:ops[i]?=some X:=by(simp only[Dy,Iu,IP];rfl))
  (N:Region.noSelect ops=true:=by as_aux_lemma=>kernel_rfl) (H:Region.free md ops Z i=true:=by as_aux_lemma=>kernel_rfl) (J:(Region.ready md ops Z).contains i=true:=by as_aux_lemma=>kernel_rfl)
  (C:∀c a w,Q (.panic c) (a.put X.dst v) w->Q (.panic c) a w:=by exact λ_ _ _ h=>h) (V:Region.wanted X (yielded ops a.tmps)=true:=by rfl) (D:S w:=by assumption):wpAnyH P md ops Q S (Y+1) Z a w:=
 wpAnyH_take I N H J C (.inl ⟨V,U⟩) D h
theorem tkN(i:Nat){X:Oper}{Y:Nat}{Z:Array Bool}{a:Act}{w:World}
  (h:wpAnyH P md ops Q S Y (Z.setIfInBounds i true) (a.put X.dst undef) w)
  (J:ops[i]?=some X:=by(simp only[Dy,Iu,IP];rfl))
  (U:Region.noSelect ops=true:=by as_aux_lemma=>kernel_rfl) (I:Region.free md ops Z i=true:=by as_aux_lemma=>kernel_rfl) (N:(Region.ready md ops Z).contains i=true:=by as_aux_lemma=>kernel_rfl)
  (D:∀c a w,Q (.panic c) (a.put X.dst undef) w->Q (.panic c) a w:=by exact λ_ _ _ h=>h) (V:Region.wanted X (yielded ops a.tmps)=false:=by rfl) (H:S w:=by assumption):wpAnyH P md ops Q S (Y+1) Z a w:=
 wpAnyH_take J U I N D (.inr ⟨V,rfl⟩) H h
theorem tkF(c:Nat){X:Oper}{v:Value}{Y:Nat}{Z:Array Bool}{a:Act}{w:World}
  (U:∀w,S w->(execOp a.eval X).run P w=.ok (.value v) w)
  (h:wpAnyH P md ops Q S Y (Z.setIfInBounds (c-Y) true) (a.put X.dst v) w)
  (I:ops[c-Y]?=some X:=by(simp only[Nat.reduceSub,Dy,Iu,IP];rfl))
  (N:Region.noSelect ops=true:=by as_aux_lemma=>kernel_rfl) (H:Region.free md ops Z (c-Y)=true:=by as_aux_lemma=>kernel_rfl) (J:(Region.ready md ops Z).contains (c-Y)=true:=by as_aux_lemma=>kernel_rfl)
  (C:∀c a w,Q (.panic c) (a.put X.dst v) w->Q (.panic c) a w:=by exact λ_ _ _ h=>h) (V:Region.wanted X (yielded ops a.tmps)=true:=by rfl) (D:S w:=by assumption):wpAnyH P md ops Q S (Y+1) Z a w:=
 wpAnyH_take I N H J C (.inl ⟨V,U⟩) D h
theorem tkA(i:Nat){X:Oper}{v:Value}{Y:Nat}{Z:Array Bool}{a U:Act}{w:World}
  (h:wpAnyH P md ops Q S Y (Z.setIfInBounds i true) U w)
  (D:ops[i]?=some X:=by(simp only[Dy,Iu,IP];rfl))
  (J:∀w,S w->(execOp a.eval X).run P w=.ok (.value v) w:=by(intro V z;first|(go_simp;done)|(go_simp;with_reducible rfl)))
  (ha:a.put X.dst v=U:=by((try simp only[pq]);exact rfl))
  (I:Region.noSelect ops=true:=by as_aux_lemma=>kernel_rfl) (C:Region.free md ops Z i=true:=by as_aux_lemma=>kernel_rfl) (H:(Region.ready md ops Z).contains i=true:=by as_aux_lemma=>kernel_rfl)
  (A:∀c a w,Q (.panic c) (a.put X.dst v) w->Q (.panic c) a w:=by exact λ_ _ _ h=>h) (N:Region.wanted X (yielded ops a.tmps)=true:=by rfl) (B:S w:=by assumption):wpAnyH P md ops Q S (Y+1) Z a w:=
 wpAnyH_take D I C H A (.inl ⟨N,J⟩) B (ha ▸ h)
theorem tkB(i:Nat){I:World->Prop}(F:∀V,S V->I V){X:Oper}{v:Value}{Y:Nat}{Z:Array Bool}{a J:Act}{w:World}
  (h:wpAnyH P md ops Q S Y (Z.setIfInBounds i true) J w)
  (B:ops[i]?=some X:=by(simp only[Dy,Iu,IP];rfl))
  (H:∀w,S w->I w->(execOp a.eval X).run P w=.ok (.value v) w:=by(intro V x N;(repeat (obtain⟨_,N⟩:=N));first|(go_simp;done)|(go_simp;with_reducible rfl)))
  (ha:a.put X.dst v=J:=by((try simp only[pq]);exact rfl))
  (D:Region.noSelect ops=true:=by as_aux_lemma=>kernel_rfl) (A:Region.free md ops Z i=true:=by as_aux_lemma=>kernel_rfl) (C:(Region.ready md ops Z).contains i=true:=by as_aux_lemma=>kernel_rfl)
  (y:∀c a w,Q (.panic c) (a.put X.dst v) w->Q (.panic c) a w:=by exact λ_ _ _ h=>h) (U:Region.wanted X (yielded ops a.tmps)=true:=by rfl) (z:S w:=by assumption):wpAnyH P md ops Q S (Y+1) Z a w:=
 wpAnyH_take B D A C y (.inl ⟨U,λw U=>H w U (F w U)⟩) z (ha ▸ h)
theorem rdy(i:Nat){X:Oper}{Y:Nat}{Z:Array Bool}{a:Act}{w:World}
  (h:∀V:Act->World->Prop,Shut (∀a w,S w->(S w->wpAnyH P md ops Q S Y (Z.setIfInBounds i true) a w)->V a w)->if Region.wanted X (yielded ops a.tmps)=true then Oper.wp P X a w V Q else V (a.put X.dst undef) w)
  (N:ops[i]?=some X:=by(simp only[Dy,Iu,IP];rfl)) (U:Region.ready md ops Z=[i]:=by as_aux_lemma=>kernel_rfl):wpAnyH P md ops Q S (Y+1) Z a w:=
 wpAnyH_ready (rs:=[i]) U (by simp) (Aw N h Ci)
theorem apE(i j:Nat){U V:Oper}{Y:Nat}{Z:Array Bool}{a:Act}{w:World}
  (h:∀X:Act->World->Prop,Shut (∀a w,S w->(S w->wpAnyH P md ops Q S Y (Z.setIfInBounds i true) a w)->X a w)->if Region.wanted U (yielded ops a.tmps)=true then Oper.wp P U a w X Q else X (a.put U.dst undef) w)
  (g:∀X:Act->World->Prop,Shut (∀a w,S w->(S w->wpAnyH P md ops Q S Y (Z.setIfInBounds j true) a w)->X a w)->if Region.wanted V (yielded ops a.tmps)=true then Oper.wp P V a w X Q else X (a.put V.dst undef) w)
  (I:ops[i]?=some U:=by(simp only[Dy,Iu,IP];rfl)) (J:ops[j]?=some V:=by(simp only[Dy,Iu,IP];rfl)) (N:Region.ready md ops Z=[i,j]:=by as_aux_lemma=>kernel_rfl):wpAnyH P md ops Q S (Y+1) Z a w:=
 wpAnyH_ready (rs:=[i,j]) N (by simp) (Aw I h (Aw J g Ci))
end
section
open Go.ChangeShapes Go.WideShapes Go.ChangeAt Go.RowKit Go.Joins
open Go.ChangeMaps (open_string shut_string)
theorem own:ownKnob ZP.godebug=none:=by kernel_rfl
theorem laidOut:laidOutB ZP=true:=by kernel_rfl
theorem ahH:ZP.cellsOf 26=7:=by kernel_rfl
theorem Jd:ZP.cellsOf 3=1:=by kernel_rfl
section
variable {H:Type}{enc:TypeId×Value->H}{W:World}{r:Reach}{base:Nat}{d:DataW H}{p:List MemPlace}{v:Value}
theorem ari{α:Type}{cs:Array α}(h:cs.size=7):∃c0 c1 c2 c3 c4 c5 Z,cs=#[c0,c1,c2,c3,c4,c5,Z]:=by
 obtain⟨l⟩:=cs
 match l,h with
 |[c0,c1,c2,c3,c4,c5,Z],_=>exact⟨c0,c1,c2,c3,c4,c5,Z,rfl⟩
theorem aqS(hv:Value.okWide ZP W r base 26 v)(h:DataW.Trod enc ZP W 0 (λ_=>true) true 26 v d p) :∃wk bl rg j ou s fr:Int,v=.agg (Ee wk bl rg j ou s fr):=by
 obtain⟨cs,rfl,U⟩:=okWide_struct underlying26 hv;obtain⟨c0,c1,c2,c3,c4,c5,c6,rfl⟩:=ari (U.trans ahH);obtain⟨J,hf⟩:=h;obtain⟨xs,n,_,_,_,V,X⟩:=DataW.trod_struct underlying26 hf;have Z:∀i:Nat,i<7->∃m:Int,(#[c0,c1,c2,c3,c4,c5,c6]:Array Value)[i]?=some (.int .i64 m):=by
  intro i hi;have N:xs.length=7:=V;obtain⟨y,Y⟩:∃y,xs[i]?=some y:=⟨xs[i]'om,by simp⟩
  match i,hi with
  |0,_=>have this:=X 0;simp only[pD,pE,pF,DC,forall_eq',Jd,Y]at this;obtain⟨m,e,_⟩:=DataW.trod_int underlying3 this;simp[Value.cells]at e;exact⟨m,by simp[e]⟩
  |1,_=>have this:=X 1;simp only[pD,pE,pF,DC,forall_eq',Jd,Y]at this;obtain⟨m,e,_⟩:=DataW.trod_int underlying3 this;simp[Value.cells]at e;exact⟨m,by simp[e]⟩
  |2,_=>have this:=X 2;simp only[pD,pE,pF,DC,forall_eq',Jd,Y]at this;obtain⟨m,e,_⟩:=DataW.trod_int underlying3 this;simp[Value.cells]at e;exact⟨m,by simp[e]⟩
  |3,_=>have this:=X 3;simp only[pD,pE,pF,DC,forall_eq',Jd,Y]at this;obtain⟨m,e,_⟩:=DataW.trod_int underlying3 this;simp[Value.cells]at e;exact⟨m,by simp[e]⟩
  |4,_=>have this:=X 4;simp only[pD,pE,pF,DC,forall_eq',Jd,Y]at this;obtain⟨m,e,_⟩:=DataW.trod_int underlying3 this;simp[Value.cells]at e;exact⟨m,by simp[e]⟩
  |5,_=>have this:=X 5;simp only[pD,pE,pF,DC,forall_eq',Jd,Y]at this;obtain⟨m,e,_⟩:=DataW.trod_int underlying3 this;simp[Value.cells]at e;exact⟨m,by simp[e]⟩
  |6,_=>have this:=X 6;simp only[pD,pE,pF,DC,forall_eq',Jd,Y]at this;obtain⟨m,e,_⟩:=DataW.trod_int underlying3 this;simp[Value.cells]at e;exact⟨m,by simp[e]⟩
 obtain⟨m0,x⟩:=Z 0 om;obtain⟨m1,z⟩:=Z 1 om;obtain⟨m2,A⟩:=Z 2 om;obtain⟨m3,B⟩:=Z 3 om;obtain⟨m4,C⟩:=Z 4 om;obtain⟨m5,D⟩:=Z 5 om;obtain⟨m6,I⟩:=Z 6 om;simp at x z A B C D I;exact⟨m0,m1,m2,m3,m4,m5,m6,by rw[x,z,A,B,C,D,I]⟩
end
end
def BE(x:Int):Int:=if 65<=x/\x<=90 then x+32 else x
def AO(fold:Bool)(xs:List Int):List Int:=if fold then xs.map BE else xs
def CH(fold:Bool)(xs ys:List Int):Bool:=decide (AO fold xs=AO fold ys)
def atL(fold:Bool)(X:List Int)(Z:Int)(Y:List Int):Bool:=
 decide ((Y.length:Int)<=Z/\Z<=(X.length:Int))&&CH fold ((X.drop (Z.toNat-Y.length)).take Y.length) Y
def LM(fold:Bool)(Z:List Int)(wss:La):Option Nat:=wss.findIdx? (λw=>CH fold Z w)
def BV(fold:Bool)(Z:List Int)(wss:La):Int:=match LM fold Z wss with|none=>-1|some k=>k
theorem JW{x:Int}(h:0<=x/\x<=255):0<=BE x/\BE x<=255:=by unfold BE;split<;>omega
theorem afT(x:Int):BE (BE x)=BE x:=by unfold BE;by_cases h:65<=x/\x<=90<;>simp[h]<;>omega
theorem Ew(fold:Bool)(xs:List Int):(AO fold xs).length=xs.length:=by cases fold<;>simp[AO]
theorem abq(fold:Bool)(xs:List Int):AO fold (AO fold xs)=AO fold xs:=by
 cases fold
 ·rfl
 ·simp only[AO,if_true,List.map_map];exact OJ λx _=>afT x
theorem MD{fold:Bool}{xs:List Int}(h:∀x∈xs,0<=x/\x<=255):∀x∈AO fold xs,0<=x/\x<=255:=by
 cases fold
 ·exact h
 ·intro x Z;simp only[AO,if_true,Be]at Z;obtain⟨y,Y,rfl⟩:=Z;exact JW (h y Y)
theorem aci(fold:Bool)(xs ys:List Int):CH fold xs ys=CH fold ys xs:=by
 unfold CH
 by_cases h:AO fold xs=AO fold ys
 ·simp[h]
 ·simp[h];exact λe=>h e.symm
theorem aey{fold:Bool}{xs ys:List Int}(h:CH fold xs ys=true):xs.length=ys.length:=by
 have:=Lj h;have h2:=congrArg List.length this
 rwa[Ew,Ew]at h2
theorem amu{fold:Bool}{xs ys:List Int}(h:xs.length≠ys.length):CH fold xs ys=false:=by
 cases e:CH fold xs ys with
 |false=>rfl
 |true=>exact absurd (aey e) h
def KD(fold:Bool)(x y:Int):Bool:=if fold then decide (BE x=BE y) else decide (x=y)
theorem Fg(fold:Bool)(xs:List Int):AO fold xs=xs.map (λx=>if fold then BE x else x):=by cases fold<;>simp[AO]
theorem abl{fold:Bool}:∀{xs ys:List Int},xs.length=ys.length->(CH fold xs ys=true↔∀p∈xs.zip ys,KD fold p.1 p.2=true)
 |[],[],_=>by simp[CH]
 |x::xs,y::ys,h=>by
  have Z:=abl (fold:=fold) (xs:=xs) (ys:=ys) (by simpa using h);unfold CH at Z⊢;rw[Fg,Fg]at Z⊢;simp only[decide_eq_true_eq]at Z⊢;simp only[BO,MY,List.zip_cons_cons,CR,forall_eq_or_imp,Z]
  cases fold<;>simp[KD]
 |[],_::_,h=>by simp at h
 |_::_,[],h=>by simp at h
theorem acn(fold:Bool)(Z:List Int):BV fold Z []=-1:=rfl
theorem aai{fold:Bool}{Z:List Int}{wss:La}{y:List Int}(h:BV fold Z wss=-1)(Y:CH fold Z y=false):BV fold Z (wss++[y])=-1:=by
 unfold BV LM at h⊢;rw[List.findIdx?_append]
 cases e:wss.findIdx? (λw=>CH fold Z w)with
 |none=>simp[Y]
 |some k=>rw[e]at h;simp at h
theorem acK{fold:Bool}{Z:List Int}{wss rest:La}{y:List Int}(h:BV fold Z wss=-1)(Y:CH fold Z y=true):BV fold Z (wss++y::rest)=wss.length:=by
 unfold BV LM at h⊢;rw[List.findIdx?_append]
 cases e:wss.findIdx? (λw=>CH fold Z w)with
 |none=>simp[Y,List.findIdx?_cons]
 |some k=>rw[e]at h;simp at h
theorem ajV(fold:Bool)(Z:List Int)(wss:La):-1<=BV fold Z wss/\BV fold Z wss<wss.length:=by
 unfold BV LM
 cases e:wss.findIdx? (λw=>CH fold Z w)with
 |none=>simp;omega
 |some k=>
  have:=(List.findIdx?_eq_some_iff_getElem.1 e).1;simp;omega
theorem As{α:Type}{xs:List α}{k:Nat}{z:α}(h:xs[k]?=some z):xs.take (k+1)=xs.take k++[z]:=by rw[LH,h];rfl
theorem Mu{α:Type}{xs:List α}{k:Nat}{z:α}(h:xs[k]?=some z):xs=xs.take k++z::xs.drop (k+1):=by have hk:=(AP.1 h);obtain⟨Z,rfl⟩:=hk;rw[<-List.drop_eq_getElem_cons Z,Dx]
def Au(wss:La):Int:=wss.foldl (λn w=>max n (w.length:Int)) 0
theorem acO(l:La)(x:List Int):Au (l++[x])=max (Au l) (x.length:Int):=by simp[Au,FI]
theorem amW:ZP.cellsOf 407=0:=by kernel_rfl
theorem aa9(w:World)(b:Nat)(cs:Array Value)(t:TypeId)(fr:Nat×Nat)(h:w.heap[b]?=some (.cells cs t fr))(Z:ZP.cellsOf t=0) :Sem.run ZP (partAt ⟨b,0,none⟩ 0 0) w=.ok ⟨b,0,none⟩ w:=by simp[partAt,byteOf,noView,viewAt,World.shape?,h,Z,go_sem]
theorem ah0(w:World)(t:TypeId)(Z:ZP.cellsOf t=0) :Sem.run ZP (partAt ⟨w.heap.size,0,none⟩ 0 0) (w.alloc (.cells #[] t))=.ok ⟨w.heap.size,0,none⟩ (w.alloc (.cells #[] t)):=aa9 _ _ _ _ _ (AT _ _) Z
theorem aeY{w:World}{b:Nat}{cs:Array Value}{t:TypeId}{fr:Nat×Nat}(h:w.heap[b]?=some (.cells cs t fr))(Z:ZP.cellsOf t=0)(d:Nat)(os:Array Obj) :Sem.run ZP (partAt ⟨b,0,none⟩ 0 0) (grow (redrawn w d) os)=.ok ⟨b,0,none⟩ (grow (redrawn w d) os):=aa9 _ _ _ _ _ (((Kf w d os).block b (AD.1 h).1).trans h) Z
theorem ads(x:Int)(w:World)(h0:0<=x)(h1:x<=255) :Calls ZP 230 #[.int .u8 x] w λe w'=>e=.returned (.int .u8 (BE x))/\w=w':=by
 by_cases h2:65<=x
 ·by_cases h3:x<=90
  all_goals
   go_enter func230,ntmps230;go_wp2;go_ret;exact⟨JG (by unfold BE;first|rw[Lc om]|rw[Lb om]),rfl⟩
 ·go_enter func230,ntmps230;go_wp2;go_ret;exact⟨JG (by unfold BE;rw[Lb om]),rfl⟩
theorem akw(x:Int)(w:World)(h0:0<=x)(h1:x<=255) :Calls ZP 214 #[.int .u8 x] w λe w'=>e=.returned (.int .u8 (BE x))/\w=w':=by
 by_cases h2:65<=x
 ·by_cases h3:x<=90
  all_goals
   go_enter func214,ntmps214;go_wp2;go_ret;exact⟨JG (by unfold BE;first|rw[Lc om]|rw[Lb om]),rfl⟩
 ·go_enter func214,ntmps214;go_wp2;go_ret;exact⟨JG (by unfold BE;rw[Lb om]),rfl⟩
theorem adW(x y:Int)(w:World) :Calls ZP 299 #[.agg #[],.int .u8 x,.int .u8 y] w λe w'=>e=.returned (bool (decide (x=y)))/\Bt w w':=by
 by_cases h:x=y
 all_goals
  go_enter func299,ntmps299;go_wp2;go_ret;exact⟨by simp[h],(AH _ _).alloc (AC _) _⟩
theorem ahq(x y:Int)(w:World)(U:0<=x)(V:x<=255)(X:0<=y)(Y:y<=255) :Calls ZP 298 #[.agg #[],.int .u8 x,.int .u8 y] w λe w'=>e=.returned (bool (decide (BE x=BE y)))/\Bt w w':=by
 have H:=JW ⟨U,V⟩;have I:=JW ⟨X,Y⟩;go_enter func298,ntmps298;have J:=aeY (AT w (.cells #[] 407)) amW;go_wp2;refine wp_region_quiet_below mixed kr ?_
 repeat (go_big_quiet_step (first|exact ahv (ads _ _ om om)|exact Eu (adW _ _ _)))
 refine wpQuiet_nil ?_;rintro _ ⟨⟨N,Z⟩,rfl⟩;go_wp2;go_ret;exact⟨rfl,((AH _ _).alloc (AC _) _).trans ((Kf _ N Z).mono sm)⟩
theorem IW(P:Program)(w:World)(a:Addr)(f:Fn)(Z us:Array Value)(m:Mode):(store a (.func f Z us) m).run P w=stored P w a (.func f Z us) m:=run_store P w a _ m rfl
def EP(fold:Bool):FuncId:=if fold then 298 else 299
theorem aoA(fold:Bool)(w:World) :Calls ZP 294 #[bool fold] w λe w'=>e=.returned (.func (.func (EP fold)) #[.agg #[]] #[])/\Bt w w':=by
 cases fold
 all_goals
  go_enter func294,ntmps294;have Z:=ah0 w 407 amW;go_wp2;go_ret;exact⟨by simp[EP],(AH _ _).alloc (AC _) _⟩
section
def NZ(a b c d e f:Int):Int:=min (min (min (min (min a b) c) d) e) f
theorem amz{P:Program}(w:World)(Z:Array TypeId)(t:TypeId)(a b c d e f:Int) :(Builtin.min_ Z t #[int i64 a,int i64 b,int i64 c,int i64 d,int i64 e,int i64 f]).run P w=.ok (int i64 (NZ a b c d e f)) w:=by
 have m:∀x y:Int,(if y<x then y else x)=min x y:=by intro x y;rw[Int.min_def];split<;>split<;>omega
 simp only[<-m,NZ];simp[Builtin.min_,Builtin.min2]
theorem agN{a b c d e f:Int}:1<=NZ a b c d e f↔1<=a/\1<=b/\1<=c/\1<=d/\1<=e/\1<=f:=by unfold NZ;omega
attribute[local go_sem high] amz
theorem afn(wk bl rg X V Y fr:Int)(w:World) :Calls ZP 25 #[.agg (Ee wk bl rg X V Y fr)] w λe w'=>e=.returned (bool (Ce wk bl rg X V Y fr))/\Bt w w':=by
  obtain⟨B,hB⟩:∃B,Ce wk bl rg X V Y fr=B:=⟨_,rfl⟩;have U:Hid (Ce wk bl rg X V Y fr=B):=hB;rw[hB];clear hB;have Z:fr<=4611686018427387904∨¬fr<=4611686018427387904:=Decidable.em _
  rcases Z with Z|Z
  all_goals
    go_enter func25,ntmps25;go_wp2
    all_goals
      go_ret;refine⟨?_,(AH _ _).alloc (AC _) _⟩
      first
        | (show Ending.returned (.bool true)=_
           rw[<-U.out,Gi.2 (by simp only[agN]at *;omega)])
        | (show Ending.returned (.bool false)=_
           have e:Ce wk bl rg X V Y fr=false:=by refine Bool.eq_false_iff.2 λh=>?_;have h1:=Gi.1 h;have h2:=agN.2 ⟨h1.1.1,h1.2.1.1,h1.2.2.1.1,h1.2.2.2.1.1,h1.2.2.2.2.1.1,h1.2.2.2.2.2.1.1⟩;omega
           rw[<-U.out,e])
end
section
attribute[local go_sem] Oper.semAt_some
attribute[local simp] Ak Al
attribute[local go_sem] Ak Al
def Bys(w:World)(a:Option Addr)(len:Nat)(xs:List Int):Prop:=Sl1 (Value.int .u8) w a len xs/\∀x∈xs,0<=x/\x<=255
theorem Bys.below{w w':World}{a:Option Addr}{len:Nat}{xs:List Int}(h:Bys w a len xs)(Z:Bt w w'):Bys w' a len xs:=⟨h.1.below Z,h.2⟩
theorem Bys.len{w:World}{a:Option Addr}{len:Nat}{xs:List Int}(h:Bys w a len xs):xs.length=len:=h.1.1
theorem Bys.nil(w:World)(a:Option Addr):Bys w a 0 []:=⟨⟨rfl,.inl rfl⟩,by simp⟩
abbrev kept(w W:World):Prop:=Cc (λk=>k<w.heap.size) w W
theorem Kd{w W:World}(h:kept w W){p:Addr}(Z:p.block<w.heap.size):W.cell? p=w.cell? p:=BC (h _ Z)
theorem ahL{w W:World}(h:Bt w W):kept w W:=Ke h λ_ h=>h
theorem akz(a b:Option Addr)(Y V Z X:Nat)(w:World) :Calls ZP 295 #[.slice a Y V,.slice b Z X] w λe w'=>e=.returned (.func (.func 300) #[] #[.pointer (some ⟨w.heap.size,0,none⟩),.pointer (some ⟨w.heap.size+1,0,none⟩)])/\
   w'=(w.alloc (.cells #[slice a Y V] 32)).alloc (.cells #[slice b Z X] 32):=by
 go_enter func295,ntmps295;go_wp2;go_ret;exact⟨rfl,rfl⟩
abbrev By2:={p:Int×Int // (0<=p.1/\p.1<=255)/\0<=p.2/\p.2<=255}
def aiG(p:By2):Array Value:=#[.int .u8 p.1.1,.int .u8 p.1.2]
theorem afv(a b:Option Addr)(Y ca N cb p1 p2:Nat)(xs ys:List Int)(n:Nat)(w:World)(hA:Bys w a Y xs)(hB:Bys w b N ys)(hl:Y=N)(ad:Y<=1000000)
  (h1:w.heap[p1]?=some (.cells #[slice a Y ca] 32 (0,0))) (h2:w.heap[p2]?=some (.cells #[slice b N cb] 32 (0,0))) :
  SeqStopsK Fence.wide n ZP 300 #[pointer (some ⟨p1,0,none⟩),pointer (some ⟨p2,0,none⟩)] aiG (Cc (λk=>k<w.heap.size)) (λzs=>zs.map Subtype.val=xs.zip ys) (λZ=>∃k,Z.map Subtype.val=(xs.zip ys).take k) 1000001 w:=by
 intro l J Jx W hW hJ ae hY h0;have z:kept w W:=ahL hW;have a2:p1<w.heap.size:=(AD.1 h1).1;have a1:p2<w.heap.size:=(AD.1 h2).1;have cells:∀v:World,kept w v->v.cell? ⟨p1,0,none⟩=some (slice a Y ca)/\v.cell? ⟨p2,0,none⟩=some (slice b N cb):=by intro v hv;rw[Kd hv a2,Kd hv a1];simp[cell?,h1,h2]
 obtain⟨C,D⟩:=hA.1;obtain⟨X,I⟩:=hB.1;have HX:=AA hA.2;have HY:=AA hB.2;have HL:=AA hl;have h:=AA C;have aa:=AA X;clear hA hB hl C X;obtain⟨c1,c2⟩:=cells W z;refine callsIn_of_wp func300 rfl trivial ?_ rfl;simp only[ntmps300,Cw,Ao,Bw,Nat.reduceAdd,Nat.reduceSub,Dd,Dc,DX,Da,Av,CT]
 gi_wp2
 clear c1 c2
 gi_loopw[8] (λi wr=>∃(k:Nat)(Z:List By2),k<=Y/\i=int i64 k/\Z.map Subtype.val=(xs.zip ys).take k/\J Z wr/\kept w wr) (λi _=>Y-(intOf i).toNat)
 case atStart=>exact⟨0,[],AR _,rfl,by simp,h0,z⟩
 case round=>
  obtain⟨k,Z,hk,rfl,U,hj,V⟩:=hrel;have HP:=AA U;clear U
  by_cases A:k<Y
  ·obtain⟨x,hx⟩:∃x,xs[k]?=some x:=⟨xs[k]'(by rw[h.out];exact A),by simp⟩;obtain⟨y,hy⟩:∃y,ys[k]?=some y:=⟨ys[k]'(by rw[aa.out,<-HL.out];exact A),by simp⟩;obtain⟨ba,oa,rfl,a7,B⟩:=D.resolve_left om;obtain⟨bb,ob,rfl,a6,H⟩:=I.resolve_left (by have:=HL.out;omega);obtain⟨c1,c2⟩:=cells wr V;have cx:wr.cell? ⟨ba,oa+k,none⟩=some (.int .u8 x):=(Kd V (p:=⟨ba,oa+k,none⟩) a7).trans (B k x hx);have cy:wr.cell? ⟨bb,ob+k,none⟩=some (.int .u8 y):=(Kd V (p:=⟨bb,ob+k,none⟩) a6).trans (H k y hy);have j:=HX.out x (AX hx);have s:=HY.out y (AX hy);have ac:Z.length<=k:=by have:=congrArg List.length HP.out;simp at this;omega
   have ab:(k:Int)<N:=by have:=HL.out;omega
   obtain⟨fn,tmps,assign,body,X,a8⟩:=hY Z ⟨(x,y),j,s⟩ wr hj om;have HS:Hid ((Z++[(⟨(x,y),j,s⟩:By2)]).map Subtype.val=(xs.zip ys).take (k+1)):=by
    have hz:(xs.zip ys)[k]?=some (x,y):=by rw[List.getElem?_zip_eq_some];exact⟨hx,hy⟩
    rw[As hz,<-HP.out];simp[Hid]
   dsimp only[aiG]at X;clear hx hy B H D I
   gi_wp2
   refine a8.mono ?_;rintro e W4 (⟨rfl,hJ4,hk4⟩|⟨rfl,hJx4⟩)
   ·gi_wp2
    go_roundw
    case rel=>exact⟨k+1,_,by omega,by go_num,HS.out,hJ4,GD V hk4⟩
    case measure=>simp[intOf];omega
   ·gi_wp2
    refine Vf (results_none rfl _ _ _) rfl ?_;exact⟨⟨_,rfl⟩,.inr ⟨_,⟨k+1,HS.out⟩,hJx4⟩⟩
  ·obtain rfl:k=Y:=by omega
   gi_wp2
   go_end0
   refine⟨⟨_,rfl⟩,.inl ⟨Z,?_,hj⟩⟩;show Z.map Subtype.val=xs.zip ys;rw[HP.out,Ap (by simp;have:=h.out;omega)]
end
section
attribute[local go_sem] Oper.semAt_some
attribute[local simp] Ak Al
attribute[local go_sem] Ak Al
attribute[local go_sem] IW
theorem ahG(fold:Bool)(x y:Int)(w:World)(Y:0<=x/\x<=255)(Z:0<=y/\y<=255) :Calls ZP (EP fold) #[.agg #[],.int .u8 x,.int .u8 y] w λe w'=>e=.returned (bool (KD fold x y))/\Bt w w':=by
 cases fold
 ·exact adW x y w
 ·exact ahq x y w Y.1 Y.2 Z.1 Z.2
theorem aac{fn:Func}{p:Tmp}{tmps:Array Value}{W:World}{B:Nat}{t:TypeId}{b:Bool}(h:fn.results=#[.cell p 4])(Y:tmps.getD p undef=pointer (some ⟨B,0,none⟩))(hB:Boxed W B t (bool b)) :(results fn tmps).run ZP W=.ok (bool b) W:=by
 have Z:tmps[p]?.getD undef=pointer (some ⟨B,0,none⟩):=by simpa using Y
 have X:=hB.cell;simp[results,h,Z,asAddr,X,go_sem,loadVar]
theorem aeI(fold:Bool)(args:Array Value)(w:World):Sem.run ZP (callFunc (EP fold) args) w=.ok (.enter (EP fold) args) w:=by
 cases fold
 ·exact Vg func299 kr rfl args w
 ·exact Vg func298 kr rfl args w
theorem Li{β:Type}(B n:Nat):OwnFrom B (λ(_:β) W=>n<=W.heap.size):=λs A C row Z Y X=>AS Z Y.size
theorem agE{β:Type}(B:Nat)(p:β->Prop):OwnFrom B (λs (_:World)=>p s):=λs A C row Z X Y=>Z
theorem am2(fold:Bool)(a b:Option Addr)(Z N lb U:Nat)(xs ys:List Int)(w:World)(hA:Bys w a Z xs)(hB:Bys w b lb ys)(aa:Z<=1000000) :Calls ZP 287 #[bool fold,slice a Z N,slice b lb U] w λe w'=>e=.returned (bool (CH fold xs ys))/\Bt w w':=by
 refine Hc func287 rfl ?_;simp only[ntmps287,Cw,Ao,Bw,Nat.reduceAdd,Nat.reduceSub,Dd,Dc,DX,Da,Av,CT];have a2:=hA;have a1:=hB
 by_cases hl:Z=lb
 ·subst hl
  go_wp2_with fail
  refine(aoA fold _).mono ?_;rintro e Y ⟨rfl,hb⟩;have ag:Bt w Y:=((AH _ _).alloc (AC _) _).trans (hb.mono sm);have bR:Boxed Y w.heap.size 4 (bool false):=(hb.block _ sm).trans (Boxed.new w 4 (bool false));have a8:w.heap.size<Y.heap.size:=bR.lt
  go_wp2_with (go_at_call 295;refine(akz _ _ _ _ _ _ _).mono ?_;rintro e w' ⟨rfl,rfl⟩)
  have bF:Boxed (((Y.alloc (.cells #[.func (.func (EP fold)) #[.agg #[]] #[]] 395)).alloc (.cells #[slice a Z N] 32)).alloc (.cells #[slice b Z U] 32)) Y.heap.size 395 (.func (.func (EP fold)) #[.agg #[]] #[]):=
   ((Boxed.new Y _ _).alloc _).alloc _
  have bA:(((Y.alloc (.cells #[.func (.func (EP fold)) #[.agg #[]] #[]] 395)).alloc (.cells #[slice a Z N] 32)).alloc (.cells #[slice b Z U] 32)).heap[Y.heap.size+1]?=some (.cells #[slice a Z N] 32 (0,0)):=by
   have:=(Boxed.new (Y.alloc (.cells #[.func (.func (EP fold)) #[.agg #[]] #[]] 395)) 32 (slice a Z N)).alloc (.cells #[slice b Z U] 32)
   rwa[DN]at this
  have bB:(((Y.alloc (.cells #[.func (.func (EP fold)) #[.agg #[]] #[]] 395)).alloc (.cells #[slice a Z N] 32)).alloc (.cells #[slice b Z U] 32)).heap[Y.heap.size+1+1]?=some (.cells #[slice b Z U] 32 (0,0)):=by
   have:=(Boxed.new ((Y.alloc (.cells #[.func (.func (EP fold)) #[.agg #[]] #[]] 395)).alloc (.cells #[slice a Z N] 32)) 32 (slice b Z U))
   rwa[DN,DN]at this
  have ai:=((bR.alloc (.cells #[.func (.func (EP fold)) #[.agg #[]] #[]] 395)).alloc (.cells #[slice a Z N] 32)).alloc (.cells #[slice b Z U] 32);have B:=((ag.alloc (DP a8) (.cells #[.func (.func (EP fold)) #[.agg #[]] #[]] 395)).alloc (by simp;omega) (.cells #[slice a Z N] 32)).alloc (by simp;omega) (.cells #[slice b Z U] 32);have ak:(((Y.alloc (.cells #[.func (.func (EP fold)) #[.agg #[]] #[]] 395)).alloc (.cells #[slice a Z N] 32)).alloc (.cells #[slice b Z U] 32)).heap.size=Y.heap.size+3:=by simp
  generalize (((Y.alloc (.cells #[.func (.func (EP fold)) #[.agg #[]] #[]] 395)).alloc (.cells #[slice a Z N] 32)).alloc (.cells #[slice b Z U] 32))=w3 at *
  have ah:=hA.below B;have j:=hB.below B
  apply KI rfl (enters_of func300 kr rfl) (afv a b Z N Z U (Y.heap.size+1) (Y.heap.size+1+1) xs ys 8 w3 ah j rfl aa bA bB) GD (JR λ_ h=>h) (λ_=>rfl)
   (λJ W=>Boxed W Y.heap.size 395 (.func (.func (EP fold)) #[.agg #[]] #[])/\Boxed W w.heap.size 4 (bool false)/\Bt w W/\w3.heap.size<=W.heap.size/\∀p∈J.map Subtype.val,KD fold p.1 p.2=true)
   (λc J W=>Boxed W w.heap.size 4 (bool false)/\Bt w W/\c=.ret/\∃p∈J.map Subtype.val,KD fold p.1 p.2=false)
  case hI=>exact OwnFrom.and (Own.from (boxed_own _ _ _) _) (OwnFrom.and (Own.from (boxed_own _ _ _) _) (OwnFrom.and (ownFrom_below (AC _) om) (OwnFrom.and (Li _ _) (agE _ _))))
  case hIx=>exact λc=>OwnFrom.and (Own.from (boxed_own _ _ _) _) (OwnFrom.and (ownFrom_below (AC _) om) (agE _ _))
  case h0=>exact⟨bF,ai,B,AC _,by simp⟩
  case hassign=>
   intro l x W K z;unfold aiG
   gi_wp2
   exact z
  case hbody=>
   rintro l J ⟨⟨x,y⟩,hx,hy⟩ W ⟨hF,I,hB,hs,V⟩ aj;have hc:=hF.cell;have ad:=I.cell;have ab:=I.frozen;dsimp only at hx hy⊢;have a6:=AA V;clear V;have he:=aeI fold
   gi_wp2_with fail
   refine(callsIn_wide.2 (ahG fold x y W hx hy)).mono ?_;rintro e W4 ⟨rfl,X⟩;have C:Boxed W4 w.heap.size 4 (bool false):=(X.block _ I.lt).trans I;have af:Boxed W4 Y.heap.size 395 (.func (.func (EP fold)) #[.agg #[]] #[]):=(X.block _ hF.lt).trans hF;have ao:=C.cell;have am:=C.frozen;have a7:w3.heap.size<=W4.heap.size:=AS hs X.size;have s:Bt w W4:=hB.trans (X.mono hB.size)
   cases e:KD fold x y with
   |true=>
    gi_wp2
    refine⟨Nj X,Ke X (λk hk=>by omega),af,C,s,a7,?_⟩;rw[Aj];intro p H
    rcases Bf.1 H with H|H
    ·exact a6.out p H
    ·simp at H;rw[H];exact e
   |false=>
    gi_wp2
    have kO:=(Jp W4 ⟨w.heap.size,0,none⟩ (bool false)).from w3.heap.size;exact⟨(Nj X).trans kO,C.set _,s.setCell (AC _) _,rfl,(x,y),by simp,e⟩
  case hdone=>
   rintro D zs W hD hS ⟨hF,I,hB,hs,V⟩ z;have ae:(W.setCell ⟨w.heap.size,0,none⟩ (bool true)).heap[D]?=some (.deferred (some [])):=(AQ W ⟨w.heap.size,0,none⟩ _ _ (by simp;omega)).trans z;have ad:=I.cell;have ab:=I.frozen;go_wp2;have bT:Boxed ((W.setCell ⟨w.heap.size,0,none⟩ (bool true)).putObj D (.deferred none)) w.heap.size 4 (bool true):=(Cm om).trans (I.set _);refine Gg rfl ae (aac rfl rfl bT) ⟨?_,FZ (hB.setCell (AC _) _) om (AC _) _⟩;rw[(abl (by rw[a2.len,a1.len])).2 (by rw[<-hS];exact V)]
  case hstop=>
   rintro D c J W hD hS ⟨I,hB,rfl,ac⟩ z;go_wp2;have bT:Boxed (W.putObj D (.deferred none)) w.heap.size 4 (bool false):=(Cm om).trans I;refine Gg rfl z (aac rfl rfl bT) ⟨?_,FZ hB om (AC _) _⟩;obtain⟨p,H,A⟩:=ac
   cases e:CH fold xs ys with
   |false=>rfl
   |true=>
    exfalso
    have:=(abl (by rw[a2.len,a1.len])).1 e p (by obtain⟨k,hk⟩:=hS;rw[hk]at H;exact EG H);rw[this]at A
    cases A
 ·have hE:CH fold xs ys=false:=amu (by rw[hA.len,hB.len];exact hl);have al:((Z:Int) != (lb:Int))=true:=by simp;omega
  go_wp2;refine aps rfl (aac rfl rfl (Boxed.new w 4 _)) ⟨by rw[hE],(AH _ _).alloc (AC _) _⟩
end
theorem Cf(b off i:Nat):(⟨b,off,none⟩:Addr).add i=⟨b,off+i,none⟩:=by
 unfold Addr.add
 split<;>simp_all
theorem Sl1.cut{α:Type}{enc:α->Value}{w:World}{a:Option Addr}{n:Nat}{xs:List α}(h:Sl1 enc w a n xs){lo m:Nat}(V:lo+m<=n) :Sl1 enc w (a.map (·.add lo)) m ((xs.drop lo).take m):=by
 obtain⟨h1,h2⟩:=h;refine⟨by simp;omega,?_⟩
 by_cases h0:m=0
 ·exact .inl h0
 ·right
  obtain⟨b,off,rfl,X,Z⟩:=h2.resolve_left om;refine⟨b,off+lo,by simp[Cf],X,λi x Y=>?_⟩;rw[FT]at Y
  split at Y
  ·rw[Hm]at Y;rw[Nat.add_assoc];exact Z _ x Y
  ·cases Y
theorem Bys.cut{w:World}{a:Option Addr}{n:Nat}{xs:List Int}(h:Bys w a n xs){lo m:Nat}(Y:lo+m<=n):Bys w (a.map (·.add lo)) m ((xs.drop lo).take m):=⟨h.1.cut Y,λx Z=>h.2 x (Iq (EG Z))⟩
def Wds(w:World)(a:Option Addr)(len:Nat)(wss:La):Prop:=
 ∃Z:List (Option Addr×Nat×Nat),Sl1 (λv=>slice v.1 v.2.1 v.2.2) w a len Z/\Z.length=wss.length/\∀(i:Nat)(v:Option Addr×Nat×Nat)(xs:List Int),Z[i]?=some v->wss[i]?=some xs->Bys w v.1 v.2.1 xs/\v.2.1<=v.2.2
theorem Wds.below{w w':World}{a:Option Addr}{len:Nat}{wss:La}(h:Wds w a len wss)(X:Bt w w'):Wds w' a len wss:=by obtain⟨V,h1,h2,h3⟩:=h;exact⟨V,h1.below X,h2,λi v xs Y Z=>⟨(h3 i v xs Y Z).1.below X,(h3 i v xs Y Z).2⟩⟩
theorem Wds.len{w:World}{a:Option Addr}{len:Nat}{wss:La}(h:Wds w a len wss):wss.length=len:=by obtain⟨Z,h1,h2,h3⟩:=h;rw[<-h2,h1.1]
theorem Wds.at_{w:World}{a:Option Addr}{len:Nat}{wss:La}(h:Wds w a len wss){k:Nat}(hk:k<len) :∃b off U l c xs,a=some ⟨b,off,none⟩/\b<w.heap.size/\w.cell? ⟨b,off+k,none⟩=some (slice U l c)/\wss[k]?=some xs/\Bys w U l xs/\l<=c:=by have J:=h.len;obtain⟨Y,⟨h0,h1⟩,h2,h3⟩:=h;obtain⟨b,off,rfl,Z,N⟩:=h1.resolve_left om;obtain⟨v,V⟩:∃v,Y[k]?=some v:=⟨Y[k]'om,by simp⟩;obtain⟨x,X⟩:∃v,wss[k]?=some v:=⟨wss[k]'om,by simp⟩;exact⟨b,off,v.1,v.2.1,v.2.2,x,rfl,Z,N k v V,X,h3 k v x V X⟩
theorem Ff{wss:La}{M:Nat}(h:∀x∈wss,x.length<=M){k:Nat}{x:List Int}(Z:wss[k]?=some x):x.length<=M:=h x (AX Z)
theorem aeb(fold:Bool)(a b:Option Addr)(U z Y cb:Nat)(xs:List Int)(wss:La)(w:World)(hA:Bys w a U xs)(hB:Wds w b Y wss)(a1:Y<=1000000)(hM:∀x∈wss,x.length<=1000000) :Calls ZP 256 #[bool fold,slice a U z,slice b Y cb] w λe w'=>e=.returned (int i64 (BV fold xs wss))/\Bt w w':=by
 have y:=AA hB.len;go_enter func256,ntmps256;go_wp2
 go_loopw[11] (λi wr=>∃k:Nat,k<=Y/\i=int i64 k/\Hid (BV fold xs (wss.take k)=-1)/\Bt w wr) (λi _=>Y-(intOf i).toNat)
 case atStart=>exact⟨0,AR _,rfl,by simp[Hid,acn],AH _ _⟩
 case round=>
  obtain⟨k,hk,rfl,B,Z⟩:=hrel;have C:=hA.below Z;have D:=hB.below Z
  by_cases I:k<Y
  ·obtain⟨bb,off,a',l,c,x,rfl,a2,H,J,A,j⟩:=D.at_ I;have N:l<=1000000:=by have:=Ff hM J;rw[A.len]at this;exact this
   go_wp2_with fail
   refine(am2 fold a' a l c U z x xs wr A C N).mono ?_;rintro e s ⟨rfl,hb⟩;have X:Bt w s:=Z.trans (hb.mono Z.size)
   cases e:CH fold x xs with
   |true=>
    have V:Hid (BV fold xs wss=k):=by have h:=acK (rest:=wss.drop (k+1)) B (by rw[aci];exact e);rw[<-Mu J]at h;rw[Hid,h,Ag,y.out];omega
    go_wp2;go_ret;exact⟨by rw[V.out];rfl,X⟩
   |false=>
    have V:Hid (BV fold xs (wss.take (k+1))=-1):=by rw[As J];exact aai B (by rw[aci];exact e)
    go_wp2
    go_roundw
    case rel=>exact⟨k+1,by omega,by go_num,V,X⟩
    case measure=>simp[intOf];omega
  ·obtain rfl:k=Y:=by omega
   have V:Hid (BV fold xs wss=-1):=by
    have h:=B
    rwa[Ap (by rw[y.out];exact AC _)]at h
   go_wp2;go_ret;exact⟨by rw[V.out];rfl,Z⟩
end Go.Proofs.YtaamacoicojhnaaGreat
