/- Proofs over the given program, part 1. -/
import Derived.Test.YtaamacoicojhnaaGreatProg
import Derived.Test.YtaamacoicojhnaaGreatRows
import Derived.BigQuiet
import Derived.BigRegion
import Derived.ChangeKeysEq
import Derived.ChangeOld
import Derived.Deep.AppendLies
import Derived.Deep.CutBlock
import Derived.Deep.DeepCutAuto
import Derived.Deep.DrawnRows
import Derived.Deep.Matrix
import Derived.Deep.MidRow
import Derived.Deep.QuietTactic
import Derived.Deep.RegionHeld3
import Derived.Deep.RegionLaw
import Derived.Deep.RegionWith
import Derived.Deep.WholeRow
import Derived.DeepKeys5
import Derived.IntWalk
import Derived.Laws.BytesArg
import Derived.Laws.CopyRow
import Derived.Laws.MakeOwn
import Derived.Laws.OwnMore
import Derived.Laws.StructEq
import Derived.Laws.Tables
import Derived.Lib.Hide
import Derived.Lib.MinMax
import Derived.Lib.OwnKind
import Derived.Lib.QuietBelow
import Derived.Lib.QuietBelowIn
import Derived.Lib.SlBytesConst
import Derived.Lib.SmallJoins
import Derived.LoopIn
import Derived.LoopNIn
import Derived.MapKept
import Derived.Maps.AppendAt
import Derived.Maps.Own
import Derived.Maps.OwnIn
import Derived.Maps.OwnOps
import Derived.Maps.OwnSet
import Derived.Maps.Views
import Derived.OpenShut
import Derived.OwnWalk
import Derived.OwnWalkIn
import Derived.ProofKit
import Derived.RangeFuncBound
import Derived.RangeFuncBox
import Derived.RangeFuncCalls
import Derived.RangeFuncLeaves
import Derived.RangeFuncNested
import Derived.RangeFuncWrites
import Derived.Shelf.Abstract
import Derived.Shelf.RegionOpen
import Derived.Shelf.SlGeneric
import Derived.Shelf.SlLaysF
import Derived.Shelf.SlSortCmp.NoneTotal
import Derived.Shelf.Small.Strs
import Derived.ShutString
import Derived.StillTail
import Derived.StillTailTactics
import Derived.Stop.Walk2
import Derived.StringKeys
import Derived.TacticsIn
import Derived.TacticsInMore
import Derived.WalkKit
import Derived.WalkLawsBesides
set_option linter.unusedVariables false
set_option linter.unusedSimpArgs false
set_option maxRecDepth 100000
set_option maxHeartbeats 16000000
open Go.Proofs.Tryz
open Go.Proofs.Tryz renaming prog→ZP
open Go.World(cell? frozen?)
open Option renaming some→E,none→O
open Go.Value renaming int→R,slice→T,pointer→L,bool→i6,tuple→ta,agg→i8
open Go.IntKind renaming i64→K
open Bool renaming false→M,true→G
open Go renaming World→Wa,Value→Vk
open Go.Ending renaming returned→ra
open Go.Obj renaming cells→i7
open List renaming length→lc
namespace Go.Proofs.YtaamacoicojhnaaGreat
open Go.RowKit Go.Sort
abbrev La(w v:Wa):=RowKit.Below w.heap.size w v
theorem Lc:type_of% @if_neg:=@if_neg
theorem Lq:type_of% @if_pos:=@if_pos
theorem Kf:type_of% @of_decide_eq_true:=@of_decide_eq_true
theorem Va:type_of% @And.intro:=@And.intro
theorem Vb:type_of% @decide_eq_true:=@decide_eq_true
theorem Vc:type_of% @below_regrown:=@below_regrown
theorem Vd:type_of% @wp_region_held_drew:=@wp_region_held_drew
theorem Ve:type_of% @wp_region_noPanic:=@wp_region_noPanic
theorem Vf:type_of% @cell_regrown:=@cell_regrown
theorem Vg:type_of% @wpAnyH_done:=@wpAnyH_done
theorem Vh:type_of% @info_parts:=@info_parts
theorem Vi:type_of% @bodyPost_ret:=@bodyPost_ret
theorem Vj:type_of% @enters_of:=@enters_of
abbrev Lb:=List (List Int)
theorem CZ:type_of% @Tryz.underlying3:=@Tryz.underlying3
theorem Ej:type_of% @Tryz.underlying30:=@Tryz.underlying30
theorem DO:type_of% @World.block_lt_of_cell?:=@World.block_lt_of_cell?
theorem AP:type_of% @List.getElem?_eq_some_iff:=@List.getElem?_eq_some_iff
theorem FT:type_of% @List.getElem?_take:=@List.getElem?_take
theorem AS:type_of% @Nat.le_trans:=@Nat.le_trans
theorem AD:type_of% @Array.getElem?_eq_some_iff:=@Array.getElem?_eq_some_iff
theorem AK:type_of% @Option.some.inj:=@Option.some.inj
theorem Dw:type_of% @Option.map_some:=@Option.map_some
theorem IN:type_of% @Sem.run_bind:=@Sem.run_bind
theorem IM:type_of% @Sem.run_pure:=@Sem.run_pure
theorem LI:type_of% @List.map_toArray:=@List.map_toArray
theorem BO:type_of% @List.map_cons:=@List.map_cons
theorem DE:type_of% @List.map_nil:=@List.map_nil
theorem BK:type_of% @IntKind.wrap_i64:=@IntKind.wrap_i64
theorem AA:type_of% @Lib.hid:=@Lib.hid
theorem At:type_of% @NoPanic.normal:=@NoPanic.normal
theorem CX:type_of% @Oper.semAt_some:=@Oper.semAt_some
theorem Af:type_of% @Nat.lt_of_lt_of_le:=@Nat.lt_of_lt_of_le
theorem DN:type_of% @World.size_alloc:=@World.size_alloc
theorem By:type_of% @List.getElem?_append_left:=@List.getElem?_append_left
theorem Dy:type_of% @List.getElem?_toArray:=@List.getElem?_toArray
theorem BU:type_of% @List.getElem?_map:=@List.getElem?_map
theorem BG:type_of% @List.length_set:=@List.length_set
theorem Is:type_of% @List.map_set:=@List.map_set
theorem DP:type_of% @Nat.le_of_lt:=@Nat.le_of_lt
theorem AC:type_of% @Nat.le_refl:=@Nat.le_refl
theorem AH:type_of% @Below.refl:=@Below.refl
theorem AT:type_of% @World.alloc_heap_new:=@World.alloc_heap_new
theorem AR:type_of% @Nat.zero_le:=@Nat.zero_le
theorem Bg:type_of% @Below.heap_alloc:=@Below.heap_alloc
theorem MU:type_of% @List.length_take_le:=@List.length_take_le
theorem EG:type_of% @List.mem_of_mem_take:=@List.mem_of_mem_take
theorem OH:type_of% @World.cell?_alloc_lt:=@World.cell?_alloc_lt
theorem In:type_of% @Tryz.underlying22:=@Tryz.underlying22
theorem AQ:type_of% @Below.heap_setCell:=@Below.heap_setCell
theorem Ap:type_of% @List.take_of_length_le:=@List.take_of_length_le
theorem BC:type_of% @World.cell?_of_block:=@World.cell?_of_block
theorem Db:type_of% @Bool.eq_iff_iff:=@Bool.eq_iff_iff
theorem Mb:type_of% @Int.eq_ofNat_of_zero_le:=@Int.eq_ofNat_of_zero_le
theorem Aa:type_of% @Int.toNat_natCast:=@Int.toNat_natCast
theorem Aw:type_of% @AllReadyH.cons:=@AllReadyH.cons
theorem Ci:type_of% @AllReadyH.nil:=@AllReadyH.nil
theorem OO:type_of% @Array.setIfInBounds_comm:=@Array.setIfInBounds_comm
theorem Js:type_of% @Array.getElem?_modify:=@Array.getElem?_modify
theorem DD:type_of% @Nat.zero_add:=@Nat.zero_add
theorem GR:type_of% @Nat.mul_le_mul:=@Nat.mul_le_mul
theorem Iy:type_of% @Int.natCast_mul:=@Int.natCast_mul
theorem CS:type_of% @List.length_replicate:=@List.length_replicate
theorem OJ:type_of% @List.map_congr_left:=@List.map_congr_left
theorem Be:type_of% @List.mem_map:=@List.mem_map
theorem MY:type_of% @List.cons.injEq:=@List.cons.injEq
theorem CR:type_of% @List.mem_cons:=@List.mem_cons
theorem LH:type_of% @List.take_add_one:=@List.take_add_one
theorem Dx:type_of% @List.take_append_drop:=@List.take_append_drop
theorem FI:type_of% @List.foldl_append:=@List.foldl_append
theorem Gq:type_of% @Nat.le_of_eq:=@Nat.le_of_eq
theorem Fm:type_of% @Tryz.underlying69:=@Tryz.underlying69
theorem Iu:type_of% @List.getElem?_cons_zero:=@List.getElem?_cons_zero
theorem IP:type_of% @List.getElem?_cons_succ:=@List.getElem?_cons_succ
theorem It:type_of% @List.getElem?_range:=@List.getElem?_range
theorem Cw:type_of% @List.size_toArray:=@List.size_toArray
theorem Ao:type_of% @List.length_cons:=@List.length_cons
theorem Bw:type_of% @List.length_nil:=@List.length_nil
theorem Dd:type_of% @Array.replicate_succ:=@Array.replicate_succ
theorem Dc:type_of% @Array.replicate_zero:=@Array.replicate_zero
theorem DX:type_of% @List.push_toArray:=@List.push_toArray
theorem Da:type_of% @List.append_toArray:=@List.append_toArray
theorem Av:type_of% @List.nil_append:=@List.nil_append
theorem CT:type_of% @List.cons_append:=@List.cons_append
theorem Jq:type_of% @Int.tmod_eq_emod_of_nonneg:=@Int.tmod_eq_emod_of_nonneg
theorem Ek:type_of% @Nat.mod_lt:=@Nat.mod_lt
theorem Ar:type_of% @List.getElem?_eq_getElem:=@List.getElem?_eq_getElem
theorem DZ:type_of% @List.getD_eq_getElem?_getD:=@List.getD_eq_getElem?_getD
theorem Ag:type_of% @List.length_take:=@List.length_take
theorem Aj:type_of% @List.map_append:=@List.map_append
theorem Ho:type_of% @List.eq_of_mem_replicate:=@List.eq_of_mem_replicate
theorem AX:type_of% @List.mem_of_getElem?:=@List.mem_of_getElem?
theorem Hk:type_of% @Nat.mul_one:=@Nat.mul_one
theorem DB:type_of% @Tryz.underlying32:=@Tryz.underlying32
theorem DQ:type_of% @Nat.add_zero:=@Nat.add_zero
theorem Bf:type_of% @List.mem_append:=@List.mem_append
theorem GS:type_of% @List.getElem?_modify:=@List.getElem?_modify
theorem Ip:type_of% @List.replicate_succ:=@List.replicate_succ
theorem Jm:type_of% @List.set_append_right:=@List.set_append_right
theorem FG:type_of% @Nat.sub_self:=@Nat.sub_self
theorem CE:type_of% @List.append_assoc:=@List.append_assoc
theorem Cx:type_of% @List.append_nil:=@List.append_nil
theorem Bz:type_of% @List.eq_nil_of_length_eq_zero:=@List.eq_nil_of_length_eq_zero
theorem MR:type_of% @World.grownBy_alloc:=@World.grownBy_alloc
theorem apF:type_of% @World.putObj_heap_same:=@World.putObj_heap_same
theorem Cm:type_of% @World.putObj_heap_other:=@World.putObj_heap_other
theorem Ir:type_of% @List.mem_flatMap:=@List.mem_flatMap
theorem Fq:type_of% @List.mem_singleton:=@List.mem_singleton
theorem BP:type_of% @List.length_map:=@List.length_map
theorem CG:type_of% @Option.getD_some:=@Option.getD_some
theorem Jn:type_of% @List.pairwise_cons:=@List.pairwise_cons
theorem El:type_of% @List.range_succ:=@List.range_succ
theorem En:type_of% @List.count_append:=@List.count_append
theorem Md:type_of% @Classical.byContradiction:=@Classical.byContradiction
theorem Fo:type_of% @Option.map_eq_some_iff:=@Option.map_eq_some_iff
theorem OL:type_of% @List.length_eq_zero_iff:=@List.length_eq_zero_iff
theorem BN:type_of% @World.ownsRow_nil:=@World.ownsRow_nil
theorem Bq:type_of% @Bool.and_eq_true:=@Bool.and_eq_true
theorem MZ:type_of% @List.any_eq_true:=@List.any_eq_true
theorem DR:type_of% @List.getElem?_of_mem:=@List.getElem?_of_mem
theorem FJ:type_of% @Bool.true_and:=@Bool.true_and
theorem Fp:type_of% @List.setIfInBounds_toArray:=@List.setIfInBounds_toArray
theorem FU:type_of% @List.getElem?_set_self:=@List.getElem?_set_self
theorem FH:type_of% @List.getElem?_set_ne:=@List.getElem?_set_ne
theorem apG:type_of% @List.length_pos_iff:=@List.length_pos_iff
theorem Gr:type_of% @List.getElem?_set:=@List.getElem?_set
theorem Jp:type_of% @KeepsOthers.setCell:=@KeepsOthers.setCell
theorem Jo:type_of% @List.getElem?_replicate:=@List.getElem?_replicate
theorem MX:type_of% @List.getElem?_concat_length:=@List.getElem?_concat_length
theorem IL:type_of% @Value.slice.injEq:=@Value.slice.injEq
theorem MT:type_of% @List.mem_cons_of_mem:=@List.mem_cons_of_mem
theorem DC:type_of% @Option.some.injEq:=@Option.some.injEq
theorem Em:type_of% @List.dropLast_concat_getLast:=@List.dropLast_concat_getLast
theorem Hm:type_of% @List.getElem?_drop:=@List.getElem?_drop
theorem Iq:type_of% @List.mem_of_mem_drop:=@List.mem_of_mem_drop
theorem Jl:type_of% @Nat.add_sub_cancel:=@Nat.add_sub_cancel
theorem Hl:type_of% @List.take_length:=@List.take_length
theorem Gp:type_of% @Tryz.underlying5:=@Tryz.underlying5
theorem Jk:type_of% @Prod.mk.injEq:=@Prod.mk.injEq
theorem MQ:type_of% @World.ownsMap_made:=@World.ownsMap_made
theorem LC:type_of% @Tryz.underlying4:=@Tryz.underlying4
theorem Hn:type_of% @List.ext_getElem?:=@List.ext_getElem?
theorem ON:type_of% @Int.mul_le_mul_of_nonneg_left:=@Int.mul_le_mul_of_nonneg_left
theorem Jj:type_of% @RowKit.Below.refl:=@RowKit.Below.refl
theorem GT:type_of% @List.getElem?_eq_none:=@List.getElem?_eq_none
theorem Jr:type_of% @Int.add_mul:=@Int.add_mul
theorem LK:type_of% @Int.natCast_add:=@Int.natCast_add
theorem Iw:type_of% @List.count_nil:=@List.count_nil
theorem Iv:type_of% @List.count_pos_iff:=@List.count_pos_iff
theorem Io:type_of% @Option.bind_eq_some_iff:=@Option.bind_eq_some_iff
theorem LG:type_of% @Nat.lt_or_ge:=@Nat.lt_or_ge
theorem MV:type_of% @List.getLast?_eq_some_getLast:=@List.getLast?_eq_some_getLast
theorem EV:type_of% @Option.bind_some:=@Option.bind_some
theorem DY:type_of% @List.getElem?_append_right:=@List.getElem?_append_right
theorem OK:type_of% @List.length_singleton:=@List.length_singleton
theorem LD:type_of% @Tryz.underlying389:=@Tryz.underlying389
theorem LJ:type_of% @List.dropLast_concat:=@List.dropLast_concat
theorem MW:type_of% @List.getElem?_take_of_lt:=@List.getElem?_take_of_lt
theorem OM:type_of% @List.count_singleton:=@List.count_singleton
theorem OI:type_of% @List.perm_iff_count:=@List.perm_iff_count
theorem IO:type_of% @Nat.mul_le_mul_right:=@Nat.mul_le_mul_right
theorem Ji:type_of% @Tryz.underlying9:=@Tryz.underlying9
theorem OG:type_of% @World.cell?_setCell_far:=@World.cell?_setCell_far
theorem Ma:type_of% @Int.mul_nonneg:=@Int.mul_nonneg
theorem LF:type_of% @Tryz.func276:=@Tryz.func276
theorem LE:type_of% @Tryz.ntmps276:=@Tryz.ntmps276
theorem om{P:Prop}(h:P:=by omega):P:=h
theorem kr{P:Prop}(h:P:=by kernel_rfl):P:=h
theorem sm{P:Prop}(h:P:=by simp):P:=h
section
open Go Go.RowKit Go.Sort
/-! ### plain -/
section plain
variable {P:Program}{ops:Array Oper}{md:Region.Mode}{C:Wa->Prop}
def MB(P:Program)(md:Region.Mode)(ops:Array Oper)(C:Wa->Prop)(m:Nat)(LO:Array Bool->Act->Prop):Nat->Array Bool->Act->Prop
 |0,Z,a=>LO Z a
 |f+1,Z,a=>Region.ready md ops Z≠[]/\∀i∈Region.ready md ops Z,i<m/\qOp P ops C i (MB P md ops C m LO f (Z.setIfInBounds i G)) a
theorem ab6{m g:Nat}{LO:Array Bool->Act->Prop}{Q':Exit->Act->Wa->Prop}(X:∀Z a w,C w->LO Z a->wpAny P md ops Q' g Z a w) :∀(f:Nat)(Z:Array Bool)(a:Act)(w:Wa),C w->MB P md ops C m LO f Z a->wpAny P md ops Q' (f+g) Z a w
 |0,Z,a,w,hw,h=>by rw[DD];exact X _ _ _ hw h
 |f+1,Z,a,w,hw,h=>by rw[show f+1+g=(f+g)+1 by omega];exact⟨λh0=>absurd h0 h.1,λi V=>wpOp_of_qOp hw (λN w' Y U=>ab6 X f _ N w' Y U) (h.2 i V).2⟩
theorem aff{m i:Nat}{oi:Oper}{v:Vk}{LO:Array Bool->Act->Prop}(hi:ops[i]?=E oi)(I:∀(j:Nat)(o:Oper) cs b,ops[j]?=E o->o.op≠.select cs b)
  (hs:Region.sinkB md ops m=G) (hc:Region.chainB md ops m=G) (hm:m<ops.size) (a7:i<m)
  (hdone:∀Z a,LO Z a->∀j∈Region.ready md ops Z,m<=j) :
  ∀(f:Nat) (Z:Array Bool) (a:Act),HeadInv md ops m Z->
   (∀j s,ops[j]?=E s->j≠i->Z.getD j G=M->(∀e∈s.after,Region.binds md e=G->e.on≠i)->oi.apart ops s=G)->
   i∈Region.ready md ops Z->YieldsIn P ops C oi v a->
   MB P md ops C m LO f (Z.setIfInBounds i G) (a.put oi.dst v)->MB P md ops C m LO (f+1) Z a:=by
 intro f
 induction f with
 |zero=>
  intro Z a V _ D hy H;have U:=(mem_ready.1 D).1;refine⟨λh=>(by rw[h]at D;cases D),λj hj=>?_⟩;have N:j<m:=by
   rcases LG j m with h|h
   ·exact h
   ·exact absurd hj (tail_waits hs hc hm V _ i rfl a7 U j h)
  refine⟨N,?_⟩
  by_cases Y:j=i
  ·subst Y;exact hy.qOp hi H
  ·have:=hdone _ _ H j (ready_mono hj Y);omega
 |succ f ih=>
  intro Z a V X D hy H;have U:=(mem_ready.1 D).1;refine⟨λh=>(by rw[h]at D;cases D),λj hj=>?_⟩;have N:j<m:=by
   rcases LG j m with h|h
   ·exact h
   ·exact absurd hj (tail_waits hs hc hm V _ i rfl a7 U j h)
  refine⟨N,?_⟩
  by_cases Y:j=i
  ·subst Y;exact hy.qOp hi H
  ·have h1:=(H.2 j (ready_mono hj Y)).2;obtain⟨A,s,a1,a8⟩:=mem_ready.1 hj;have a2:∀e∈s.after,Region.binds md e=G->e.on≠i:=λe he hb ac=>by
    have h1:=a8 e he hb;rw[ac,getD_both U]at h1
    cases h1
   have h2:=qOp_put a1 (X j s a1 Y A a2) (λcs b=>I i oi cs b hi) (λcs b=>I j s cs b a1) hy h1;have J:∀k ok,ops[k]?=E ok->k≠i->(Z.setIfInBounds j G).getD k G=M->
     (∀e∈ok.after,Region.binds md e=G->e.on≠i)->oi.apart ops ok=G:=λk ok hk ab B aa=>by
    refine X k ok hk ab ?_ aa
    by_cases a6:j=k
    ·subst a6;exact A
    ·rw[getD_set_ne G a6]at B;exact B
   refine qOp_mono (λa' h3=>ih (Z.setIfInBounds j G) a' (V.set hj N) J (ready_mono D (Ne.symm Y)) h3.1 ?_) h2;rw[OO _ _ Y];exact h3.2
theorem ae9{m g:Nat}{I:Act->Prop}(X:Region.noSelect ops=G)(H:Region.sinkB md ops m=G)(B:Region.chainB md ops m=G)(D:m<ops.size) :∀(l:List Oper)(k:Nat)(Z:Array Bool)(a:Act),(∀j,j<lc l->l[j]?=ops[k+j]?)->k+lc l=m->HeadInv md ops m Z->
  Region.lexHead md ops g (lc l) k Z=G->wpQuiet P ops C I l a->
  MB P md ops C m (λY A=>Region.seqB md ops g m Y=G/\I A) (lc l) Z a
 |[],k,Z,a,_,hk,_,hB,h=>by
  have:k=m:=by simpa using hk
  subst this;exact⟨by simpa[Region.lexHead]using hB,h⟩
 |o::l,k,Z,a,hl,hk,inv,hB,h=>by
  have h0:ops[k]?=E o:=by simpa using (hl 0 sm).symm
  simp only[Ao,Region.lexHead,Bq]at hB;obtain⟨⟨e,hf⟩,J⟩:=hB;have U:k<m:=by simp only[Ao]at hk;omega
  have V:k∈Region.ready md ops Z:=by simpa using e
  have N:qOp P ops C k (wpQuiet P ops C I l) a:=by unfold qOp;simp only[h0];exact h
  obtain⟨v,s,hK⟩:=yieldsIn_of_qOp h0 N;exact aff h0 (Region.noSelect_spec X) H B D U (λY A hL=>seqB_ready hL.1) (lc l) Z a inv (Region.free_spec h0 hf) V s
   (ae9 X H B D l (k+1) _ _ (λj hj=>by have:=hl (j+1) (by simp;omega);simpa[Nat.add_assoc,Nat.add_comm 1 j]using this) (by simp only[Ao]at hk;omega) (inv.set V U) J hK)
theorem aa3{id:Nat}{Q:Exit->Act->Wa->Prop}{a:Act}{w:Wa}{l:List Oper}(m:Nat)(I:P.follows .mixedOrders=G)(hB:Region.lexTailB .any l.toArray m=G)(hC:C {w with drawn:=w.drawn+1})
  (h:wpQuiet P l.toArray C (λB=>∀w',C w'->wpList P l.toArray Q (l.drop m) B w') (l.take m) a):(Code.region id l.toArray G).wp P Q a w:=by
 simp only[Region.lexTailB,Bq,decide_eq_true_eq]at hB;obtain⟨⟨⟨⟨V,A⟩,hs⟩,hc⟩,U⟩:=hB;have a1:m<lc l:=by simpa using A
 have Y:(l.take m).length=m:=by simp;omega
 have N:(l.drop m).length=l.toArray.size-m:=by simp
 have X:HeadInv .any l.toArray m (Array.replicate l.toArray.size M):=
  ⟨by simp,λj oj _ s=>(by rw[getD_replicate_false]at s;cases s),λt _ ht=>getD_in (by simpa using ht) (getD_replicate_false _ _)⟩
 have H:=ae9 (md:=.any) (g:=l.toArray.size-m) V hs hc A (l.take m) 0 _ a (λj e=>by
  have D:j<m:=by rw[Y]at e;exact e
  simp[D]) (by simpa using Y) X (by rw[Y];exact U) h
 refine wp_region_any I ?_;have:=ab6 (Q':=Q) (g:=l.toArray.size-m) (λZ B w' J hL=>by
  have:=wpAny_of_seq (md:=.any) (Q':=Q) (l.drop m) m Z B w' (λj=>by simp[Hm]) (by rw[N];exact hL.1) (hL.2 w' J)
  rwa[N]at this) _ _ _ _ hC H
 rw[Y,show m+(l.toArray.size-m)=l.toArray.size by omega]at this;exact this
theorem aaQ{id:Nat}{Q:Exit->Act->Wa->Prop}{a:Act}{w:Wa}{l:List Oper}(m:Nat)(Z:P.follows .mixedOrders=G)(hB:Region.lexTailB .any l.toArray m=G)
  (h:wpQuiet P l.toArray (λw'=>∃p:Regrown,w'=grow (redrawn w p.d) p.os) (λY=>∀w',(∃p:Regrown,w'=grow (redrawn w p.d) p.os)->wpList P l.toArray Q (l.drop m) Y w') (l.take m) a):(Code.region id l.toArray G).wp P Q a w:=
 aa3 (C:=λw'=>∃p:Regrown,w'=grow (redrawn w p.d) p.os) m Z hB ⟨⟨w.drawn+1,#[]⟩,by rw[grow_empty];rfl⟩ h
theorem Hw{id:Nat}{Q:Exit->Act->Wa->Prop}{a:Act}{w:Wa}{l:List Oper}(m:Nat)(Z:P.follows .mixedOrders=G)(hB:Region.lexTailB .any l.toArray m=G)
  (h:wpQuiet P l.toArray (λw'=>∃n,w'=w.drewN n) (λY=>∀w',(∃n,w'=w.drewN n)->wpList P l.toArray Q (l.drop m) Y w') (l.take m) a):(Code.region id l.toArray G).wp P Q a w:=
 aa3 (C:=λw'=>∃n,w'=w.drewN n) m Z hB ⟨1,rfl⟩ h
end plain
/-! ### in a fence,in a round -/
section fenced
variable {F:Fence}{n:Nat}{P:Program}{ops:Array Oper}{md:Region.Mode}{C:Wa->Prop}
def Eb(ops:Array Oper):Bool:=ops.all λo=>match o.op with|.defer _=>M|_=>G
theorem ab0(h:Eb ops=G){i:Nat}{o:Oper}(Z:ops[i]?=E o):∀c,o.op≠.defer c:=by intro c Y;have:=Array.all_eq_true'.1 h o (Array.mem_of_getElem? Z);simp[Y]at this
theorem acd{o:Oper}{a:Act}{KB:Act->Prop}{U:Act->Wa->Prop}{Q':Exit->Act->Wa->Prop}{w:Wa}(V:∀c,o.op≠.defer c)(X:C w)(h:∀a w',C w'->KB a->U a w')
  (ha:o.askedIn F P a C) (N:o.quietIn F n P a C KB):o.wpIn F n P a w U Q':=by
 obtain⟨v,h1,h2⟩:=N;have h3:=h1 w X;unfold Oper.quietAtIn at h3;unfold Oper.wpIn;refine⟨ha w X,?_⟩;rw[Oper.semAt_eq _ _ _ V]
 generalize (execOp a.eval o).run P w=r at *
 cases r with
 |ok x w'=>
  cases x<;>simp only[Oper.quietUponIn]at h3<;>simp only[Oper.uponIn]
  case value u=>
   obtain⟨Y,e2⟩:=h3;rw[Y,e2];exact h _ _ X h2
  case skip=>
   obtain⟨Y,e2⟩:=h3;rw[Y,<-e2];exact h _ _ X h2
  case enter f args=>
   obtain⟨Y,I,H⟩:=h3;rw[Y];exact⟨I,H.mono λe w'' ⟨J,Z⟩=>by subst J;exact h _ _ Z h2⟩
 |halt x w'=>simp only[Oper.quietUponIn]at h3
theorem aal{i:Nat}{a:Act}{KB:Act->Prop}{U:Act->Wa->Prop}{Q':Exit->Act->Wa->Prop}{w:Wa}(V:Eb ops=G)(Y:C w)(h:∀a w',C w'->KB a->U a w')
  (Z:qOpIn F n P ops C i KB a):wpOpIn F n P ops Q' i U a w:=by
 unfold qOpIn at Z;unfold wpOpIn
 split
 ·rename_i ho;simp only[ho]at Z;exact h _ _ Y Z
 ·rename_i o ho
  simp only[ho]at Z;obtain⟨ha,Z⟩:=Z
  split
  ·rename_i X;simp only[X,if_true]at Z;exact acd (ab0 V ho) Y h ha Z
  ·rename_i X;simp only[X]at Z;exact⟨ha w Y,h _ _ Y Z⟩
def MA(F:Fence)(n:Nat)(P:Program)(md:Region.Mode)(ops:Array Oper)(C:Wa->Prop)(m:Nat)(LO:Array Bool->Act->Prop):Nat->Array Bool->Act->Prop
 |0,Z,a=>LO Z a
 |f+1,Z,a=>Region.ready md ops Z≠[]/\∀i∈Region.ready md ops Z,i<m/\qOpIn F n P ops C i (MA F n P md ops C m LO f (Z.setIfInBounds i G)) a
theorem aag{m g:Nat}{LO:Array Bool->Act->Prop}{Q':Exit->Act->Wa->Prop}(Y:Eb ops=G)(V:∀Z a w,C w->LO Z a->wpAnyIn F n P md ops Q' g Z a w) :∀(f:Nat)(Z:Array Bool)(a:Act)(w:Wa),C w->MA F n P md ops C m LO f Z a->wpAnyIn F n P md ops Q' (f+g) Z a w
 |0,Z,a,w,hw,h=>by rw[DD];exact V _ _ _ hw h
 |f+1,Z,a,w,hw,h=>by rw[show f+1+g=(f+g)+1 by omega];exact⟨λh0=>absurd h0 h.1,λi U=>aal Y hw (λJ w' X N=>aag Y V f _ J w' X N) (h.2 i U).2⟩
theorem adk{m i:Nat}{oi:Oper}{v:Vk}{LO:Array Bool->Act->Prop}(hi:ops[i]?=E oi)(I:∀(j:Nat)(o:Oper) cs b,ops[j]?=E o->o.op≠.select cs b)
  (hs:Region.sinkB md ops m=G) (hc:Region.chainB md ops m=G) (hm:m<ops.size) (a7:i<m)
  (hdone:∀Z a,LO Z a->∀j∈Region.ready md ops Z,m<=j) :
  ∀(f:Nat) (Z:Array Bool) (a:Act),HeadInv md ops m Z->
   (∀j s,ops[j]?=E s->j≠i->Z.getD j G=M->(∀e∈s.after,Region.binds md e=G->e.on≠i)->oi.apart ops s=G)->
   i∈Region.ready md ops Z->YieldsQuiet F n P ops C oi v a->
   MA F n P md ops C m LO f (Z.setIfInBounds i G) (a.put oi.dst v)->MA F n P md ops C m LO (f+1) Z a:=by
 intro f
 induction f with
 |zero=>
  intro Z a V _ D hy H;have U:=(mem_ready.1 D).1;refine⟨λh=>(by rw[h]at D;cases D),λj hj=>?_⟩;have N:j<m:=by
   rcases LG j m with h|h
   ·exact h
   ·exact absurd hj (tail_waits hs hc hm V _ i rfl a7 U j h)
  refine⟨N,?_⟩
  by_cases Y:j=i
  ·subst Y;exact hy.qOpIn hi H
  ·have:=hdone _ _ H j (ready_mono hj Y);omega
 |succ f ih=>
  intro Z a V X D hy H;have U:=(mem_ready.1 D).1;refine⟨λh=>(by rw[h]at D;cases D),λj hj=>?_⟩;have N:j<m:=by
   rcases LG j m with h|h
   ·exact h
   ·exact absurd hj (tail_waits hs hc hm V _ i rfl a7 U j h)
  refine⟨N,?_⟩
  by_cases Y:j=i
  ·subst Y;exact hy.qOpIn hi H
  ·have h1:=(H.2 j (ready_mono hj Y)).2;obtain⟨A,s,a1,a8⟩:=mem_ready.1 hj;have a2:∀e∈s.after,Region.binds md e=G->e.on≠i:=λe he hb ac=>by
    have h1:=a8 e he hb;rw[ac,getD_both U]at h1
    cases h1
   have h2:=qOpIn_put a1 (X j s a1 Y A a2) (λcs b=>I i oi cs b hi) (λcs b=>I j s cs b a1) hy h1;have J:∀k ok,ops[k]?=E ok->k≠i->(Z.setIfInBounds j G).getD k G=M->
     (∀e∈ok.after,Region.binds md e=G->e.on≠i)->oi.apart ops ok=G:=λk ok hk ab B aa=>by
    refine X k ok hk ab ?_ aa
    by_cases a6:j=k
    ·subst a6;exact A
    ·rw[getD_set_ne G a6]at B;exact B
   refine qOpIn_mono (λa' h3=>ih (Z.setIfInBounds j G) a' (V.set hj N) J (ready_mono D (Ne.symm Y)) h3.1 ?_) h2;rw[OO _ _ Y];exact h3.2
theorem abL{m g:Nat}{I:Act->Prop}(X:Region.noSelect ops=G)(H:Region.sinkB md ops m=G)(B:Region.chainB md ops m=G)(D:m<ops.size) :∀(l:List Oper)(k:Nat)(Z:Array Bool)(a:Act),(∀j,j<lc l->l[j]?=ops[k+j]?)->k+lc l=m->HeadInv md ops m Z->
  Region.lexHead md ops g (lc l) k Z=G->wpQuietIn F n P ops C I l a->
  MA F n P md ops C m (λY A=>Region.seqB md ops g m Y=G/\I A) (lc l) Z a
 |[],k,Z,a,_,hk,_,hB,h=>by
  have:k=m:=by simpa using hk
  subst this;exact⟨by simpa[Region.lexHead]using hB,h⟩
 |o::l,k,Z,a,hl,hk,inv,hB,h=>by
  have h0:ops[k]?=E o:=by simpa using (hl 0 sm).symm
  simp only[Ao,Region.lexHead,Bq]at hB;obtain⟨⟨e,hf⟩,J⟩:=hB;have U:k<m:=by simp only[Ao]at hk;omega
  have V:k∈Region.ready md ops Z:=by simpa using e
  have N:qOpIn F n P ops C k (wpQuietIn F n P ops C I l) a:=by unfold qOpIn;simp only[h0];exact h
  obtain⟨v,s,hK⟩:=yieldsQuiet_of_qOpIn h0 N;exact adk h0 (Region.noSelect_spec X) H B D U (λY A hL=>seqB_ready hL.1) (lc l) Z a inv (Region.free_spec h0 hf) V s
   (abL X H B D l (k+1) _ _ (λj hj=>by have:=hl (j+1) (by simp;omega);simpa[Nat.add_assoc,Nat.add_comm 1 j]using this) (by simp only[Ao]at hk;omega) (inv.set V U) J hK)
theorem ab8{Q':Exit->Act->Wa->Prop}:∀(l:List Oper)(k:Nat)(Z:Array Bool)(a:Act)(w:Wa),(∀j,l[j]?=ops[k+j]?)->
  Region.seqB md ops (lc l) k Z=G->wpListIn F n P ops Q' l a w->wpAnyIn F n P md ops Q' (lc l) Z a w
 |[],_,_,_,_,_,hB,h=>⟨by simpa[Region.seqB]using hB,h⟩
 |o::l,k,Z,a,w,hl,hB,h=>by
  have h0:ops[k]?=E o:=by simpa using (hl 0).symm
  simp only[Ao,Region.seqB,Bq,decide_eq_true_eq]at hB;refine⟨λh1=>(by rw[hB.1]at h1;cases h1),λi X=>?_⟩;rw[hB.1]at X;have Y:i=k:=by simpa using X
  subst Y;have V:wpOpIn F n P ops Q' i (wpListIn F n P ops Q' l) a w:=by unfold wpOpIn;simp only[h0];exact h
  exact wpOpIn_mono (λN w' U=>ab8 l (i+1) _ N w' (λj=>by have:=hl (j+1);simpa[Nat.add_assoc,Nat.add_comm 1 j]using this) hB.2 U) V
theorem aa1{id:Nat}{Q:Exit->Act->Wa->Prop}{a:Act}{w:Wa}{l:List Oper}(m:Nat)(D:P.follows .mixedOrders=G)(hB:Region.lexTailB .any l.toArray m=G)(I:Eb l.toArray=G)(hC:C {w with drawn:=w.drawn+1})
  (h:wpQuietIn F n P l.toArray C (λA=>∀w',C w'->wpListIn F n P l.toArray Q (l.drop m) A w') (l.take m) a):(Code.region id l.toArray G).wpIn F n P Q a w:=by
 simp only[Region.lexTailB,Bq,decide_eq_true_eq]at hB;obtain⟨⟨⟨⟨V,s⟩,hs⟩,hc⟩,U⟩:=hB;have a1:m<lc l:=by simpa using s
 have Y:(l.take m).length=m:=by simp;omega
 have N:(l.drop m).length=l.toArray.size-m:=by simp
 have X:HeadInv .any l.toArray m (Array.replicate l.toArray.size M):=
  ⟨by simp,λj oj _ e=>(by rw[getD_replicate_false]at e;cases e),λt _ ht=>getD_in (by simpa using ht) (getD_replicate_false _ _)⟩
 have H:=abL (md:=.any) (g:=l.toArray.size-m) V hs hc s (l.take m) 0 _ a (λj hj=>by
  have B:j<m:=by rw[Y]at hj;exact hj
  simp[B]) (by simpa using Y) X (by rw[Y];exact U) h
 refine wpIn_region_any D ?_;have:=aag (Q':=Q) (g:=l.toArray.size-m) I (λZ A w' J hL=>by
  have:=ab8 (md:=.any) (Q':=Q) (l.drop m) m Z A w' (λj=>by simp[Hm]) (by rw[N];exact hL.1) (hL.2 w' J)
  rwa[N]at this) _ _ _ _ hC H
 rw[Y,show m+(l.toArray.size-m)=l.toArray.size by omega]at this;exact this
theorem aaa{Q:Act->Prop}{Q':Exit->Act->Wa->Prop}(X:Eb ops=G)(U:∀a w,C w->Q a->Q' .normal a w):∀(Y:Nat)(Z:Array Bool)(a:Act)(w:Wa),C w->
  wpAnyQIn F n P md ops C Q Y Z a->wpAnyIn F n P md ops Q' Y Z a w
 |0,_,_,_,hw,h=>⟨h.1,U _ _ hw h.2⟩
 |Y+1,_,_,_,hw,h=>⟨λh0=>U _ _ hw (h.1 h0),λi N=>aal X hw (λJ w' V=>aaa X U Y _ J w' V) (h.2 i N)⟩
theorem aan{id:Nat}{Q:Exit->Act->Wa->Prop}{a:Act}{w:Wa}{l:List Oper}(X:P.follows .mixedOrders=G)(hB:Region.lexB .any l.toArray=G)(Y:Eb l.toArray=G)(U:C {w with drawn:=w.drawn+1})
  (h:wpQuietIn F n P l.toArray C (λV=>∀w',C w'->Q .normal V w') l a):(Code.region id l.toArray G).wpIn F n P Q a w:=by
 simp only[Region.lexB,Bq]at hB;refine wpIn_region_any X (aaa (Q:=λV=>∀w',C w'->Q .normal V w') Y (λ_ w' Z h=>h w' Z) _ _ _ _ U ?_);have:=wpAnyQIn_lex (F:=F) (n:=n) (C:=C) (md:=.any) hB.1 l 0 (Array.replicate l.toArray.size M) a sm (by simpa using hB.2) h
 simpa using this
theorem aca{id:Nat}{Q:Exit->Act->Wa->Prop}{a:Act}{w:Wa}{l:List Oper}(Y:P.follows .mixedOrders=G)(hB:Region.lexB .any l.toArray=G)(Z:Eb l.toArray=G)
  (h:wpQuietIn F n P l.toArray (λw'=>∃p:Regrown,w'=grow (redrawn w p.d) p.os) (λX=>∀w',(∃p:Regrown,w'=grow (redrawn w p.d) p.os)->Q .normal X w') l a):(Code.region id l.toArray G).wpIn F n P Q a w:=
 aan (C:=λw'=>∃p:Regrown,w'=grow (redrawn w p.d) p.os) Y hB Z ⟨⟨w.drawn+1,#[]⟩,by rw[grow_empty];rfl⟩ h
theorem aay{id:Nat}{Q:Exit->Act->Wa->Prop}{a:Act}{w:Wa}{l:List Oper}(m:Nat)(Y:P.follows .mixedOrders=G)(hB:Region.lexTailB .any l.toArray m=G)(Z:Eb l.toArray=G)
  (h:wpQuietIn F n P l.toArray (λw'=>∃n,w'=w.drewN n) (λX=>∀w',(∃n,w'=w.drewN n)->wpListIn F n P l.toArray Q (l.drop m) X w') (l.take m) a):(Code.region id l.toArray G).wpIn F n P Q a w:=
 aa1 (C:=λw'=>∃n,w'=w.drewN n) m Y hB Z ⟨1,rfl⟩ h
theorem ac4{id:Nat}{Q:Exit->Act->Wa->Prop}{a:Act}{w:Wa}{l:List Oper}(Y:P.follows .mixedOrders=G)(hB:Region.lexB .any l.toArray=G)(Z:Eb l.toArray=G)
  (h:wpQuietIn F n P l.toArray (λw'=>∃n,w'=w.drewN n) (λX=>∀w',(∃n,w'=w.drewN n)->Q .normal X w') l a):(Code.region id l.toArray G).wpIn F n P Q a w:=
 aan (C:=λw'=>∃n,w'=w.drewN n) Y hB Z ⟨1,rfl⟩ h
end fenced
/-! ### the wide fence,in a round or not: the quiet part walked plainly -/
section wide
variable {F:Fence}{n:Nat}{P:Program}{ops:Array Oper}{C:Wa->Prop}
structure Jg(F:Fence)(n:Nat)(P:Program):Prop where
 fn:∀f,F.fn f
 depth:F.depth=none
 calls:∀{f args w R},Calls P f args w R->CallsIn F (n-1) P f args w R
theorem FL(n:Nat)(P:Program):Jg Fence.wide n P:=⟨λ_=>trivial,rfl,λh=>callsIn_wide.2 h⟩
theorem OV(n:Nat)(P:Program)(l:Nat):Jg (Fence.wide.inRound l) n P:=⟨λ_=>trivial,rfl,λh=>(callsIn_wide (n:=n-1)).2 h⟩
theorem KJ(Z:Jg F n P){Q:Act->Prop}:∀(l:List Oper)(a:Act),wpQuiet P ops C Q l a->wpQuietIn F n P ops C Q l a
 |[],_,h=>h
 |o::l,a,h=>by
  refine⟨λ_ _ f _=>Z.fn f,?_⟩;unfold wpQuiet at h
  split
  ·rename_i Y
   rw[Lq Y]at h;obtain⟨v,h1,h2⟩:=h;refine⟨v,λw V=>?_,KJ Z l _ h2⟩;have:=h1 w V;unfold Oper.quietAt at this;unfold Oper.quietAtIn
   generalize (execOp a.eval o).run P w=r at *
   cases r with
   |ok x w'=>
    cases x<;>simp only[Oper.quietUpon]at this<;>simp only[Oper.quietUponIn]
    case value u=>exact this
    case skip=>exact this
    case enter f args=>
     refine⟨this.1,?_,Z.calls this.2⟩;intro X;rw[Z.depth]at X
     cases X
   |halt x w'=>simp only[Oper.quietUpon]at this
  ·rename_i Y
   rw[Lc Y]at h;exact KJ Z l _ h
theorem Le(X:Jg F n P){id:Nat}{Q:Exit->Act->Wa->Prop}{a:Act}{w:Wa}{l:List Oper}(Y:P.follows .mixedOrders=G)(hB:Region.lexB .any l.toArray=G)(Z:Eb l.toArray=G)
  (h:wpQuiet P l.toArray (λw'=>∃p:Regrown,w'=grow (redrawn w p.d) p.os) (λV=>∀w',(∃p:Regrown,w'=grow (redrawn w p.d) p.os)->Q .normal V w') l a):(Code.region id l.toArray G).wpIn F n P Q a w:=
 aca Y hB Z (KJ X _ _ h)
theorem KF(X:Jg F n P){id:Nat}{Q:Exit->Act->Wa->Prop}{a:Act}{w:Wa}{l:List Oper}(Y:P.follows .mixedOrders=G)(hB:Region.lexB .any l.toArray=G)(Z:Eb l.toArray=G)
  (h:wpQuiet P l.toArray (λw'=>∃n,w'=w.drewN n) (λV=>∀w',(∃n,w'=w.drewN n)->Q .normal V w') l a):(Code.region id l.toArray G).wpIn F n P Q a w:=
 ac4 Y hB Z (KJ X _ _ h)
theorem Ld(X:Jg F n P){id:Nat}{Q:Exit->Act->Wa->Prop}{a:Act}{w:Wa}{l:List Oper}(m:Nat)(Y:P.follows .mixedOrders=G)(hB:Region.lexTailB .any l.toArray m=G)(Z:Eb l.toArray=G)
  (h:wpQuiet P l.toArray (λw'=>∃n,w'=w.drewN n) (λV=>∀w',(∃n,w'=w.drewN n)->wpListIn F n P l.toArray Q (l.drop m) V w') (l.take m) a):(Code.region id l.toArray G).wpIn F n P Q a w:=
 aay m Y hB Z (KJ X _ _ h)
end wide
/-! ### contracts,met within a quiet walk -/
section met
variable {P:Program}{f:FuncId}{args:Array Vk}{w:Wa}{v:Vk}
theorem ahv{d:Nat}{os:Array Obj}(h:Calls P f args (grow (redrawn w d) os) λe w'=>e=ra v/\grow (redrawn w d) os=w'):Calls P f args (grow (redrawn w d) os) λe w''=>e=ra v/\∃p:Regrown,w''=grow (redrawn w p.d) p.os:=h.mono λ_ _ ⟨h1,h2⟩=>⟨h1,⟨d,os⟩,h2.symm⟩
theorem Eu{d:Nat}{os:Array Obj}(h:Calls P f args (grow (redrawn w d) os) λe w'=>e=ra v/\Below (grow (redrawn w d) os).heap.size (grow (redrawn w d) os) w'):Calls P f args (grow (redrawn w d) os) λe w''=>e=ra v/\∃p:Regrown,w''=grow (redrawn w p.d) p.os:=Calls.regrown_of h
end met
end
def btw(n lo Z:Int):Bool:=decide (lo<=n)&&decide (n<=Z)
def Ce(wk bl rg Y X Z fr:Int):Bool:=btw wk 1 8&&btw bl 1 256&&btw rg 1 16&&btw Y 1 16&&btw X 1 16&&btw Z 1 256&&btw fr 0 4611686018427387904
theorem Gi{wk bl rg Y X Z fr:Int}:Ce wk bl rg Y X Z fr=G↔(1<=wk/\wk<=8)/\(1<=bl/\bl<=256)/\(1<=rg/\rg<=16)/\(1<=Y/\Y<=16)/\(1<=X/\X<=16)/\(1<=Z/\Z<=256)/\(0<=fr/\fr<=4611686018427387904):=by simp[Ce,btw];omega
theorem mixed:ZP.follows .mixedOrders=G:=by kernel_rfl
theorem JG{k:IntKind}{a b:Int}(h:a=b):Ending.returned (.int k a)=ra (.int k b):=by rw[h]
theorem afX(n lo Z:Int)(w:Wa) :Calls ZP 61 #[R K n,R K lo,R K Z] w λe w'=>e=ra (i6 (btw n lo Z))/\w=w':=by
 by_cases h1:lo<=n
 ·by_cases h2:n<=Z
  all_goals
   go_enter func61,ntmps61;go_wp2;go_ret;exact⟨by simp[btw];try omega,rfl⟩
 ·go_enter func61,ntmps61;go_wp2;go_ret;exact⟨by simp[btw];try omega,rfl⟩
abbrev Ee(wk bl rg Y X Z fr:Int):Array Vk:=#[R K wk,R K bl,R K rg,R K Y,R K X,R K Z,R K fr]
theorem NG(wk bl rg Y X Z fr:Int)(w:Wa) :Calls ZP 26 #[i8 (Ee wk bl rg Y X Z fr)] w λe w'=>e=ra (i6 (Ce wk bl rg Y X Z fr))/\La w w':=by
 go_enter func26,ntmps26
 go_wp2_with (go_at_call 61;refine(afX _ _ _ _).mono ?_;rintro e w' ⟨rfl,rfl⟩)
 all_goals
  go_ret;exact⟨by simp[Ce, *],(AH _ _).alloc (AC _) _⟩
section
open Go Go.RowKit Go.Sort
theorem Ak(k:FuncId):Fence.wide.fn k=True:=rfl
theorem Al:Fence.wide.depth=O:=rfl
def Cc(S:Nat->Prop)(W Z:Wa):Prop:=∀k,S k->Z.heap[k]?=W.heap[k]?
theorem GD{S:Nat->Prop}{A B C:Wa}(h:Cc S A B)(k:Cc S B C):Cc S A C:=λi Z=>(k i Z).trans (h i Z)
theorem JR{S:Nat->Prop}{w:Wa}(Z:∀k,S k->k<w.heap.size)(W:Wa)(l:Nat)(o o':Obj)(Y:w.heap.size<=l)(_:W.heap[l]?=E o)(_:o.isCells=M)(_:o.isWalk=M):Cc S W (W.putObj l o'):=λk hk=>Cm (by have:=Z k hk;omega)
theorem Km{w w':Wa}(h:La w w'):w.grownBy w' O:=⟨h.os,h.tape,h.output,h.size,λk hk _=>h.block k hk⟩
theorem IJ{β:Type}{B:Nat}{J:β->Wa->Prop}(h:AbidesFrom B J){s:β}{w w':Wa}(Z:J s w)(Y:La w w'):J s w':=h s w w' O Z (Km Y) (λr e=>by cases e)
theorem Nj{B:Nat}{w w':Wa}(h:La w w'):KeepsFrom B w w':=⟨h.size,λk o _ hk _=>(h.block k (AD.1 hk).1).trans hk⟩
theorem Ke{S:Nat->Prop}{w w':Wa}(h:La w w')(Z:∀k,S k->k<w.heap.size):Cc S w w':=λk hk=>h.block k (Z k hk)
theorem Hc{P:Program}{f:FuncId}{fn:Func}{c:Code}{args:Array Vk}{w:Wa}{Ra:Ending->Wa->Prop}
  (Z:P.funcs[f]?=E fn) (Y:fn.body=E c)
  (h:c.wp P (bodyPostM Fence.wide 9 P fn Ra) {tmps:=args++Array.replicate (fn.ntmps-args.size) undef,defers:=[]} w):Calls P f args w Ra:=
 (callsIn_wide (n:=9)).1 (callsIn_of_wp_marks Z Y trivial (wpIn_wide.2 h) rfl)
theorem Gg{P:Program}{fn:Func}{Ra:Ending->Wa->Prop}{a:Act}{W:Wa}{D:Nat}{v:Vk}(Y:a.defers=[{target:=.collected D,args:=#[]}])(V:W.heap[D]?=E (.deferred (E [])))
  (Z:(results fn a.tmps).run P (W.putObj D (.deferred O))=.ok v (W.putObj D (.deferred O))) (X:Ra (ra v) (W.putObj D (.deferred O))):bodyPostM Fence.wide 9 P fn Ra .ret a W:=by
 show LeavesInM Fence.wide 9 P fn a.tmps Ra a.defers .returning W;rw[Y];refine⟨by simp,.inl ⟨_,_,rfl,run_takeDeferred V,?_⟩⟩;exact⟨_,Z,X⟩
theorem aon{P:Program}{fn:Func}{Ra:Ending->Wa->Prop}{a:Act}{W:Wa}{D:Nat}{v:Vk}(Y:a.defers=[{target:=.collected D,args:=#[]}])(V:W.heap[D]?=E (.deferred (E [])))
  (Z:(results fn a.tmps).run P (W.putObj D (.deferred O))=.ok v (W.putObj D (.deferred O))) (X:Ra (ra v) (W.putObj D (.deferred O))):bodyPostM Fence.wide 9 P fn Ra .normal a W:=
 Gg Y V Z X
theorem aps{P:Program}{fn:Func}{Ra:Ending->Wa->Prop}{a:Act}{W:Wa}{v:Vk}(Y:a.defers=[])
  (Z:(results fn a.tmps).run P W=.ok v W) (X:Ra (ra v) W):bodyPostM Fence.wide 9 P fn Ra .ret a W:=by
 show LeavesInM Fence.wide 9 P fn a.tmps Ra a.defers .returning W;rw[Y];exact⟨_,Z,X⟩
theorem FZ{Z D:Nat}{w W:Wa}(hB:Below Z w W)(X:Z<=D)(Y:Z<=w.heap.size)(o':Obj):Below Z w (W.putObj D o'):=hB.grown (grownBy_putObj' W D o') (AS Y hB.size) (λk e=>by cases e;exact X)
theorem KI{P:Program}{α:Type}{g:Operand}{H:Array Tmp}{assign body:Code}{Q:Exit->Act->Wa->Prop}{a:Act}{w:Wa}{U:Nat}{lb:Array Vk}
  (hg:a.eval g=.func (.func U) #[] lb) (eg:∀args w,(callFunc U args).run P w=.ok (.enter U args) w)
  {Y:α->Array Vk} {X:Wa->Wa->Prop} {S Sp:List α->Prop} {N:Nat} (V:SeqStopsK Fence.wide 8 P U lb Y X S Sp N w)
  (j:∀{A B C:Wa},X A B->X B C->X A C) (hKb:∀(W:Wa)(l:Nat)(o o':Obj),w.heap.size<=l->W.heap[l]?=E o->o.isCells=M->o.isWalk=M->X W (W.putObj l o')) (s:∀x,(Y x).size=H.size)
  (I:List α->Wa->Prop) (J:Code->List α->Wa->Prop) (hI:OwnFrom w.heap.size I) (hIx:∀c,OwnFrom w.heap.size (J c)) (h0:I [] w) (e:α->Act)
  (hassign:∀(l:Nat) (x:α) (W:Wa) (KB:Act->Wa->Prop),KB (e x) W->
   assign.wpIn (Fence.wide.inRound l) 7 P (Exit.then KB (λ_ _ _=>False)) {tmps:=(H.zip (Y x)).foldl (λt (p,v)=>t.setIfInBounds p v) a.tmps,defers:=[]} W)
  (hbody:∀(l:Nat)(Z:List α)(x:α)(W:Wa),I Z W->lc Z<N->body.wpIn (Fence.wide.inRound l) 7 P (ownPostG w.heap.size X I J (Z++[x]) W) (e x) W)
  (hdone:∀(D:Nat)(xs:List α)(W:Wa),w.heap.size<=D->S xs->I xs W->W.heap[D]?=E (.deferred (E []))->Q .normal {a with defers:={target:=.collected D,args:=#[]}::a.defers} W)
  (hstop:∀(D:Nat)(c:Code)(Z:List α)(W:Wa),w.heap.size<=D->Sp Z->J c Z W->W.heap[D]?=E (.deferred (E []))->c.wp P Q {a with defers:={target:=.collected D,args:=#[]}::a.defers} W) :
  (Code.rangeFunc g H assign body).wp P Q a w:=
 (wpIn_wide (n:=9)).1 (wpIn_rangeFunc_ownG rfl (by decide) hg trivial eg V j hKb (AH _ _) s I J hI hIx h0 e hassign hbody hdone
  (λD c Z W h1 h2 h3 h4=>wpIn_wide.2 (hstop D c Z W h1 h2 h3 h4)))
end
def Sl1{α:Type}(enc:α->Vk)(w:Wa)(a:Option Addr)(len:Nat)(xs:List α):Prop:=
 lc xs=len/\(len=0∨∃b off,a=E ⟨b,off,O⟩/\b<w.heap.size/\∀i x,xs[i]?=E x->w.cell? ⟨b,off+i,O⟩=E (enc x))
theorem Sl1.below{α:Type}{enc:α->Vk}{w w':Wa}{a:Option Addr}{len:Nat}{xs:List α}(h:Sl1 enc w a len xs)(Y:La w w'):Sl1 enc w' a len xs:=by
 obtain⟨h1,h2|⟨b,off,e,Z,V⟩⟩:=h
 ·exact⟨h1,.inl h2⟩
 ·exact⟨h1,.inr ⟨b,off,e,Af Z Y.size,λi x X=>(Y.cell (p:=⟨b,off+i,O⟩) Z).trans (V i x X)⟩⟩
section
variable {α:Type}
theorem pA(l:List α)(i:Nat)(a:α):l.toArray.setIfInBounds i a=(l.set i a).toArray:=by simp
theorem pB(a b:α)(l:List α):(a::l).set 0 b=b::l:=rfl
theorem pC(a b:α)(l:List α)(n:Nat):(a::l).set (n+1) b=a::l.set n b:=rfl
theorem pq:(∀(a:Act) (t:Tmp) (v:Vk),a.put (E t) v={a with tmps:=a.tmps.setIfInBounds t v})/\(∀(a:Act) (v:Vk),a.put O v=a)/\(∀(α:Type) (l:List α) (i:Nat) (a:α),l.toArray.setIfInBounds i a=(l.set i a).toArray)/\(∀(α:Type) (a b:α) (l:List α),(a::l).set 0 b=b::l)/\(∀(α:Type) (a b:α) (l:List α) (n:Nat),(a::l).set (n+1) b=a::l.set n b):=⟨fun _ _ _=>rfl,fun _ _=>rfl,fun _=>pA,fun _=>pB,fun _=>pC⟩
theorem pD(l:List α)(i:Nat):l.toArray[i]?=l[i]?:=by simp
theorem pE(a:α)(l:List α):(a::l)[0]?=E a:=rfl
theorem pF(a:α)(l:List α)(n:Nat):(a::l)[n+1]?=l[n]?:=rfl
end
section
variable {P:Program}{md:Region.Mode}{ops:Array Oper}{Q:Exit->Act->Wa->Prop}{S:Wa->Prop}
theorem tkW(i:Nat){X:Oper}{v:Vk}{Y:Nat}{Z:Array Bool}{a:Act}{w:Wa}
  (U:∀w,S w->(execOp a.eval X).run P w=.ok (.value v) w)
  (h:wpAnyH P md ops Q S Y (Z.setIfInBounds i G) (a.put X.dst v) w)
  (I:ops[i]?=E X:=by(simp only[Dy,Iu,IP];rfl))
  (N:Region.noSelect ops=G:=by as_aux_lemma=>kernel_rfl) (H:Region.free md ops Z i=G:=by as_aux_lemma=>kernel_rfl) (J:(Region.ready md ops Z).contains i=G:=by as_aux_lemma=>kernel_rfl)
  (C:∀c a w,Q (.panic c) (a.put X.dst v) w->Q (.panic c) a w:=by exact λ_ _ _ h=>h) (V:Region.wanted X (yielded ops a.tmps)=G:=by rfl) (D:S w:=by assumption):wpAnyH P md ops Q S (Y+1) Z a w:=
 wpAnyH_take I N H J C (.inl ⟨V,U⟩) D h
theorem tkN(i:Nat){X:Oper}{Y:Nat}{Z:Array Bool}{a:Act}{w:Wa}
  (h:wpAnyH P md ops Q S Y (Z.setIfInBounds i G) (a.put X.dst undef) w)
  (J:ops[i]?=E X:=by(simp only[Dy,Iu,IP];rfl))
  (U:Region.noSelect ops=G:=by as_aux_lemma=>kernel_rfl) (I:Region.free md ops Z i=G:=by as_aux_lemma=>kernel_rfl) (N:(Region.ready md ops Z).contains i=G:=by as_aux_lemma=>kernel_rfl)
  (D:∀c a w,Q (.panic c) (a.put X.dst undef) w->Q (.panic c) a w:=by exact λ_ _ _ h=>h) (V:Region.wanted X (yielded ops a.tmps)=M:=by rfl) (H:S w:=by assumption):wpAnyH P md ops Q S (Y+1) Z a w:=
 wpAnyH_take J U I N D (.inr ⟨V,rfl⟩) H h
theorem tkF(c:Nat){X:Oper}{v:Vk}{Y:Nat}{Z:Array Bool}{a:Act}{w:Wa}
  (U:∀w,S w->(execOp a.eval X).run P w=.ok (.value v) w)
  (h:wpAnyH P md ops Q S Y (Z.setIfInBounds (c-Y) G) (a.put X.dst v) w)
  (I:ops[c-Y]?=E X:=by(simp only[Nat.reduceSub,Dy,Iu,IP];rfl))
  (N:Region.noSelect ops=G:=by as_aux_lemma=>kernel_rfl) (H:Region.free md ops Z (c-Y)=G:=by as_aux_lemma=>kernel_rfl) (J:(Region.ready md ops Z).contains (c-Y)=G:=by as_aux_lemma=>kernel_rfl)
  (C:∀c a w,Q (.panic c) (a.put X.dst v) w->Q (.panic c) a w:=by exact λ_ _ _ h=>h) (V:Region.wanted X (yielded ops a.tmps)=G:=by rfl) (D:S w:=by assumption):wpAnyH P md ops Q S (Y+1) Z a w:=
 wpAnyH_take I N H J C (.inl ⟨V,U⟩) D h
theorem tkA(i:Nat){X:Oper}{v:Vk}{Y:Nat}{Z:Array Bool}{a U:Act}{w:Wa}
  (h:wpAnyH P md ops Q S Y (Z.setIfInBounds i G) U w)
  (D:ops[i]?=E X:=by(simp only[Dy,Iu,IP];rfl))
  (J:∀w,S w->(execOp a.eval X).run P w=.ok (.value v) w:=by(intro V s;first|(go_simp;done)|(go_simp;with_reducible rfl)))
  (ha:a.put X.dst v=U:=by((try simp only[pq]);exact rfl))
  (I:Region.noSelect ops=G:=by as_aux_lemma=>kernel_rfl) (C:Region.free md ops Z i=G:=by as_aux_lemma=>kernel_rfl) (H:(Region.ready md ops Z).contains i=G:=by as_aux_lemma=>kernel_rfl)
  (A:∀c a w,Q (.panic c) (a.put X.dst v) w->Q (.panic c) a w:=by exact λ_ _ _ h=>h) (N:Region.wanted X (yielded ops a.tmps)=G:=by rfl) (B:S w:=by assumption):wpAnyH P md ops Q S (Y+1) Z a w:=
 wpAnyH_take D I C H A (.inl ⟨N,J⟩) B (ha ▸ h)
theorem tkB(i:Nat){I:Wa->Prop}(F:∀V,S V->I V){X:Oper}{v:Vk}{Y:Nat}{Z:Array Bool}{a J:Act}{w:Wa}
  (h:wpAnyH P md ops Q S Y (Z.setIfInBounds i G) J w)
  (B:ops[i]?=E X:=by(simp only[Dy,Iu,IP];rfl))
  (H:∀w,S w->I w->(execOp a.eval X).run P w=.ok (.value v) w:=by(intro V e N;(repeat (obtain⟨_,N⟩:=N));first|(go_simp;done)|(go_simp;with_reducible rfl)))
  (ha:a.put X.dst v=J:=by((try simp only[pq]);exact rfl))
  (D:Region.noSelect ops=G:=by as_aux_lemma=>kernel_rfl) (A:Region.free md ops Z i=G:=by as_aux_lemma=>kernel_rfl) (C:(Region.ready md ops Z).contains i=G:=by as_aux_lemma=>kernel_rfl)
  (j:∀c a w,Q (.panic c) (a.put X.dst v) w->Q (.panic c) a w:=by exact λ_ _ _ h=>h) (U:Region.wanted X (yielded ops a.tmps)=G:=by rfl) (s:S w:=by assumption):wpAnyH P md ops Q S (Y+1) Z a w:=
 wpAnyH_take B D A C j (.inl ⟨U,λw U=>H w U (F w U)⟩) s (ha ▸ h)
theorem rdy(i:Nat){X:Oper}{Y:Nat}{Z:Array Bool}{a:Act}{w:Wa}
  (h:∀V:Act->Wa->Prop,Shut (∀a w,S w->(S w->wpAnyH P md ops Q S Y (Z.setIfInBounds i G) a w)->V a w)->if Region.wanted X (yielded ops a.tmps)=G then Oper.wp P X a w V Q else V (a.put X.dst undef) w)
  (N:ops[i]?=E X:=by(simp only[Dy,Iu,IP];rfl)) (U:Region.ready md ops Z=[i]:=by as_aux_lemma=>kernel_rfl):wpAnyH P md ops Q S (Y+1) Z a w:=
 wpAnyH_ready (rs:=[i]) U (by simp) (Aw N h Ci)
theorem apE(i j:Nat){U V:Oper}{Y:Nat}{Z:Array Bool}{a:Act}{w:Wa}
  (h:∀X:Act->Wa->Prop,Shut (∀a w,S w->(S w->wpAnyH P md ops Q S Y (Z.setIfInBounds i G) a w)->X a w)->if Region.wanted U (yielded ops a.tmps)=G then Oper.wp P U a w X Q else X (a.put U.dst undef) w)
  (g:∀X:Act->Wa->Prop,Shut (∀a w,S w->(S w->wpAnyH P md ops Q S Y (Z.setIfInBounds j G) a w)->X a w)->if Region.wanted V (yielded ops a.tmps)=G then Oper.wp P V a w X Q else X (a.put V.dst undef) w)
  (I:ops[i]?=E U:=by(simp only[Dy,Iu,IP];rfl)) (J:ops[j]?=E V:=by(simp only[Dy,Iu,IP];rfl)) (N:Region.ready md ops Z=[i,j]:=by as_aux_lemma=>kernel_rfl):wpAnyH P md ops Q S (Y+1) Z a w:=
 wpAnyH_ready (rs:=[i,j]) N (by simp) (Aw I h (Aw J g Ci))
end
section
open Go.ChangeShapes Go.WideShapes Go.ChangeAt Go.RowKit Go.Joins
open Go.ChangeMaps (open_string shut_string)
theorem own:ownKnob ZP.godebug=O:=by kernel_rfl
theorem laidOut:laidOutB ZP=G:=by kernel_rfl
theorem ahH:ZP.cellsOf 26=7:=by kernel_rfl
theorem Jd:ZP.cellsOf 3=1:=by kernel_rfl
section
variable {H:Type}{enc:TypeId×Vk->H}{W:Wa}{r:Reach}{base:Nat}{d:DataW H}{p:List MemPlace}{v:Vk}
theorem ari{α:Type}{cs:Array α}(h:cs.size=7):∃c0 c1 c2 c3 c4 c5 Z,cs=#[c0,c1,c2,c3,c4,c5,Z]:=by
 obtain⟨l⟩:=cs
 match l,h with
 |[c0,c1,c2,c3,c4,c5,Z],_=>exact⟨c0,c1,c2,c3,c4,c5,Z,rfl⟩
theorem aqS(hv:Value.okWide ZP W r base 26 v)(h:DataW.Trod enc ZP W 0 (λ_=>G) G 26 v d p) :∃wk bl rg qu ou j fr:Int,v=i8 (Ee wk bl rg qu ou j fr):=by
 obtain⟨cs,rfl,U⟩:=okWide_struct underlying26 hv;obtain⟨c0,c1,c2,c3,c4,c5,c6,rfl⟩:=ari (U.trans ahH);obtain⟨J,hf⟩:=h;obtain⟨xs,n,_,_,_,V,X⟩:=DataW.trod_struct underlying26 hf;have Z:∀i:Nat,i<7->∃m:Int,(#[c0,c1,c2,c3,c4,c5,c6]:Array Vk)[i]?=E (.int .i64 m):=by
  intro i hi;have N:lc xs=7:=V;obtain⟨y,Y⟩:∃y,xs[i]?=E y:=⟨xs[i]'om,by simp⟩
  match i,hi with
  |0,_=>have this:=X 0;simp only[pD,pE,pF,DC,forall_eq',Jd,Y]at this;obtain⟨m,e,_⟩:=DataW.trod_int underlying3 this;simp[Value.cells]at e;exact⟨m,by simp[e]⟩
  |1,_=>have this:=X 1;simp only[pD,pE,pF,DC,forall_eq',Jd,Y]at this;obtain⟨m,e,_⟩:=DataW.trod_int underlying3 this;simp[Value.cells]at e;exact⟨m,by simp[e]⟩
  |2,_=>have this:=X 2;simp only[pD,pE,pF,DC,forall_eq',Jd,Y]at this;obtain⟨m,e,_⟩:=DataW.trod_int underlying3 this;simp[Value.cells]at e;exact⟨m,by simp[e]⟩
  |3,_=>have this:=X 3;simp only[pD,pE,pF,DC,forall_eq',Jd,Y]at this;obtain⟨m,e,_⟩:=DataW.trod_int underlying3 this;simp[Value.cells]at e;exact⟨m,by simp[e]⟩
  |4,_=>have this:=X 4;simp only[pD,pE,pF,DC,forall_eq',Jd,Y]at this;obtain⟨m,e,_⟩:=DataW.trod_int underlying3 this;simp[Value.cells]at e;exact⟨m,by simp[e]⟩
  |5,_=>have this:=X 5;simp only[pD,pE,pF,DC,forall_eq',Jd,Y]at this;obtain⟨m,e,_⟩:=DataW.trod_int underlying3 this;simp[Value.cells]at e;exact⟨m,by simp[e]⟩
  |6,_=>have this:=X 6;simp only[pD,pE,pF,DC,forall_eq',Jd,Y]at this;obtain⟨m,e,_⟩:=DataW.trod_int underlying3 this;simp[Value.cells]at e;exact⟨m,by simp[e]⟩
 obtain⟨m0,s⟩:=Z 0 om;obtain⟨m1,A⟩:=Z 1 om;obtain⟨m2,e2⟩:=Z 2 om;obtain⟨m3,B⟩:=Z 3 om;obtain⟨m4,C⟩:=Z 4 om;obtain⟨m5,D⟩:=Z 5 om;obtain⟨m6,I⟩:=Z 6 om;simp at s A e2 B C D I;exact⟨m0,m1,m2,m3,m4,m5,m6,by rw[s,A,e2,B,C,D,I]⟩
end
end
def BE(x:Int):Int:=if 65<=x/\x<=90 then x+32 else x
def AO(fold:Bool)(xs:List Int):List Int:=if fold then xs.map BE else xs
def CH(fold:Bool)(xs ys:List Int):Bool:=decide (AO fold xs=AO fold ys)
def atL(fold:Bool)(text:List Int)(place:Int)(Z:List Int):Bool:=
 decide ((lc Z:Int)<=place/\place<=(lc text:Int))&&CH fold ((text.drop (place.toNat-(lc Z))).take (lc Z)) Z
def LM(fold:Bool)(text:List Int)(wss:Lb):Option Nat:=wss.findIdx? (λw=>CH fold text w)
def BV(fold:Bool)(text:List Int)(wss:Lb):Int:=match LM fold text wss with|none=>-1|some k=>k
theorem JW{x:Int}(h:0<=x/\x<=255):0<=BE x/\BE x<=255:=by unfold BE;split<;>omega
theorem afT(x:Int):BE (BE x)=BE x:=by unfold BE;by_cases h:65<=x/\x<=90<;>simp[h]<;>omega
theorem Ew(fold:Bool)(xs:List Int):(AO fold xs).length=lc xs:=by cases fold<;>simp[AO]
theorem abq(fold:Bool)(xs:List Int):AO fold (AO fold xs)=AO fold xs:=by
 cases fold
 ·rfl
 ·simp only[AO,if_true,List.map_map];exact OJ λx _=>afT x
theorem MD{fold:Bool}{xs:List Int}(h:∀x∈xs,0<=x/\x<=255):∀x∈AO fold xs,0<=x/\x<=255:=by
 cases fold
 ·exact h
 ·intro x Z;simp only[AO,if_true,Be]at Z;obtain⟨y,Y,rfl⟩:=Z;exact JW (h y Y)
theorem aci(fold:Bool)(xs ys:List Int):CH fold xs ys=CH fold ys xs:=by
 unfold CH
 by_cases h:AO fold xs=AO fold ys
 ·simp[h]
 ·simp[h];exact λe=>h e.symm
theorem aey{fold:Bool}{xs ys:List Int}(h:CH fold xs ys=G):lc xs=lc ys:=by
 have:=Kf h;have h2:=congrArg List.length this
 rwa[Ew,Ew]at h2
theorem amu{fold:Bool}{xs ys:List Int}(h:lc xs≠lc ys):CH fold xs ys=M:=by
 cases e:CH fold xs ys with
 |false=>rfl
 |true=>exact absurd (aey e) h
def KD(fold:Bool)(x y:Int):Bool:=if fold then decide (BE x=BE y) else decide (x=y)
theorem Fg(fold:Bool)(xs:List Int):AO fold xs=xs.map (λx=>if fold then BE x else x):=by cases fold<;>simp[AO]
theorem abl{fold:Bool}:∀{xs ys:List Int},lc xs=lc ys->(CH fold xs ys=G↔∀p∈xs.zip ys,KD fold p.1 p.2=G)
 |[],[],_=>by simp[CH]
 |x::xs,y::ys,h=>by
  have Z:=abl (fold:=fold) (xs:=xs) (ys:=ys) (by simpa using h);unfold CH at Z⊢;rw[Fg,Fg]at Z⊢;simp only[decide_eq_true_eq]at Z⊢;simp only[BO,MY,List.zip_cons_cons,CR,forall_eq_or_imp,Z]
  cases fold<;>simp[KD]
 |[],_::_,h=>by simp at h
 |_::_,[],h=>by simp at h
theorem acn(fold:Bool)(text:List Int):BV fold text []=-1:=rfl
theorem aai{fold:Bool}{text:List Int}{wss:Lb}{y:List Int}(h:BV fold text wss=-1)(Z:CH fold text y=M):BV fold text (wss++[y])=-1:=by
 unfold BV LM at h⊢;rw[List.findIdx?_append]
 cases e:wss.findIdx? (λw=>CH fold text w)with
 |none=>simp[Z]
 |some k=>rw[e]at h;simp at h
theorem acK{fold:Bool}{text:List Int}{wss rest:Lb}{y:List Int}(h:BV fold text wss=-1)(Z:CH fold text y=G):BV fold text (wss++y::rest)=lc wss:=by
 unfold BV LM at h⊢;rw[List.findIdx?_append]
 cases e:wss.findIdx? (λw=>CH fold text w)with
 |none=>simp[Z,List.findIdx?_cons]
 |some k=>rw[e]at h;simp at h
theorem ajV(fold:Bool)(text:List Int)(wss:Lb):-1<=BV fold text wss/\BV fold text wss<lc wss:=by
 unfold BV LM
 cases e:wss.findIdx? (λw=>CH fold text w)with
 |none=>simp;omega
 |some k=>
  have:=(List.findIdx?_eq_some_iff_getElem.1 e).1;simp;omega
theorem As{α:Type}{xs:List α}{k:Nat}{z:α}(h:xs[k]?=E z):xs.take (k+1)=xs.take k++[z]:=by rw[LH,h];rfl
theorem Mu{α:Type}{xs:List α}{k:Nat}{z:α}(h:xs[k]?=E z):xs=xs.take k++z::xs.drop (k+1):=by have hk:=(AP.1 h);obtain⟨Z,rfl⟩:=hk;rw[<-List.drop_eq_getElem_cons Z,Dx]
def Au(wss:Lb):Int:=wss.foldl (λn w=>max n (lc w:Int)) 0
theorem acO(l:Lb)(x:List Int):Au (l++[x])=max (Au l) (lc x:Int):=by simp[Au,FI]
theorem amW:ZP.cellsOf 407=0:=by kernel_rfl
theorem aa9(w:Wa)(b:Nat)(cs:Array Vk)(t:TypeId)(fr:Nat×Nat)(h:w.heap[b]?=E (i7 cs t fr))(Z:ZP.cellsOf t=0) :Sem.run ZP (partAt ⟨b,0,O⟩ 0 0) w=.ok ⟨b,0,O⟩ w:=by simp[partAt,byteOf,noView,viewAt,World.shape?,h,Z,go_sem]
theorem ah0(w:Wa)(t:TypeId)(Z:ZP.cellsOf t=0) :Sem.run ZP (partAt ⟨w.heap.size,0,O⟩ 0 0) (w.alloc (i7 #[] t))=.ok ⟨w.heap.size,0,O⟩ (w.alloc (i7 #[] t)):=aa9 _ _ _ _ _ (AT _ _) Z
theorem aeY{w:Wa}{b:Nat}{cs:Array Vk}{t:TypeId}{fr:Nat×Nat}(h:w.heap[b]?=E (i7 cs t fr))(Z:ZP.cellsOf t=0)(d:Nat)(os:Array Obj) :Sem.run ZP (partAt ⟨b,0,O⟩ 0 0) (grow (redrawn w d) os)=.ok ⟨b,0,O⟩ (grow (redrawn w d) os):=aa9 _ _ _ _ _ (((Vc w d os).block b (AD.1 h).1).trans h) Z
theorem ads(x:Int)(w:Wa)(h0:0<=x)(h1:x<=255) :Calls ZP 230 #[.int .u8 x] w λe w'=>e=ra (.int .u8 (BE x))/\w=w':=by
 by_cases h2:65<=x
 ·by_cases h3:x<=90
  all_goals
   go_enter func230,ntmps230;go_wp2;go_ret;exact⟨JG (by unfold BE;first|rw[Lq om]|rw[Lc om]),rfl⟩
 ·go_enter func230,ntmps230;go_wp2;go_ret;exact⟨JG (by unfold BE;rw[Lc om]),rfl⟩
theorem akw(x:Int)(w:Wa)(h0:0<=x)(h1:x<=255) :Calls ZP 214 #[.int .u8 x] w λe w'=>e=ra (.int .u8 (BE x))/\w=w':=by
 by_cases h2:65<=x
 ·by_cases h3:x<=90
  all_goals
   go_enter func214,ntmps214;go_wp2;go_ret;exact⟨JG (by unfold BE;first|rw[Lq om]|rw[Lc om]),rfl⟩
 ·go_enter func214,ntmps214;go_wp2;go_ret;exact⟨JG (by unfold BE;rw[Lc om]),rfl⟩
theorem adW(x y:Int)(w:Wa) :Calls ZP 299 #[i8 #[],.int .u8 x,.int .u8 y] w λe w'=>e=ra (i6 (decide (x=y)))/\La w w':=by
 by_cases h:x=y
 all_goals
  go_enter func299,ntmps299;go_wp2;go_ret;exact⟨by simp[h],(AH _ _).alloc (AC _) _⟩
theorem ahq(x y:Int)(w:Wa)(U:0<=x)(V:x<=255)(X:0<=y)(Y:y<=255) :Calls ZP 298 #[i8 #[],.int .u8 x,.int .u8 y] w λe w'=>e=ra (i6 (decide (BE x=BE y)))/\La w w':=by
 have H:=JW ⟨U,V⟩;have I:=JW ⟨X,Y⟩;go_enter func298,ntmps298;have J:=aeY (AT w (i7 #[] 407)) amW;go_wp2;refine wp_region_quiet_below mixed kr ?_
 repeat (go_big_quiet_step (first|exact ahv (ads _ _ om om)|exact Eu (adW _ _ _)))
 refine wpQuiet_nil ?_;rintro _ ⟨⟨N,Z⟩,rfl⟩;go_wp2;go_ret;exact⟨rfl,((AH _ _).alloc (AC _) _).trans ((Vc _ N Z).mono sm)⟩
theorem IW(P:Program)(w:Wa)(a:Addr)(f:Fn)(Z us:Array Vk)(m:Mode):(store a (.func f Z us) m).run P w=stored P w a (.func f Z us) m:=run_store P w a _ m rfl
def EP(fold:Bool):FuncId:=if fold then 298 else 299
theorem aoA(fold:Bool)(w:Wa) :Calls ZP 294 #[i6 fold] w λe w'=>e=ra (.func (.func (EP fold)) #[i8 #[]] #[])/\La w w':=by
 cases fold
 all_goals
  go_enter func294,ntmps294;have Z:=ah0 w 407 amW;go_wp2;go_ret;exact⟨by simp[EP],(AH _ _).alloc (AC _) _⟩
section
def NZ(a b c d e f:Int):Int:=min (min (min (min (min a b) c) d) e) f
theorem amz{P:Program}(w:Wa)(Z:Array TypeId)(t:TypeId)(a b c d e f:Int) :(Builtin.min_ Z t #[R K a,R K b,R K c,R K d,R K e,R K f]).run P w=.ok (R K (NZ a b c d e f)) w:=by
 have m:∀x y:Int,(if y<x then y else x)=min x y:=by intro x y;rw[Int.min_def];split<;>split<;>omega
 simp only[<-m,NZ];simp[Builtin.min_,Builtin.min2]
theorem agN{a b c d e f:Int}:1<=NZ a b c d e f↔1<=a/\1<=b/\1<=c/\1<=d/\1<=e/\1<=f:=by unfold NZ;omega
attribute[local go_sem high] amz
theorem afn(wk bl rg X V Y fr:Int)(w:Wa) :Calls ZP 25 #[i8 (Ee wk bl rg X V Y fr)] w λe w'=>e=ra (i6 (Ce wk bl rg X V Y fr))/\La w w':=by
  obtain⟨B,hB⟩:∃B,Ce wk bl rg X V Y fr=B:=⟨_,rfl⟩;have U:Hid (Ce wk bl rg X V Y fr=B):=hB;rw[hB];clear hB;have Z:fr<=4611686018427387904∨¬fr<=4611686018427387904:=Decidable.em _
  rcases Z with Z|Z
  all_goals
    go_enter func25,ntmps25;go_wp2
    all_goals
      go_ret;refine⟨?_,(AH _ _).alloc (AC _) _⟩
      first
        | (show Ending.returned (.bool G)=_
           rw[<-U.out,Gi.2 (by simp only[agN]at *;omega)])
        | (show Ending.returned (.bool M)=_
           have e:Ce wk bl rg X V Y fr=M:=by refine Bool.eq_false_iff.2 λh=>?_;have h1:=Gi.1 h;have h2:=agN.2 ⟨h1.1.1,h1.2.1.1,h1.2.2.1.1,h1.2.2.2.1.1,h1.2.2.2.2.1.1,h1.2.2.2.2.2.1.1⟩;omega
           rw[<-U.out,e])
end
section
attribute[local go_sem] Oper.semAt_some
attribute[local simp] Ak Al
attribute[local go_sem] Ak Al
def Bys(w:Wa)(a:Option Addr)(len:Nat)(xs:List Int):Prop:=Sl1 (Value.int .u8) w a len xs/\∀x∈xs,0<=x/\x<=255
theorem Bys.below{w w':Wa}{a:Option Addr}{len:Nat}{xs:List Int}(h:Bys w a len xs)(Z:La w w'):Bys w' a len xs:=⟨h.1.below Z,h.2⟩
theorem Bys.len{w:Wa}{a:Option Addr}{len:Nat}{xs:List Int}(h:Bys w a len xs):lc xs=len:=h.1.1
theorem Bys.nil(w:Wa)(a:Option Addr):Bys w a 0 []:=⟨⟨rfl,.inl rfl⟩,by simp⟩
abbrev kept(w W:Wa):Prop:=Cc (λk=>k<w.heap.size) w W
theorem Kd{w W:Wa}(h:kept w W){p:Addr}(Z:p.block<w.heap.size):W.cell? p=w.cell? p:=BC (h _ Z)
theorem ahL{w W:Wa}(h:La w W):kept w W:=Ke h λ_ h=>h
theorem akz(a b:Option Addr)(Y V Z X:Nat)(w:Wa) :Calls ZP 295 #[.slice a Y V,.slice b Z X] w λe w'=>e=ra (.func (.func 300) #[] #[.pointer (E ⟨w.heap.size,0,O⟩),.pointer (E ⟨w.heap.size+1,0,O⟩)])/\
   w'=(w.alloc (i7 #[T a Y V] 32)).alloc (i7 #[T b Z X] 32):=by
 go_enter func295,ntmps295;go_wp2;go_ret;exact⟨rfl,rfl⟩
abbrev By2:={p:Int×Int // (0<=p.1/\p.1<=255)/\0<=p.2/\p.2<=255}
def aiG(p:By2):Array Vk:=#[.int .u8 p.1.1,.int .u8 p.1.2]
theorem afv(a b:Option Addr)(Y ca N cb p1 p2:Nat)(xs ys:List Int)(n:Nat)(w:Wa)(hA:Bys w a Y xs)(hB:Bys w b N ys)(hl:Y=N)(ag:Y<=1000000)
  (h1:w.heap[p1]?=E (i7 #[T a Y ca] 32 (0,0))) (h2:w.heap[p2]?=E (i7 #[T b N cb] 32 (0,0))) :
  SeqStopsK Fence.wide n ZP 300 #[L (E ⟨p1,0,O⟩),L (E ⟨p2,0,O⟩)] aiG (Cc (λk=>k<w.heap.size)) (λzs=>zs.map Subtype.val=xs.zip ys) (λZ=>∃k,Z.map Subtype.val=(xs.zip ys).take k) 1000001 w:=by
 intro l J Jx W hW hJ ai hY h0;have s:kept w W:=ahL hW;have a7:p1<w.heap.size:=(AD.1 h1).1;have a6:p2<w.heap.size:=(AD.1 h2).1;have cells:∀v:Wa,kept w v->v.cell? ⟨p1,0,O⟩=E (T a Y ca)/\v.cell? ⟨p2,0,O⟩=E (T b N cb):=by intro v hv;rw[Kd hv a7,Kd hv a6];simp[cell?,h1,h2]
 obtain⟨C,D⟩:=hA.1;obtain⟨X,I⟩:=hB.1;have HX:=AA hA.2;have HY:=AA hB.2;have HL:=AA hl;have a2:=AA C;have ac:=AA X;clear hA hB hl C X;obtain⟨c1,c2⟩:=cells W s;refine callsIn_of_wp func300 rfl trivial ?_ rfl;simp only[ntmps300,Cw,Ao,Bw,Nat.reduceAdd,Nat.reduceSub,Dd,Dc,DX,Da,Av,CT]
 gi_wp2
 clear c1 c2
 gi_loopw[8] (λi wr=>∃(k:Nat)(Z:List By2),k<=Y/\i=R K k/\Z.map Subtype.val=(xs.zip ys).take k/\J Z wr/\kept w wr) (λi _=>Y-(intOf i).toNat)
 case atStart=>exact⟨0,[],AR _,rfl,by simp,h0,s⟩
 case round=>
  obtain⟨k,Z,hk,rfl,U,hj,V⟩:=hrel;have HP:=AA U;clear U
  by_cases A:k<Y
  ·obtain⟨x,hx⟩:∃x,xs[k]?=E x:=⟨xs[k]'(by rw[a2.out];exact A),by simp⟩;obtain⟨y,hy⟩:∃y,ys[k]?=E y:=⟨ys[k]'(by rw[ac.out,<-HL.out];exact A),by simp⟩;obtain⟨ba,oa,rfl,aa,B⟩:=D.resolve_left om;obtain⟨bb,ob,rfl,a8,H⟩:=I.resolve_left (by have:=HL.out;omega);obtain⟨c1,c2⟩:=cells wr V;have cx:wr.cell? ⟨ba,oa+k,O⟩=E (.int .u8 x):=(Kd V (p:=⟨ba,oa+k,O⟩) aa).trans (B k x hx);have cy:wr.cell? ⟨bb,ob+k,O⟩=E (.int .u8 y):=(Kd V (p:=⟨bb,ob+k,O⟩) a8).trans (H k y hy);have a1:=HX.out x (AX hx);have j:=HY.out y (AX hy);have af:lc Z<=k:=by have:=congrArg List.length HP.out;simp at this;omega
   have ae:(k:Int)<N:=by have:=HL.out;omega
   obtain⟨fn,tmps,assign,body,X,ab⟩:=hY Z ⟨(x,y),a1,j⟩ wr hj om;have HS:Hid ((Z++[(⟨(x,y),a1,j⟩:By2)]).map Subtype.val=(xs.zip ys).take (k+1)):=by
    have hz:(xs.zip ys)[k]?=E (x,y):=by rw[List.getElem?_zip_eq_some];exact⟨hx,hy⟩
    rw[As hz,<-HP.out];simp[Hid]
   dsimp only[aiG]at X;clear hx hy B H D I
   gi_wp2
   refine ab.mono ?_;rintro e W4 (⟨rfl,hJ4,hk4⟩|⟨rfl,hJx4⟩)
   ·gi_wp2
    go_roundw
    case rel=>exact⟨k+1,_,by omega,by go_num,HS.out,hJ4,GD V hk4⟩
    case measure=>simp[intOf];omega
   ·gi_wp2
    refine Vi (results_none rfl _ _ _) rfl ?_;exact⟨⟨_,rfl⟩,.inr ⟨_,⟨k+1,HS.out⟩,hJx4⟩⟩
  ·obtain rfl:k=Y:=by omega
   gi_wp2
   go_end0
   refine⟨⟨_,rfl⟩,.inl ⟨Z,?_,hj⟩⟩;show Z.map Subtype.val=xs.zip ys;rw[HP.out,Ap (by simp;have:=a2.out;omega)]
end
section
attribute[local go_sem] Oper.semAt_some
attribute[local simp] Ak Al
attribute[local go_sem] Ak Al
attribute[local go_sem] IW
theorem ahG(fold:Bool)(x y:Int)(w:Wa)(Y:0<=x/\x<=255)(Z:0<=y/\y<=255) :Calls ZP (EP fold) #[i8 #[],.int .u8 x,.int .u8 y] w λe w'=>e=ra (i6 (KD fold x y))/\La w w':=by
 cases fold
 ·exact adW x y w
 ·exact ahq x y w Y.1 Y.2 Z.1 Z.2
theorem aac{fn:Func}{p:Tmp}{tmps:Array Vk}{W:Wa}{B:Nat}{t:TypeId}{b:Bool}(h:fn.results=#[.cell p 4])(Y:tmps.getD p undef=L (E ⟨B,0,O⟩))(hB:Boxed W B t (i6 b)) :(results fn tmps).run ZP W=.ok (i6 b) W:=by
 have Z:tmps[p]?.getD undef=L (E ⟨B,0,O⟩):=by simpa using Y
 have X:=hB.cell;simp[results,h,Z,asAddr,X,go_sem,loadVar]
theorem aeI(fold:Bool)(args:Array Vk)(w:Wa):Sem.run ZP (callFunc (EP fold) args) w=.ok (.enter (EP fold) args) w:=by
 cases fold
 ·exact Vj func299 kr rfl args w
 ·exact Vj func298 kr rfl args w
theorem Li{β:Type}(B n:Nat):OwnFrom B (λ(_:β) W=>n<=W.heap.size):=λs A C row Z Y X=>AS Z Y.size
theorem agE{β:Type}(B:Nat)(p:β->Prop):OwnFrom B (λs (_:Wa)=>p s):=λs A C row Z X Y=>Z
theorem am2(fold:Bool)(a b:Option Addr)(Z N lb U:Nat)(xs ys:List Int)(w:Wa)(hA:Bys w a Z xs)(hB:Bys w b lb ys)(aa:Z<=1000000) :Calls ZP 287 #[i6 fold,T a Z N,T b lb U] w λe w'=>e=ra (i6 (CH fold xs ys))/\La w w':=by
 refine Hc func287 rfl ?_;simp only[ntmps287,Cw,Ao,Bw,Nat.reduceAdd,Nat.reduceSub,Dd,Dc,DX,Da,Av,CT];have a2:=hA;have a1:=hB
 by_cases hl:Z=lb
 ·subst hl
  go_wp2_with fail
  refine(aoA fold _).mono ?_;rintro e Y ⟨rfl,hb⟩;have ai:La w Y:=((AH _ _).alloc (AC _) _).trans (hb.mono sm);have bR:Boxed Y w.heap.size 4 (i6 M):=(hb.block _ sm).trans (Boxed.new w 4 (i6 M));have a8:w.heap.size<Y.heap.size:=bR.lt
  go_wp2_with (go_at_call 295;refine(akz _ _ _ _ _ _ _).mono ?_;rintro e w' ⟨rfl,rfl⟩)
  have bF:Boxed (((Y.alloc (i7 #[.func (.func (EP fold)) #[i8 #[]] #[]] 395)).alloc (i7 #[T a Z N] 32)).alloc (i7 #[T b Z U] 32)) Y.heap.size 395 (.func (.func (EP fold)) #[i8 #[]] #[]):=
   ((Boxed.new Y _ _).alloc _).alloc _
  have bA:(((Y.alloc (i7 #[.func (.func (EP fold)) #[i8 #[]] #[]] 395)).alloc (i7 #[T a Z N] 32)).alloc (i7 #[T b Z U] 32)).heap[Y.heap.size+1]?=E (i7 #[T a Z N] 32 (0,0)):=by
   have:=(Boxed.new (Y.alloc (i7 #[.func (.func (EP fold)) #[i8 #[]] #[]] 395)) 32 (T a Z N)).alloc (i7 #[T b Z U] 32)
   rwa[DN]at this
  have bB:(((Y.alloc (i7 #[.func (.func (EP fold)) #[i8 #[]] #[]] 395)).alloc (i7 #[T a Z N] 32)).alloc (i7 #[T b Z U] 32)).heap[Y.heap.size+1+1]?=E (i7 #[T b Z U] 32 (0,0)):=by
   have:=(Boxed.new ((Y.alloc (i7 #[.func (.func (EP fold)) #[i8 #[]] #[]] 395)).alloc (i7 #[T a Z N] 32)) 32 (T b Z U))
   rwa[DN,DN]at this
  have ak:=((bR.alloc (i7 #[.func (.func (EP fold)) #[i8 #[]] #[]] 395)).alloc (i7 #[T a Z N] 32)).alloc (i7 #[T b Z U] 32);have B:=((ai.alloc (DP a8) (i7 #[.func (.func (EP fold)) #[i8 #[]] #[]] 395)).alloc (by simp;omega) (i7 #[T a Z N] 32)).alloc (by simp;omega) (i7 #[T b Z U] 32);have am:(((Y.alloc (i7 #[.func (.func (EP fold)) #[i8 #[]] #[]] 395)).alloc (i7 #[T a Z N] 32)).alloc (i7 #[T b Z U] 32)).heap.size=Y.heap.size+3:=by simp
  generalize (((Y.alloc (i7 #[.func (.func (EP fold)) #[i8 #[]] #[]] 395)).alloc (i7 #[T a Z N] 32)).alloc (i7 #[T b Z U] 32))=w3 at *
  have aj:=hA.below B;have j:=hB.below B
  apply KI rfl (enters_of func300 kr rfl) (afv a b Z N Z U (Y.heap.size+1) (Y.heap.size+1+1) xs ys 8 w3 aj j rfl aa bA bB) GD (JR λ_ h=>h) (λ_=>rfl)
   (λJ W=>Boxed W Y.heap.size 395 (.func (.func (EP fold)) #[i8 #[]] #[])/\Boxed W w.heap.size 4 (i6 M)/\La w W/\w3.heap.size<=W.heap.size/\∀p∈J.map Subtype.val,KD fold p.1 p.2=G)
   (λc J W=>Boxed W w.heap.size 4 (i6 M)/\La w W/\c=.ret/\∃p∈J.map Subtype.val,KD fold p.1 p.2=M)
  case hI=>exact OwnFrom.and (Own.from (boxed_own _ _ _) _) (OwnFrom.and (Own.from (boxed_own _ _ _) _) (OwnFrom.and (ownFrom_below (AC _) om) (OwnFrom.and (Li _ _) (agE _ _))))
  case hIx=>exact λc=>OwnFrom.and (Own.from (boxed_own _ _ _) _) (OwnFrom.and (ownFrom_below (AC _) om) (agE _ _))
  case h0=>exact⟨bF,ak,B,AC _,by simp⟩
  case hassign=>
   intro l x W KB v;unfold aiG
   gi_wp2
   exact v
  case hbody=>
   rintro l J ⟨⟨x,y⟩,hx,hy⟩ W ⟨hF,I,hB,hs,V⟩ al;have hc:=hF.cell;have ae:=I.cell;have ab:=I.frozen;dsimp only at hx hy⊢;have a6:=AA V;clear V;have he:=aeI fold
   gi_wp2_with fail
   refine(callsIn_wide.2 (ahG fold x y W hx hy)).mono ?_;rintro e W4 ⟨rfl,X⟩;have C:Boxed W4 w.heap.size 4 (i6 M):=(X.block _ I.lt).trans I;have ag:Boxed W4 Y.heap.size 395 (.func (.func (EP fold)) #[i8 #[]] #[]):=(X.block _ hF.lt).trans hF;have aq:=C.cell;have ap:=C.frozen;have a7:w3.heap.size<=W4.heap.size:=AS hs X.size;have s:La w W4:=hB.trans (X.mono hB.size)
   cases e:KD fold x y with
   |true=>
    gi_wp2
    refine⟨Nj X,Ke X (λk hk=>by omega),ag,C,s,a7,?_⟩;rw[Aj];intro p H
    rcases Bf.1 H with H|H
    ·exact a6.out p H
    ·simp at H;rw[H];exact e
   |false=>
    gi_wp2
    have kO:=(Jp W4 ⟨w.heap.size,0,O⟩ (i6 M)).from w3.heap.size;exact⟨(Nj X).trans kO,C.set _,s.setCell (AC _) _,rfl,(x,y),by simp,e⟩
  case hdone=>
   rintro D zs W hD hS ⟨hF,I,hB,hs,V⟩ v;have af:(W.setCell ⟨w.heap.size,0,O⟩ (i6 G)).heap[D]?=E (.deferred (E [])):=(AQ W ⟨w.heap.size,0,O⟩ _ _ (by simp;omega)).trans v;have ae:=I.cell;have ab:=I.frozen;go_wp2;have bT:Boxed ((W.setCell ⟨w.heap.size,0,O⟩ (i6 G)).putObj D (.deferred O)) w.heap.size 4 (i6 G):=(Cm om).trans (I.set _);refine Gg rfl af (aac rfl rfl bT) ⟨?_,FZ (hB.setCell (AC _) _) om (AC _) _⟩;rw[(abl (by rw[a2.len,a1.len])).2 (by rw[<-hS];exact V)]
  case hstop=>
   rintro D c J W hD hS ⟨I,hB,rfl,ac⟩ v;go_wp2;have bT:Boxed (W.putObj D (.deferred O)) w.heap.size 4 (i6 M):=(Cm om).trans I;refine Gg rfl v (aac rfl rfl bT) ⟨?_,FZ hB om (AC _) _⟩;obtain⟨p,H,A⟩:=ac
   cases e:CH fold xs ys with
   |false=>rfl
   |true=>
    exfalso
    have:=(abl (by rw[a2.len,a1.len])).1 e p (by obtain⟨k,hk⟩:=hS;rw[hk]at H;exact EG H);rw[this]at A
    cases A
 ·have hE:CH fold xs ys=M:=amu (by rw[hA.len,hB.len];exact hl);have ao:((Z:Int) != (lb:Int))=G:=by simp;omega
  go_wp2;refine aps rfl (aac rfl rfl (Boxed.new w 4 _)) ⟨by rw[hE],(AH _ _).alloc (AC _) _⟩
end
theorem Cf(b off i:Nat):(⟨b,off,O⟩:Addr).add i=⟨b,off+i,O⟩:=by
 unfold Addr.add
 split<;>simp_all
theorem Sl1.cut{α:Type}{enc:α->Vk}{w:Wa}{a:Option Addr}{n:Nat}{xs:List α}(h:Sl1 enc w a n xs){lo m:Nat}(V:lo+m<=n) :Sl1 enc w (a.map (·.add lo)) m ((xs.drop lo).take m):=by
 obtain⟨h1,h2⟩:=h;refine⟨by simp;omega,?_⟩
 by_cases h0:m=0
 ·exact .inl h0
 ·right
  obtain⟨b,off,rfl,X,Z⟩:=h2.resolve_left om;refine⟨b,off+lo,by simp[Cf],X,λi x Y=>?_⟩;rw[FT]at Y
  split at Y
  ·rw[Hm]at Y;rw[Nat.add_assoc];exact Z _ x Y
  ·cases Y
theorem Sl1.cut0{α:Type}{enc:α->Vk}{w:Wa}{a:Option Addr}{xs:List α}{lo m:Nat}(Z:m=0):Sl1 enc w a m ((xs.drop lo).take m):=⟨by simp;omega,.inl Z⟩
theorem Bys.cut{w:Wa}{a:Option Addr}{n:Nat}{xs:List Int}(h:Bys w a n xs){lo m:Nat}(Y:lo+m<=n):Bys w (a.map (·.add lo)) m ((xs.drop lo).take m):=⟨h.1.cut Y,λx Z=>h.2 x (Iq (EG Z))⟩
theorem Bys.cut0{w:Wa}{a X:Option Addr}{n:Nat}{xs:List Int}(h:Bys w a n xs){lo m:Nat}(Y:m=0):Bys w X m ((xs.drop lo).take m):=⟨Sl1.cut0 Y,λx Z=>h.2 x (Iq (EG Z))⟩
def Wds(w:Wa)(a:Option Addr)(len:Nat)(wss:Lb):Prop:=
 ∃Z:List (Option Addr×Nat×Nat),Sl1 (λv=>T v.1 v.2.1 v.2.2) w a len Z/\lc Z=lc wss/\∀(i:Nat)(v:Option Addr×Nat×Nat)(xs:List Int),Z[i]?=E v->wss[i]?=E xs->Bys w v.1 v.2.1 xs/\v.2.1<=v.2.2
theorem Wds.below{w w':Wa}{a:Option Addr}{len:Nat}{wss:Lb}(h:Wds w a len wss)(X:La w w'):Wds w' a len wss:=by obtain⟨V,h1,h2,h3⟩:=h;exact⟨V,h1.below X,h2,λi v xs Y Z=>⟨(h3 i v xs Y Z).1.below X,(h3 i v xs Y Z).2⟩⟩
theorem Wds.len{w:Wa}{a:Option Addr}{len:Nat}{wss:Lb}(h:Wds w a len wss):lc wss=len:=by obtain⟨Z,h1,h2,h3⟩:=h;rw[<-h2,h1.1]
theorem Wds.at_{w:Wa}{a:Option Addr}{len:Nat}{wss:Lb}(h:Wds w a len wss){k:Nat}(hk:k<len) :∃b off U l c xs,a=E ⟨b,off,O⟩/\b<w.heap.size/\w.cell? ⟨b,off+k,O⟩=E (T U l c)/\wss[k]?=E xs/\Bys w U l xs/\l<=c:=by have J:=h.len;obtain⟨Y,⟨h0,h1⟩,h2,h3⟩:=h;obtain⟨b,off,rfl,Z,N⟩:=h1.resolve_left om;obtain⟨v,V⟩:∃v,Y[k]?=E v:=⟨Y[k]'om,by simp⟩;obtain⟨x,X⟩:∃v,wss[k]?=E v:=⟨wss[k]'om,by simp⟩;exact⟨b,off,v.1,v.2.1,v.2.2,x,rfl,Z,N k v V,X,h3 k v x V X⟩
theorem Ff{wss:Lb}{MH:Nat}(h:∀x∈wss,lc x<=MH){k:Nat}{x:List Int}(Z:wss[k]?=E x):lc x<=MH:=h x (AX Z)
theorem aeb(fold:Bool)(a b:Option Addr)(U v Y cb:Nat)(xs:List Int)(wss:Lb)(w:Wa)(hA:Bys w a U xs)(hB:Wds w b Y wss)(a2:Y<=1000000)(hM:∀x∈wss,lc x<=1000000) :Calls ZP 256 #[i6 fold,T a U v,T b Y cb] w λe w'=>e=ra (R K (BV fold xs wss))/\La w w':=by
 have s:=AA hB.len;go_enter func256,ntmps256;go_wp2
 go_loopw[11] (λi wr=>∃k:Nat,k<=Y/\i=R K k/\Hid (BV fold xs (wss.take k)=-1)/\La w wr) (λi _=>Y-(intOf i).toNat)
 case atStart=>exact⟨0,AR _,rfl,by simp[Hid,acn],AH _ _⟩
 case round=>
  obtain⟨k,hk,rfl,B,Z⟩:=hrel;have C:=hA.below Z;have D:=hB.below Z
  by_cases I:k<Y
  ·obtain⟨bb,off,a',l,c,x,rfl,a6,H,J,A,a1⟩:=D.at_ I;have N:l<=1000000:=by have:=Ff hM J;rw[A.len]at this;exact this
   go_wp2_with fail
   refine(am2 fold a' a l c U v x xs wr A C N).mono ?_;rintro e j ⟨rfl,hb⟩;have X:La w j:=Z.trans (hb.mono Z.size)
   cases e:CH fold x xs with
   |true=>
    have V:Hid (BV fold xs wss=k):=by have h:=acK (rest:=wss.drop (k+1)) B (by rw[aci];exact e);rw[<-Mu J]at h;rw[Hid,h,Ag,s.out];omega
    go_wp2;go_ret;exact⟨by rw[V.out];rfl,X⟩
   |false=>
    have V:Hid (BV fold xs (wss.take (k+1))=-1):=by rw[As J];exact aai B (by rw[aci];exact e)
    go_wp2
    go_roundw
    case rel=>exact⟨k+1,by omega,by go_num,V,X⟩
    case measure=>simp[intOf];omega
  ·obtain rfl:k=Y:=by omega
   have V:Hid (BV fold xs wss=-1):=by
    have h:=B
    rwa[Ap (by rw[s.out];exact AC _)]at h
   go_wp2;go_ret;exact⟨by rw[V.out];rfl,Z⟩
abbrev Ch(w:Wa)(base:Nat)(v:Vk)(n:Nat)(xs:List Int):Prop:=w.ownsRow base 5 1 v n (xs.map (Value.int .u8))
theorem Gs:(ZP.info? 5).map (λi=>(i.zero,i.size,i.bytes))=E (E (.int .u8 0),1,1):=by kernel_rfl
theorem Co{α:Type}{enc:α->Vk}{w:Wa}{base n:Nat}{e:TypeId}{v:Vk}{xs:List α}(h:w.ownsRow base e 1 v n (xs.map enc)):∃a c,v=T a n c/\n<=c/\Sl1 enc w a n xs:=by
 have Z:lc xs=n:=by have:=h.1;simpa using this
 rcases h.2 with⟨rfl,rfl⟩|⟨g,cap,U,rfl,N,V,X,_,_,J⟩
 ·exact⟨O,0,rfl,AC _,Z,.inl rfl⟩
 ·refine⟨_,cap,rfl,X,Z,.inr ⟨g,0,rfl,(AD.1 V).1,λi x Y=>?_⟩⟩;have:=h.cells (g:=g) rfl i (enc x) (by simp[Y])
  rwa[Cf]at this
theorem KL{w:Wa}{base n:Nat}{v:Vk}{xs:List Int}(h:Ch w base v n xs)(Y:∀x∈xs,0<=x/\x<=255):∃a c,v=T a n c/\n<=c/\Bys w a n xs:=by obtain⟨a,c,e,Z,h1⟩:=Co h;exact⟨a,c,e,Z,h1,Y⟩
theorem aa7{w wr Y:Wa}{o:Obj}{base n size:Nat}{e:TypeId}{v:Vk}{xs:List Vk}(hB:La w wr)(Z:wr.ownsRow w.heap.size e size v n xs)(X:(wr.alloc o).grownBy Y v.ownBlock):La w Y:=(hB.alloc hB.size o).grown X (by simp;have:=hB.size;omega) (λk hk=>(Z.lt k hk).1)
theorem Sl1.news{α:Type}{enc:α->Vk}{w:Wa}{ad:Addr}{m:Nat}{ys:List α}(h:Sl1 enc w (E ad) m ys):∀j u,(ys.map enc)[j]?=E u->w.cell? (ad.add j)=E u:=by intro j u Y;rw[BU,Fo]at Y;obtain⟨y,Z,rfl⟩:=Y;obtain⟨h1,h2⟩:=h;have U:=(AP.1 Z).1;obtain⟨b,off,e,X,V⟩:=h2.resolve_left om;obtain rfl:=AK e;rw[Cf];exact V j y Z
theorem aak{P:Program}{α:Type}{enc:α->Vk}(U:∀x,(enc x).oneCell'=G)(w:Wa)(base:Nat)(t ty e:TypeId)(i:TypeInfo)(z:Vk)(bytes:Nat)(I:P.underlying t=E (.slice e))(D:P.info? e=E i)(s:i.zero=E z)
  (X:i.size=1) (C:i.bytes=bytes) (J:z.cells.size=1) (v:Vk) (n:Nat) (xs:List Vk) (Z:w.ownsRow base e 1 v n xs)
  (A:Option Addr) (m c:Nat) (ys:List α) (N:Sl1 enc w A m ys) (B:n+m<=maxLen) (Y:(n+m)*bytes<=140737488355328) (V:base<=w.heap.size) :
  ∃v' w',(Builtin.append_ #[t,t] ty #[v,.slice A m c]).run P w=.ok v' w'/\w'.ownsRow base e 1 v' (n+m) (xs++ys.map enc)/\w.grownBy w' v.ownBlock/\
   (v'.ownBlock=v.ownBlock∨v'.ownBlock=E w.heap.size):=by
 cases A with
 |some ad=>
  obtain⟨v',w',hr,h2,h3,_,h5⟩:=run_append_own_at (P:=P) w base t ty e i z 1 bytes I D s X C J (by decide) v n xs Z ad m c (ys.map enc) (by simp[N.1]) N.news (by intro u hu;obtain⟨y,_,rfl⟩:=Be.1 hu;exact U y) B Y V;exact⟨v',w',hr,h2,h3,h5⟩
 |none=>
  have hm:m=0:=N.2.elim id λ⟨b,off,e,_⟩=>by cases e
  subst hm;have j:ys=[]:=Bz N.1;subst j;refine⟨v,w,?_,by simpa using Z,World.grownBy.refl w _,.inl rfl⟩
  rcases Z.2 with⟨rfl,rfl⟩|⟨g,cap,a1,rfl,_,_,H,_⟩
  ·simp[Builtin.append_,run_underlying I,sizeOf,typeInfo,D,Builtin.lenOf,Builtin.firstCells]
  ·simp[Builtin.append_,run_underlying I,sizeOf,typeInfo,D,Builtin.lenOf,Builtin.firstCells,H,storeCells]
theorem Mf{P:Program}{w:Wa}{V:Array Oper}{rest:List Oper}{o:Oper}{a:Act}{Q:Exit->Act->Wa->Prop}(H:o.guard=O)(s x:Operand)(t:TypeId)
  (ho:o.op=.call {callee:=.builtin .append,args:=#[s,x],argTypes:=#[t,t]}) {α:Type} {enc:α->Vk} (N:∀x,(enc x).oneCell'=G)
  (base:Nat) (e:TypeId) (i:TypeInfo) (z:Vk) (bytes:Nat) (ht:P.underlying t=E (.slice e)) (hi:P.info? e=E i) (B:i.zero=E z) (Y:i.size=1) (D:i.bytes=bytes) (J:z.cells.size=1)
  (v:Vk) (n:Nat) (xs:List Vk) (hs:a.eval s=v) (U:w.ownsRow base e 1 v n xs) (A:Option Addr) (m c:Nat) (ys:List α) (j:a.eval x=T A m c) (I:Sl1 enc w A m ys)
  (C:n+m<=maxLen) (Z:(n+m)*bytes<=140737488355328) (X:base<=w.heap.size)
  (h:∀v' w',w'.ownsRow base e 1 v' (n+m) (xs++ys.map enc)->w.grownBy w' v.ownBlock->(v'.ownBlock=v.ownBlock∨v'.ownBlock=E w.heap.size)->wpList P V Q rest (a.put o.dst v') w'):wpList P V Q (o::rest) a w:=by
 refine wpList_plain H λKB hK=>?_;obtain⟨v',w',hr,h2,h3,h4⟩:=aak (P:=P) N w base t o.type e i z bytes ht hi B Y D J v n xs U A m c ys I C Z X;unfold Oper.wp execOp;simp only[ho,resolve,invoke,builtin,IN,IM,Result.andThen_ok,LI,BO,DE,hs,j,hr];exact hK _ _ (h v' w' h2 h3 h4)
theorem abv(a:Option Addr)(X ca:Nat)(xs:List Int)(w:Wa)(hA:Bys w a X xs)(a1:X<=1000000) :Calls ZP 175 #[T a X ca] w λe w'=>∃v,e=ra v/\Ch w' w.heap.size v X (xs.map BE)/\La w w':=by
  obtain⟨i0,hi,D,H,I⟩:=Vh Gs;have HL:=AA hA.len;go_enter func175,ntmps175;go_wp2
  go_loopw[3,4] (λo i wr=>∃k:Nat,k<=X/\i=R K k/\Ch wr w.heap.size o k ((xs.take k).map BE)/\La w wr) (λ_ i _=>X-(intOf i).toNat)
  case atStart=>exact⟨0,AR _,rfl,BN _ _ _ _,AH _ _⟩
  case round=>
    obtain⟨k,hk,rfl,Z,Y⟩:=hrel
    by_cases B:k<X
    ·
      obtain⟨x,J⟩:∃x,xs[k]?=E x:=⟨xs[k]'(by rw[HL.out];exact B),by simp⟩;have N:=hA.below Y;have a2:=N.2 x (AX J);obtain⟨b,off,rfl,a6,hc⟩:=N.1.2.resolve_left om;have A:=hc k x J;have C:=AA (As J);clear hc J
      go_wp2_with (first
        |(go_at_call 214;refine(akw _ _ om om).mono ?_;rintro e w' ⟨rfl,rfl⟩)
        | (at_builtin
           refine wpList_append_own_at _ rfl _ _ 32 rfl w.heap.size 5 i0 (.int .u8 0) 1 1 underlying32 hi D H I rfl (by decide) _ _ _ rfl (Z.alloc _) ⟨wr.heap.size,0,O⟩ 1 1 [.int .u8 (BE x)] rfl rfl (cell_one_new _ _ _) (by simp[Value.oneCell']) (by unfold maxLen;omega) om (by have:=Y.size;simp;omega) ?_;intro v' w5 V U j a7))
      have s:=aa7 (base:=w.heap.size) Y Z U
      go_roundw
      case rel=>exact⟨k+1,by omega,by go_num,by unfold Ch;rw[C.out,Aj,Aj];exact V,s⟩
      case measure=>simp[intOf];omega
    ·
      obtain rfl:k=X:=by omega
      go_wp2;go_ret;refine⟨_,rfl,?_,Y⟩;have h:=Z;rw[Ap (by rw[HL.out];exact AC _)]at h;exact h
theorem aea(a:Option Addr)(X ca:Nat)(xs:List Int)(w:Wa)(hA:Bys w a X xs)(a1:X<=1000000) :Calls ZP 187 #[T a X ca] w λe w'=>∃v,e=ra v/\Ch w' w.heap.size v X (xs.map BE)/\La w w':=by
  obtain⟨i0,hi,D,H,I⟩:=Vh Gs;have HL:=AA hA.len;go_enter func187,ntmps187;go_wp2
  go_loopw[3,8] (λo i wr=>∃k:Nat,k<=X/\i=R K k/\Ch wr w.heap.size o k ((xs.take k).map BE)/\La w wr) (λ_ i _=>X-(intOf i).toNat)
  case atStart=>exact⟨0,AR _,rfl,BN _ _ _ _,AH _ _⟩
  case round=>
    obtain⟨k,hk,rfl,Z,Y⟩:=hrel
    by_cases B:k<X
    ·
      obtain⟨x,J⟩:∃x,xs[k]?=E x:=⟨xs[k]'(by rw[HL.out];exact B),by simp⟩;have N:=hA.below Y;have a2:=N.2 x (AX J);obtain⟨b,off,rfl,a6,hc⟩:=N.1.2.resolve_left om;have A:=hc k x J;have C:=AA (As J);clear hc J
      go_wp2_with (first
        |(go_at_call 230;refine(ads _ _ om om).mono ?_;rintro e w' ⟨rfl,rfl⟩)
        | (at_builtin
           refine wpList_append_own_at _ rfl _ _ 32 rfl w.heap.size 5 i0 (.int .u8 0) 1 1 underlying32 hi D H I rfl (by decide) _ _ _ rfl (Z.alloc _) ⟨wr.heap.size,0,O⟩ 1 1 [.int .u8 (BE x)] rfl rfl (cell_one_new _ _ _) (by simp[Value.oneCell']) (by unfold maxLen;omega) om (by have:=Y.size;simp;omega) ?_;intro v' w5 V U j a7))
      have s:=aa7 (base:=w.heap.size) Y Z U
      go_roundw
      case rel=>exact⟨k+1,by omega,by go_num,by unfold Ch;rw[C.out,Aj,Aj];exact V,s⟩
      case measure=>simp[intOf];omega
    ·
      obtain rfl:k=X:=by omega
      go_wp2;go_ret;refine⟨_,rfl,?_,Y⟩;have h:=Z;rw[Ap (by rw[HL.out];exact AC _)]at h;exact h
theorem JB(x:Int):(Value.int .u8 x).oneCell'=G:=rfl
theorem ai8(fold:Bool)(a:Option Addr)(X H:Nat)(xs:List Int)(w:Wa)(D:Bys w a X xs)(I:X<=1000000) :Calls ZP 134 #[i6 fold,T a X H] w λe w'=>∃v,e=ra v/\Ch w' w.heap.size v X (AO fold xs)/\La w w':=by
 obtain⟨C,B,J,N,U⟩:=Vh Gs
 cases fold
 ·go_enter func134,ntmps134
  go_wp2_with (at_builtin;refine Mf rfl _ _ 32 rfl JB w.heap.size 5 C (.int .u8 0) 1 underlying32 B J N U rfl _ 0 [] rfl (BN _ _ _ _) a X H xs rfl D.1 (by unfold maxLen;omega) om (AC _) ?_;intro v' j Z Y s)
  go_ret;refine⟨_,rfl,?_,(AH _ _).grown Y (AC _) (λk e=>by cases e)⟩
  simpa[AO,Ch]using Z
 ·go_enter func134,ntmps134
  go_wp2_with fail
  refine(aea a X H xs w D I).mono ?_;rintro e w1 ⟨v,rfl,V,A⟩;go_wp2;go_ret;exact⟨_,rfl,V,A⟩
theorem ags(fold:Bool)(a:Option Addr)(V C:Nat)(xs:List Int)(w:Wa)(B:Bys w a V xs)(H:V<=1000000) :Calls ZP 124 #[i6 fold,T a V C] w λe w'=>∃v,e=ra v/\Ch w' w.heap.size v V (AO fold xs)/\La w w':=by
 obtain⟨A,s,I,J,N⟩:=Vh Gs
 cases fold
 ·have D:=B.below ((AH _ _).alloc (AC _) (i7 #[] 5));have Z:Ch (w.alloc (i7 #[] 5)) w.heap.size (T (E ⟨w.heap.size,0,O⟩) 0 0) 0 []:=World.ownsRow_lit w #[] 0 (AC _) (AR _) rfl;go_enter func124,ntmps124
  go_wp2_with (at_builtin;refine Mf rfl _ _ 32 rfl JB w.heap.size 5 A (.int .u8 0) 1 underlying32 s I J N rfl _ 0 [] rfl Z a V C xs rfl D.1 (by unfold maxLen;omega) om sm ?_;intro v' w5 Y X a1)
  go_ret;refine⟨_,rfl,?_,((AH _ _).alloc (AC _) _).grown X sm (λk e=>by cases e;exact AC _)⟩
  simpa[AO,Ch]using Y
 ·go_enter func124,ntmps124
  go_wp2_with fail
  refine(abv a V C xs w B H).mono ?_;rintro e w1 ⟨v,rfl,U,j⟩;go_wp2;go_ret;exact⟨_,rfl,U,j⟩
theorem adc{xs ys:List Int}(X:∀x∈xs,0<=x/\x<=255)(Y:∀x∈ys,0<=x/\x<=255)(h1:(strOfNums xs).data.toList=(strOfNums ys).data.toList):xs=ys:=by
 simp only[strOfNums_data]at h1;have h2:=congrArg (List.map λb:UInt8=>(b.toNat:Int)) h1;simp only[List.map_map]at h2;have f:∀l:List Int,(∀x∈l,0<=x/\x<=255)->l.map ((λb:UInt8=>(b.toNat:Int)) ∘ λn=>UInt8.ofNat n.toNat)=l:=by
  intro l V
  conv=>rhs;rw[<-List.map_id l]
  refine OJ λx Z=>?_;have:=V x Z;simp;omega
 rwa[f xs X,f ys Y]at h2
theorem Gh{w:Wa}{a:Option Addr}{len:Nat}{xs:List Int}(h:Bys w a len xs)(cap:Nat) :Sem.run ZP (convert 32 9 (T a len cap)) w=.ok (.string (strOfNums xs)) w:=by
 obtain⟨⟨h1,h2⟩,J⟩:=h
 by_cases h0:len=0
 ·subst h0;have Z:xs=[]:=Bz h1;subst Z
  cases a with
  |none=>exact run_convert_bytes_nil w _ _ underlying32 underlying5 0 cap _ underlying9
  |some ad=>
   rw[run_convert_bytes_string w 32 9 _ _ 0 cap underlying32 underlying5 underlying9];have X:(loadCells ad 0).run ZP w=.ok (([]:List Int).map (Value.int .u8)).toArray w:=by simpa using run_loadCells_list (P:=ZP) w ad [] (λj v V=>by simp at V)
   rw[run_bytesToString w ad 0 cap [] X]
   rfl
 ·obtain⟨b,off,rfl,Y,U⟩:=h2.resolve_left h0;refine run_convert_bytes_arg w _ _ underlying32 underlying5 b off len cap xs h1 (λi N=>?_) _ underlying9;rw[U i (xs[i]'om) (Ar _)];simp[List.getD,Ar (show i<lc xs by omega)]
theorem Ms{xs ys:List Int}(Y:∀x∈xs,0<=x/\x<=255)(Z:∀x∈ys,0<=x/\x<=255):((strOfNums xs).toList==(strOfNums ys).toList)=decide (xs=ys):=by
 by_cases h:xs=ys
 ·subst h;simp
 ·have:(strOfNums xs).toList≠(strOfNums ys).toList:=λe=>h (adc Y Z (by rwa[ByteArray.toList_eq,ByteArray.toList_eq]at e));simp[h,this]
theorem ae1(a:Option Addr)(Z N:Nat)(xs:List Int)(w:Wa)(U:Bys w a Z xs)(V:Z<=1000000) :Calls ZP 175 #[T a Z N] w λe w'=>∃X c1,e=ra (T X Z c1)/\Bys w' X Z (xs.map BE)/\La w w':=
 (abv a Z N xs w U V).mono λe w' ⟨v,H,Y,D⟩=>by obtain⟨X,c1,rfl,_,h⟩:=KL Y (λx I=>by obtain⟨y,J,rfl⟩:=Be.1 I;exact JW (U.2 y J));exact⟨X,c1,H,h,D⟩
theorem abK(fold:Bool)(a b:Option Addr)(X ca Y cb:Nat)(xs ys:List Int)(w:Wa)(H:Bys w a X xs)(hB:Bys w b Y ys)(C:X<=1000000)(D:Y<=1000000) :Calls ZP 161 #[i6 fold,T a X ca,T b Y cb] w λe w'=>e=ra (i6 (CH fold xs ys))/\La w w':=by
 cases fold
 ·have c1:=Gh H;have c2:=Gh hB;go_enter func161,ntmps161;go_wp2;go_ret;exact⟨by simp[CH,AO,Ms H.2 hB.2],AH _ _⟩
 ·have J:Bys w.drew a X xs:=H;have v:Bys w.drew b Y ys:=hB;go_enter func161,ntmps161;go_wp2
  go_region_with (first
   |(go_at_call 175;refine(ae1 a X ca xs w.drew J C).mono ?_;rintro e w1 ⟨a1,c1,rfl,I,Z⟩;have a8:=Gh I;have s:=v.below Z;clear J)
   |(go_at_call 175;refine(ae1 b Y cb ys w1 s D).mono ?_;rintro e w2 ⟨a2,c2,rfl,j,N⟩;have a7:=Gh (I.below N);have a6:=Gh j))
  all_goals
   go_wp2;go_ret;have U:∀x∈xs.map BE,0<=x/\x<=255:=λx U=>by obtain⟨y,V,rfl⟩:=Be.1 U;exact JW (H.2 y V)
   have V:∀x∈ys.map BE,0<=x/\x<=255:=λx U=>by obtain⟨y,V,rfl⟩:=Be.1 U;exact JW (hB.2 y V)
   have A:La w w.drew:=⟨rfl,rfl,rfl,AC _,λ_ _=>rfl⟩;have B:La w w2:=A.trans (Z.trans (N.mono Z.size));refine⟨?_,B⟩;show Ending.returned (i6 ((strOfNums (xs.map BE)).toList==(strOfNums (ys.map BE)).toList))=_;rw[Ms U V]
   rfl
theorem ao1(fold:Bool)(a b:Option Addr)(U D Z H:Nat)(place:Int)(xs ys:List Int)(w:Wa)(I:Bys w a U xs)(hB:Bys w b Z ys)(A:U<=D)(B:U<=1000000)(N:Z<=1000000)(v:-9223372036854775808<=place/\place<=9223372036854775807) :Calls ZP 105 #[i6 fold,T a U D,R K place,T b Z H] w λe w'=>e=ra (i6 (atL fold xs place ys))/\La w w':=by
 have X:=I.len;have Y:=hB.len
 by_cases h1:(Z:Int)<=place
 ·by_cases h2:place<=(U:Int)
  ·obtain⟨p,rfl⟩:∃p:Nat,place=p:=⟨place.toNat,by omega⟩;have V:Hid (atL fold xs p ys=CH fold ((xs.drop (p-Z)).take (p-(p-Z))) ys):=by
    unfold Hid atL;rw[X,Y,Vb ⟨h1,h2⟩,FJ,Aa,show p-(p-Z)=Z by omega]
   clear X Y;go_enter func105,ntmps105
   go_wp2_with fail
   ·refine(abK fold _ b _ _ Z H _ ys w (I.cut0 (lo:=p-Z) (m:=p-(p-Z)) om) hB om N).mono ?_;rintro e C ⟨rfl,J⟩;go_wp2;go_ret;exact⟨by rw[V.out];rfl,J⟩
   ·refine(abK fold _ b _ _ Z H _ ys w (I.cut (lo:=p-Z) (m:=p-(p-Z)) om) hB om N).mono ?_;rintro e C ⟨rfl,J⟩;go_wp2;go_ret;exact⟨by rw[V.out];rfl,J⟩
  ·have V:Hid (atL fold xs place ys=M):=by
    unfold Hid atL;rw[X,Y,decide_eq_false om,Bool.false_and]
   clear X Y;go_enter func105,ntmps105;go_wp2;go_ret;exact⟨by rw[V.out];rfl,AH _ _⟩
 ·have V:Hid (atL fold xs place ys=M):=by
   unfold Hid atL;rw[X,Y,decide_eq_false om,Bool.false_and]
  clear X Y;go_enter func105,ntmps105;go_wp2;go_ret;exact⟨by rw[V.out];rfl,AH _ _⟩
theorem ahF(fold:Bool)(a b:Option Addr)(U s Y cb:Nat)(xs:List Int)(wss:Lb)(w:Wa)(hA:Bys w a U xs)(H:U<=1000000)(hB:Wds w b Y wss)(a2:Y<=1000000)(hM:∀x∈wss,lc x<=1000000) :Calls ZP 123 #[i6 fold,T a U s,T b Y cb] w λe w'=>e=ra (R K (BV fold xs wss))/\La w w':=by
 have j:=AA hB.len;go_enter func123,ntmps123;go_wp2
 go_loopw[7] (λi wr=>∃k:Nat,k<=Y/\i=R K k/\Hid (BV fold xs (wss.take k)=-1)/\La w wr) (λi _=>Y-(intOf i).toNat)
 case atStart=>exact⟨0,AR _,rfl,by simp[Hid,acn],AH _ _⟩
 case round=>
  obtain⟨k,hk,rfl,A,Z⟩:=hrel;have B:=hA.below Z;have C:=hB.below Z
  by_cases I:k<Y
  ·obtain⟨bb,off,a',l,c,x,rfl,a6,D,J,v,a1⟩:=C.at_ I;have N:l<=1000000:=by have:=Ff hM J;rw[v.len]at this;exact this
   go_wp2_with fail
   refine(abK fold a a' U s l c xs x wr B v H N).mono ?_;rintro e w1 ⟨rfl,hb⟩;have X:La w w1:=Z.trans (hb.mono Z.size)
   cases e:CH fold xs x with
   |true=>
    have V:Hid (BV fold xs wss=k):=by have h:=acK (rest:=wss.drop (k+1)) A e;rw[<-Mu J]at h;rw[Hid,h,Ag,j.out];omega
    go_wp2;go_ret;exact⟨by rw[V.out];rfl,X⟩
   |false=>
    have V:Hid (BV fold xs (wss.take (k+1))=-1):=by rw[As J];exact aai A e
    go_wp2
    go_roundw
    case rel=>exact⟨k+1,by omega,by go_num,V,X⟩
    case measure=>simp[intOf];omega
  ·obtain rfl:k=Y:=by omega
   have V:Hid (BV fold xs wss=-1):=by
    have h:=A
    rwa[Ap (by rw[j.out];exact AC _)]at h
   go_wp2;go_ret;exact⟨by rw[V.out];rfl,Z⟩
def Dt:List Int->List (Bool×Int)
 |[]=>[]
 |c::cs=>(G,c)::cs.map (λc=>(M,c))
def Ad(fold:Bool)(wss:Lb):List (Bool×Int):=wss.flatMap λw=>Dt (AO fold w)
theorem Ks(ys:List Int):(Dt ys).length=lc ys:=by cases ys<;>simp[Dt]
theorem aja{ys:List Int}{i:Nat}{c:Int}(h:ys[i]?=E c):(Dt ys)[i]?=E (((i:Int)==0),c):=by
 cases ys with
 |nil=>simp at h
 |cons y ys=>
  cases i with
  |zero=>simp at h;simp[Dt,h]
  |succ i=>
   simp at h;simp[Dt,h];omega
theorem abQ(fold:Bool)(wss:Lb)(x:List Int):Ad fold (wss++[x])=Ad fold wss++Dt (AO fold x):=by simp[Ad]
theorem aeM(fold:Bool)(wss:Lb){k:Nat}{x:List Int}(h:wss[k]?=E x):(Ad fold (wss.take k)).length+lc x<=(Ad fold wss).length:=by
 have e:=Mu h;have e2:Ad fold wss=Ad fold (wss.take k)++(Dt (AO fold x)++Ad fold (wss.drop (k+1))):=by
  conv=>lhs;rw[e]
  simp[Ad]
 rw[e2];simp[Ks,Ew]
theorem amF{fold:Bool}{xs:List Int}{i:Nat}{c:Int}(h:xs[i]?=E c):(AO fold xs)[i]?=E (if fold then BE c else c):=by rw[Fg,BU,h];rfl
structure NSt where
 f:Int×Int->Option Int
 many:Int
 node:Int
def IA(s:NSt)(p:Bool×Int):NSt:=
 let node:=if p.1 then 0 else s.node
 match s.f (node,p.2)with
 |some m=>{s with node:=m}
 |none=>{f:=λq=>if q=(node,p.2) then E s.many else s.f q,many:=s.many+1,node:=s.many}
def Ae(l:List (Bool×Int)):NSt:=l.foldl IA ⟨λ_=>O,1,0⟩
theorem NV(l:List (Bool×Int))(p:Bool×Int):Ae (l++[p])=IA (Ae l) p:=by simp[Ae,FI]
theorem aas{s:NSt}{p:Bool×Int}{m:Int}(h:s.f (if p.1 then 0 else s.node,p.2)=E m):IA s p={s with node:=m}:=by unfold IA;simp only[h]
theorem abu{s:NSt}{p:Bool×Int}(h:s.f (if p.1 then 0 else s.node,p.2)=O):IA s p={f:=λq=>if q=(if p.1 then 0 else s.node,p.2) then E s.many else s.f q,many:=s.many+1,node:=s.many}:=by unfold IA;simp only[h]
theorem anV(l:List (Bool×Int)):1<=(Ae l).many/\(Ae l).many<=lc l+1/\0<=(Ae l).node/\(Ae l).node<=lc l/\∀q m,(Ae l).f q=E m->0<=m/\m<=lc l:=by
 obtain⟨n,V⟩:∃n,lc l=n:=⟨_,rfl⟩
 induction n generalizing l with
 |zero=>
  obtain rfl:=Bz V;simp[Ae]
 |succ n ih=>
  obtain⟨Y,x,rfl⟩:∃Y x,l=Y++[x]:=⟨l.dropLast,l.getLast (by intro h;simp[h]at V),(Em _).symm⟩;obtain⟨h1,h2,h3,h4,h5⟩:=ih Y (by simpa using V);rw[NV];unfold IA;simp only[List.length_append,Ao,Bw]
  cases e:(Ae Y).f (if x.1=G then 0 else(Ae Y).node,x.2)with
  |some m=>
   have:=h5 _ _ e;refine⟨h1,by dsimp only;omega,this.1,by dsimp only;omega,λq k Z=>?_⟩;have:=h5 q k Z;omega
  |none=>
   refine⟨by dsimp only;omega,by dsimp only;omega,by dsimp only;omega,by dsimp only;omega,λq k Z=>?_⟩;dsimp only at Z
   by_cases X:q=(if x.1=G then 0 else(Ae Y).node,x.2)
   ·rw[Lq X]at Z;have:=AK Z;omega
   ·rw[Lc X]at Z;have:=h5 q k Z;omega
def Kq(c:Int×Int×Int×Int)(x:List Int):Int×Int×Int×Int:=
 (c.1+1,c.2.1+lc x,max c.2.2.1 (lc x),if c.1=0∨(lc x:Int)<c.2.2.2 then(lc x:Int) else c.2.2.2)
def cnt(wss:Lb):Int×Int×Int×Int:=wss.foldl Kq (0,0,0,0)
theorem ad5(l:Lb)(x:List Int):cnt (l++[x])=Kq (cnt l) x:=by simp[cnt,FI]
theorem aoM{MH:Nat}(l:Lb)(h:∀x∈l,lc x<=MH):(cnt l).1=lc l/\0<=(cnt l).2.1/\(cnt l).2.1<=lc l*(MH:Int):=by
 obtain⟨n,Y⟩:∃n,lc l=n:=⟨_,rfl⟩
 induction n generalizing l with
 |zero=>
  obtain rfl:=Bz Y;simp[cnt]
 |succ n ih=>
  obtain⟨Z,x,rfl⟩:∃Z x,l=Z++[x]:=⟨l.dropLast,l.getLast (by intro h;simp[h]at Y),(Em _).symm⟩;obtain⟨h1,h2,h3⟩:=ih Z (λy X=>h y (by simp[X])) (by simpa using Y);have V:=h x sm;rw[ad5];have e:((Z++[x]).length:Int)*(MH:Int)=lc Z*(MH:Int)+MH:=by rw[List.length_append,Ao,Bw,LK,Jr];simp
  rw[e];simp only[Kq];refine⟨by rw[h1];simp,by omega,by omega⟩
def Ku(W Y Z Sh N:Int):Nat->Bool
 |0=>decide (W=0)
 |1=>decide (W > 64)
 |2=>decide (Sh=0)
 |3=>decide (Z > 32)
 |4=>decide (Y > 600)
 |_=>decide (N > 400)
def JX(f:Nat->Bool):Int:=match (List.range 6).find? f with|some k=>50+k|none=>0
theorem ae6{f:Nat->Bool}{k:Nat}(hk:k<6)(h:∀j,j<k->f j=M)(Z:f k=G):JX f=50+k:=by
 have:(List.range 6).find? f=E k:=by
  have:k=0∨k=1∨k=2∨k=3∨k=4∨k=5:=by omega
  rcases this with rfl|rfl|rfl|rfl|rfl|rfl<;>simp[List.range,List.range.loop,List.find?,Z,h]
 simp[JX,this]
theorem acT{f:Nat->Bool}(h:∀j,j<6->f j=M):JX f=0:=by simp[JX,List.range,List.range.loop,List.find?,h]
def Ey(fold:Bool)(wss:Lb):Int:=JX (Ku (cnt wss).1 (cnt wss).2.1 (cnt wss).2.2.1 (cnt wss).2.2.2 (Ae (Ad fold wss)).many)
section
attribute[local go_sem] Oper.semAt_some
attribute[local simp] Ak Al
attribute[local go_sem] Ak Al
theorem ac6(fold:Bool)(a:Option Addr)(Z Y:Nat)(w:Wa) :Calls ZP 293 #[.bool fold,.slice a Z Y] w λe w'=>e=ra (.func (.func 297) #[] #[.pointer (E ⟨w.heap.size+1,0,O⟩),.pointer (E ⟨w.heap.size,0,O⟩)])/\
   w'=(w.alloc (i7 #[i6 fold] 4)).alloc (i7 #[T a Z Y] 22):=by
 go_enter func293,ntmps293;go_wp2;go_ret;exact⟨rfl,rfl⟩
abbrev BgP:={p:Bool×Int // 0<=p.2/\p.2<=255}
def Nt(p:BgP):Array Vk:=#[i6 p.1.1,.int .u8 p.1.2]
theorem aiE(fold:Bool)(a:Option Addr)(H ca p1 p2:Nat)(wss:Lb)(n:Nat)(w0 w:Wa)(S:Nat->Prop)(hA:Wds w0 a H wss)(aj:La w0 w)(hS:∀k,k<w0.heap.size->S k)(ai:S p1)(ag:S p2)(af:∀k,S k->k<w.heap.size)
  (ao:H<=1000000) (hM:∀x∈wss,lc x<=1000000)
  (h1:w.heap[p1]?=E (i7 #[T a H ca] 22 (0,0))) (h2:w.heap[p2]?=E (i7 #[i6 fold] 4 (0,0))) :
  SeqStopsK Fence.wide n ZP 297 #[L (E ⟨p1,0,O⟩),L (E ⟨p2,0,O⟩)] Nt (Cc S) (λzs=>zs.map Subtype.val=Ad fold wss) (λ_=>True) ((Ad fold wss).length+1) w:=by
 intro l J Jx W hW hJ ar hY h0;have a6:Cc S w W:=Ke hW af;have cells:∀v:Wa,Cc S w v->v.cell? ⟨p1,0,O⟩=E (T a H ca)/\v.cell? ⟨p2,0,O⟩=E (i6 fold):=by intro v hv;have e1:v.heap[p1]?=_:=(hv p1 ai).trans h1;have e2:v.heap[p2]?=_:=(hv p2 ag).trans h2;simp[cell?,e1,e2]
 have a7:∀v:Wa,Cc S w v->kept w0 v:=λv hv k hk=>(hv k (hS k hk)).trans (aj.block k hk);have HL:=AA hA.len;have ak:=AA hA;clear hA;obtain⟨c1,c2⟩:=cells W a6;refine callsIn_of_wp func297 rfl trivial ?_ rfl;simp only[ntmps297,Cw,Ao,Bw,Nat.reduceAdd,Nat.reduceSub,Dd,Dc,DX,Da,Av,CT]
 gi_wp2
 clear c1 c2
 gi_loopw[10] (λi wr=>∃(k:Nat)(Z:List BgP),k<=H/\i=R K k/\Hid (Z.map Subtype.val=Ad fold (wss.take k))/\J Z wr/\Cc S w wr) (λi _=>H-(intOf i).toNat)
 case atStart=>exact⟨0,[],AR _,rfl,by simp[Hid,Ad],h0,a6⟩
 case round=>
  obtain⟨k,Z,hk,rfl,D,B,I⟩:=hrel;obtain⟨c1,c2⟩:=cells wr I
  by_cases ab:k<H
  ·obtain⟨bb,off,a',l',c,x,rfl,ae,Y,hx,hX,am⟩:=ak.out.at_ ab;have s:wr.cell? ⟨bb,off+k,O⟩=E (T a' l' c):=(Kd (a7 wr I) (p:=⟨bb,off+k,O⟩) ae).trans Y;have al:l'<=1000000:=by have:=Ff hM hx;rw[hX.len]at this;exact this
   have HX:=AA hx;have N:=AA hX;clear Y hx hX
   gi_wp2
   gi_loopw[16] (λi wi=>∃(j:Nat)(Z:List BgP),j<=l'/\i=R K j/\Hid (Z.map Subtype.val=Ad fold (wss.take k)++(Dt (AO fold x)).take j)/\J Z wi/\Cc S w wi) (λi _=>l'-(intOf i).toNat)
   case atStart=>exact⟨0,Z,AR _,rfl,by simpa[Hid]using D,B,I⟩
   case round=>
    clear D B I c1 c2 s;obtain⟨j,Z,ap,rfl,D,B,U⟩:=hrel;obtain⟨c1,c2⟩:=cells wr U
    by_cases a8:j<l'
    ·obtain⟨y,hy⟩:∃y,x[j]?=E y:=⟨x[j]'(by rw[N.out.len];exact a8),by simp⟩;obtain⟨by_,oy,rfl,ac,a2⟩:=N.out.1.2.resolve_left om;have X:=N.out.2 y (AX hy);have aa:=JW X;have aq:wr.cell? ⟨by_,oy+j,O⟩=E (.int .u8 y):=(Kd (a7 wr U) (p:=⟨by_,oy+j,O⟩) ac).trans (a2 j y hy);have V:lc Z<(Ad fold wss).length+1:=by
      have h1:=congrArg List.length D.out;have h2:=aeM fold wss HX.out;simp[Ks,Ew]at h1;have:=N.out.len;omega
     have HB:=AA (aja (amF (fold:=fold) hy));clear hy a2
     cases fold
     ·obtain⟨fn,tmps,assign,body,C,a1⟩:=hY Z ⟨(((j:Int)==0),y),X⟩ wr B V;have HS:Hid ((Z++[(⟨(((j:Int)==0),y),X⟩:BgP)]).map Subtype.val=Ad M (wss.take k)++(Dt (AO M x)).take (j+1)):=by
       rw[As HB.out,<-CE,<-D.out];simp[Hid]
      dsimp only[Nt]at C
      gi_wp2
      refine a1.mono ?_;rintro e W4 (⟨rfl,hJ4,hk4⟩|⟨rfl,hJx4⟩)
      ·gi_wp2
       go_roundw
       case rel=>exact⟨j+1,_,by omega,by go_num,HS,hJ4,GD U hk4⟩
       case measure=>simp[intOf];omega
      ·gi_wp2
       refine Vi (results_none rfl _ _ _) rfl ?_;exact⟨⟨_,rfl⟩,.inr ⟨_,trivial,hJx4⟩⟩
     ·obtain⟨fn,tmps,assign,body,C,a1⟩:=hY Z ⟨(((j:Int)==0),BE y),aa⟩ wr B V;have HS:Hid ((Z++[(⟨(((j:Int)==0),BE y),aa⟩:BgP)]).map Subtype.val=Ad G (wss.take k)++(Dt (AO G x)).take (j+1)):=by
       rw[As HB.out,<-CE,<-D.out];simp[Hid]
      dsimp only[Nt]at C
      gi_wp2_with fail
      refine(callsIn_wide.2 (ads y wr X.1 X.2)).mono ?_;rintro e W3 ⟨rfl,rfl⟩
      gi_wp2
      refine a1.mono ?_;rintro e W4 (⟨rfl,hJ4,hk4⟩|⟨rfl,hJx4⟩)
      ·gi_wp2
       go_roundw
       case rel=>exact⟨j+1,_,by omega,by go_num,HS,hJ4,GD U hk4⟩
       case measure=>simp[intOf];omega
      ·gi_wp2
       refine Vi (results_none rfl _ _ _) rfl ?_;exact⟨⟨_,rfl⟩,.inr ⟨_,trivial,hJx4⟩⟩
    ·obtain rfl:j=l':=by omega
     gi_wp2
     go_roundw
     case rel=>
      refine⟨k+1,Z,by omega,by go_num,?_,B,U⟩;have A:(Dt (AO fold x)).take j=Dt (AO fold x):=Ap (by rw[Ks,Ew,N.out.len];exact AC _);rw[Hid,D.out,As HX.out,abQ,A]
     case measure=>simp[intOf];omega
  ·obtain rfl:k=H:=by omega
   gi_wp2
   go_end0
   refine⟨⟨_,rfl⟩,.inl ⟨Z,?_,B⟩⟩;show Z.map Subtype.val=Ad fold wss;rw[D.out,Ap (by have:=HL.out;omega)]
end
section
open Go.RowKit Go.Sort Go.Maps
attribute[local go_sem] Oper.semAt_some
attribute[local simp] Ak Al
attribute[local go_sem] Ak Al
theorem akO:laidOutB ZP=G:=by kernel_rfl
theorem Ih:Keyed ZP 394:=Keyed.of_law (deep_law_laid akO (m:=ZP.types.size+1) (Kf kr) (Kf kr) kr kr)
theorem Me(w:Wa):(zeroValue 3).run ZP w=.ok (R K 0) w:=by kernel_rfl
theorem apg(n c:Int)(J:-9223372036854775808<=n/\n<=9223372036854775807)(I:0<=c/\c<=255):∃X,keyOf ZP 394 (i8 #[R K n,.int .u8 c])=E X:=by
 have hk:ZP.keyType 394=G:=by kernel_rfl
 have h0:0<ZP.types.size:=Kf kr;obtain⟨m,V⟩:∃m,ZP.types.size+1=m+1+1:=⟨ZP.types.size-1,by omega⟩;have N:ZP.cellsOf 394=2:=by kernel_rfl
 have e2:ZP.cellsOf 3=1:=by kernel_rfl
 have U:ZP.cellsOf 5=1:=by kernel_rfl
 have Y:(Lit.int .i64 n).wf=G:=by simp[Lit.wf,IntKind.min,IntKind.max,IntKind.signed,IntKind.bits];omega
 have Z:(Lit.int .u8 c).wf=G:=by simp[Lit.wf,IntKind.min,IntKind.max,IntKind.signed,IntKind.bits];omega
 unfold keyOf;rw[underlying394,V];refine⟨.string (keyBytes [.int .i64 n,.int .u8 c]),?_⟩;simp[hk,Value.formed,Value.cells,Program.keyLits,underlying394,underlying3,underlying5,N,e2,U,Y,Z]
def KM(D:DataW Unit)(f:Int×Int->Option Int):Prop:=IsMap D/\∀n c Z,0<=n->n<=2000000->0<=c->c<=255->keyOf ZP 394 (i8 #[R K n,.int .u8 c])=E Z->
 Maps.has D Z=(f (n,c)).isSome/\∀m,f (n,c)=E m->D.atKey Z (.lit (.int .i64 0))=.lit (.int .i64 m)
theorem KM.start:KM (.map []) (λ_=>O):=⟨isMap_empty,λn c Z _ _ _ _ _=>⟨rfl,λm h=>by cases h⟩⟩
theorem KM.put{D:DataW Unit}{f:Int×Int->Option Int}(h:KM D f){n c m:Int}{U:Lit}(hk:keyOf ZP 394 (i8 #[.int .i64 n,.int .u8 c])=E U) :KM (D.put U (.lit (.int .i64 m))) (λq=>if q=(n,c) then E m else f q):=by
 have X:=Ih.key hk;refine⟨h.1.put _ _,λJ I Y H a2 a3 a4 Z=>?_⟩
 by_cases e:Y=U
 ·subst e;have:=Ih.inj Z hk;simp only[Value.agg.injEq,Array.mk.injEq,MY,Value.int.injEq,true_and,and_true]at this;obtain⟨rfl,rfl⟩:=this;refine⟨by rw[has_put_same h.1 X];simp,λk V=>?_⟩;simp only[if_true]at V;obtain rfl:=AK V;rw[atKey_put_same h.1 X]
 ·have N:¬((J,I)=(n,c)):=by
   intro e2;simp only[Jk]at e2;obtain⟨rfl,rfl⟩:=e2;rw[hk]at Z;exact e (AK Z).symm
  simp only[Lc N];obtain⟨h1,h2⟩:=h.2 J I Y H a2 a3 a4 Z;refine⟨by rw[has_put_other e,h1],λk V=>?_⟩;rw[atKey_put_other e,h2 k V]
theorem JQ{W:Wa}{b n g:Nat}{D:DataW Unit}{P:Program}{k:TypeId}{Ra:Vk->Option (DataW Unit×List MemPlace)}(h:W.ownsMap P k Ra b n D)(Z:b≠g)(u:Vk):(W.setCell ⟨g,0,O⟩ u).ownsMap P k Ra b n D:=h.kept (grownBy_setCell' W g u) (λe=>Z (by injection e))
theorem anW{B b:Nat}{P:Program}{k:TypeId}{Ra:Vk->Option (DataW Unit×List MemPlace)}(V:b<B){β:Type}(f:β->Nat)(p:β->DataW Unit->Prop):OwnFrom B (λs W=>∃D,W.ownsMap P k Ra b (f s) D/\p s D):=λs A C row ⟨D,h,Y⟩ X Z=>⟨D,h.kept X (λe=>by have:=(Z _ e.symm).1;omega),Y⟩
theorem Lr{W:Wa}{k:Nat}(h:W.heap.size=k)(t:TypeId)(v:Vk):Boxed (W.alloc (i7 #[v] t)) k t v:=h ▸ Boxed.new W t v
theorem JU(W:Wa)(g:Nat)(u:Vk):W.grownBy (W.setCell ⟨g,0,O⟩ u) (E g):=grownBy_setCell' W g u
structure Tn(n:Nat)(W W':World):Prop where
 os:W'.os=W.os
 tape:W'.tape=W.tape
 output:W'.output=W.output
 size:W.heap.size<=W'.heap.size
 block:∀k,k<W.heap.size->k<n∨n+1+1+1<k∨k=n+1->W'.heap[k]?=W.heap[k]?
theorem Tn.refl(n:Nat)(W:Wa):Tn n W W:=⟨rfl,rfl,rfl,AC _,λ_ _ _=>rfl⟩
theorem Tn.grown{n:Nat}{A B C:Wa}{row:Option Nat}(h:Tn n A B)(Z:B.grownBy C row)(Y:∀k,row=E k->k=n∨k=n+1+1∨k=n+1+1+1):Tn n A C:=⟨Z.os.trans h.os,Z.tape.trans h.tape,Z.output.trans h.output,AS h.size Z.size,λk hk ho=>(Z.block k (Af hk h.size) (λe=>by have:=Y k e.symm;omega)).trans (h.block k hk ho)⟩
theorem Tn.below{n:Nat}{w A B:Wa}(h:Tn n A B)(Z:Below n w A)(Y:n<=A.heap.size):Below n w B:=⟨h.os.trans Z.os,h.tape.trans Z.tape,h.output.trans Z.output,AS Z.size h.size,λk hk=>(h.block k (Af hk Y) (.inl hk)).trans (Z.block k hk)⟩
theorem Tn.keeps{n B:Nat}{A C:Wa}(h:Tn n A C)(hB:n+1+1+1<B):KeepsFrom B A C:=⟨h.size,λk o hk ho _=>(h.block k (AD.1 ho).1 (.inr (.inl om))).trans ho⟩
theorem aks(fold:Bool)(a:Option Addr)(la ca:Nat)(wss:Lb)(w:Wa)(hA:Wds w a la wss)(aq:la<=1000000)(hM:∀x∈wss,lc x<=1000000)(hT:(Ad fold wss).length<=1000000) :Calls ZP 286 #[i6 fold,T a la ca] w λe w'=>e=ra (R K (Ae (Ad fold wss)).many)/\La w w':=by
  have ay:=@run_makeMap ZP;refine Hc func286 rfl ?_;simp only[ntmps286,Cw,Ao,Bw,Nat.reduceAdd,Nat.reduceSub,Dd,Dc,DX,Da,Av,CT]
  go_wp2_with (go_at_call 293;refine(ac6 _ _ _ _ _).mono ?_;rintro e w' ⟨rfl,rfl⟩)
  obtain⟨W3,J⟩:∃W3,W3=((((((w.alloc (.map #[] 0)).alloc (i7 #[.map (E w.heap.size)] 389)).alloc (i7 #[R K 1] 3)).alloc (i7 #[R K 0] 3)).alloc (i7 #[i6 fold] 4)).alloc (i7 #[T a la ca] 22)):=⟨_,rfl⟩;rw[<-J];have m0:W3.ownsMap ZP 394 (plainElem ZP 3) w.heap.size 0 (.map []:DataW Unit):=by rw[J];exact(((((MQ w ZP 394 (plainElem ZP 3)).alloc _).alloc _).alloc _).alloc _).alloc _
  have b1:Boxed W3 (w.heap.size+1) 389 (.map (E w.heap.size)):=by rw[J];exact((((Lr sm _ _).alloc _).alloc _).alloc _).alloc _
  have b2:Boxed W3 (w.heap.size+1+1) 3 (R K 1):=by rw[J];exact(((Lr sm _ _).alloc _).alloc _).alloc _
  have b3:Boxed W3 (w.heap.size+1+1+1) 3 (R K 0):=by rw[J];exact((Lr sm _ _).alloc _).alloc _
  have b4:Boxed W3 (w.heap.size+1+1+1+1) 4 (i6 fold):=by rw[J];exact(Lr sm _ _).alloc _
  have b5:Boxed W3 (w.heap.size+1+1+1+1+1) 22 (T a la ca):=by rw[J];exact Lr sm _ _
  have ao:La w W3:=by rw[J];exact((((((AH _ _).alloc (AC _) _).alloc sm _).alloc (by simp;omega) _).alloc (by simp;omega) _).alloc (by simp;omega) _).alloc (by simp;omega) _
  have ax:W3.heap.size=w.heap.size+1+1+1+1+1+1:=by rw[J];simp
  clear J
  apply KI rfl (enters_of func297 kr rfl) (aiE fold a la ca (w.heap.size+1+1+1+1+1) (w.heap.size+1+1+1+1) wss 8 w W3 (λk=>k<w.heap.size∨k=w.heap.size+1+1+1+1+1∨k=w.heap.size+1+1+1+1) hA ao (λk hk=>.inl hk) (.inr (.inl rfl)) (.inr (.inr rfl)) (by intro k hk;omega) aq hM b5 b4)
    GD (JR (by intro k hk;omega)) (λ_=>rfl)
    (λZ W=>Boxed W (w.heap.size+1) 389 (.map (E w.heap.size))/\Boxed W (w.heap.size+1+1) 3 (.int .i64 (Ae (Z.map Subtype.val)).many)/\Boxed W (w.heap.size+1+1+1) 3 (.int .i64 (Ae (Z.map Subtype.val)).node)/\
      (∃D:DataW Unit,W.ownsMap ZP 394 (plainElem ZP 3) w.heap.size (lc Z) D/\KM D (Ae (Z.map Subtype.val)).f)/\La w W/\W3.heap.size<=W.heap.size)
    (λ_ _ _=>False)
  case hI=>exact OwnFrom.and (Own.from (boxed_own _ _ _) _) (OwnFrom.and (Own.from (boxed_own _ _ _) _) (OwnFrom.and (Own.from (boxed_own _ _ _) _) (OwnFrom.and (anW om _ (λ(Z:List BgP) D=>KM D (Ae (Z.map Subtype.val)).f)) (OwnFrom.and (ownFrom_below (AC _) om) (Li _ _)))))
  case hIx=>exact λ_ _ _ _ _ hs _ _=>hs
  case h0=>exact⟨b1,b2,b3,⟨_,m0,KM.start⟩,ao,AC _⟩
  case hassign=>
    intro l x W KB hK;unfold Nt
    gi_wp2
    exact hK
  case hbody=>
    rintro l Z ⟨⟨first,c⟩,I,j⟩ W ⟨ab,H,a1,⟨D,ag,a2⟩,hB,hs⟩ aw;dsimp only at I j⊢;obtain⟨g1,g2,g3,g4,_⟩:=anV (Z.map Subtype.val);rw[BP]at g2 g4;have ak:(Lit.int .i64 (Ae (Z.map Subtype.val)).many).wf=G:=by simp[Lit.wf,IntKind.min,IntKind.max,IntKind.signed,IntKind.bits];omega
    cases first with
      |true=>
        have X:(W.setCell ⟨w.heap.size+1+1+1,0,O⟩ (R K 0)).ownsMap ZP 394 (plainElem ZP 3) w.heap.size (lc Z) D:=JQ ag om _;have aa:Boxed (W.setCell ⟨w.heap.size+1+1+1,0,O⟩ (R K 0)) (w.heap.size+1) 389 (.map (E w.heap.size)):=ab.other om _;have a8:Boxed (W.setCell ⟨w.heap.size+1+1+1,0,O⟩ (R K 0)) (w.heap.size+1+1) 3 (R K (Ae (Z.map Subtype.val)).many):=H.other om _;have a7:Boxed (W.setCell ⟨w.heap.size+1+1+1,0,O⟩ (R K 0)) (w.heap.size+1+1+1) 3 (R K 0):=a1.set _;have v:W.grownBy (W.setCell ⟨w.heap.size+1+1+1,0,O⟩ (R K 0)) (E (w.heap.size+1+1+1)):=JU _ _ _;have ap:W.heap.size<=(W.setCell ⟨w.heap.size+1+1+1,0,O⟩ (R K 0)).heap.size:=v.size;have a6:=j;obtain⟨kl,U⟩:=apg 0 c om ⟨I,j⟩;obtain⟨V,N⟩:=a2.2 0 c kl om om I j U;have q1:=aa.alloc (i7 #[R K 0,.int .u8 c] 394);have q2:=a8.alloc (i7 #[R K 0,.int .u8 c] 394);have q3:=a7.alloc (i7 #[R K 0,.int .u8 c] 394);have al:=ab.cell;have am:=H.cell;have av:=a1.cell;have au:=H.frozen;have ar:=a1.frozen;have r1:=q1.cell;have r2:=q2.cell;have r3:=q3.cell;have s2:=q2.frozen;have s3:=q3.frozen;have af:=AA (NV (Z.map Subtype.val) (G,c))
        cases s:(Ae (Z.map Subtype.val)).f (0,c)with
        |some m=>
          have HF:=AA s;rw[s]at V;have ac:=N m s;clear s N
          gi_wp2_with (gi_at_lookup;refine wpListIn_lookup_own_ok_int _ rfl _ _ 389 rfl 394 3 .i64 Ih underlying389 underlying3 (Me _) w.heap.size (lc Z) D rfl (X.alloc _) _ kl rfl U ?_;intro c' ae aj;rw[V])
          obtain rfl:c'=m:=by
            have hh:=ae.symm.trans ac
            simpa using hh
          have HN:Hid (Ae ((Z++[(⟨(G,c),I,a6⟩:BgP)]).map Subtype.val)={Ae (Z.map Subtype.val)with node:=c'}):=by
            rw[Aj,BO,DE,af.out,aas (by simpa using HF.out)]
            rfl
          have Ta:=(((Tn.refl w.heap.size W).grown v (λk e=>by first|(cases e;omega)|cases e)).grown (MR _ (i7 #[R K 0,.int .u8 c] 394) O) (λk e=>by cases e)).grown (JU _ (w.heap.size+1+1+1) (R K c')) (λk e=>by cases e;omega);refine⟨Ta.keeps om,λk hk=>Ta.block k om om,?_⟩;dsimp only;rw[HN.out];exact⟨q1.other om _,q2.other om _,q3.set _,⟨D,by rw[List.length_append];exact(JQ (X.alloc _) om _).mono (Nat.le_succ _),a2⟩,Ta.below hB om,by have:=Ta.size;omega⟩
        |none=>
          have HF:=AA s;rw[s]at V;clear s N
          gi_wp2_with (first
            |(gi_at_lookup;refine wpListIn_lookup_own_ok_int _ rfl _ _ 389 rfl 394 3 .i64 Ih underlying389 underlying3 (Me _) w.heap.size (lc Z) D rfl (X.alloc _) _ kl rfl U ?_;intro c' ae aj;rw[V])
            | (gi_at_mapUpdate;refine wpListIn_mapUpdate_own _ rfl _ _ _ 389 rfl 394 3 Ih underlying389 _ w.heap.size (lc Z) D rfl (X.alloc _) (by unfold maxLen;omega) _ _ kl rfl rfl U _ [] (plainElem_int underlying3 ak) ?_;intro w5 A Y
               have ai:=q1.kept Y (by intro e;injection e;omega);have B:=q2.kept Y (by intro e;injection e;omega);have C:=q3.kept Y (by intro e;injection e;omega);have t2:=B.cell;have t3:=C.cell;have u2:=B.frozen;have u3:=C.frozen)
            |gi_in)
          have HN:Hid (Ae ((Z++[(⟨(G,c),I,a6⟩:BgP)]).map Subtype.val)={f:=λq=>if q=(0,c) then E (Ae (Z.map Subtype.val)).many else(Ae (Z.map Subtype.val)).f q,many:=(Ae (Z.map Subtype.val)).many+1,node:=(Ae (Z.map Subtype.val)).many}):=by
            rw[Aj,BO,DE,af.out,abu (by simpa using HF.out)]
            rfl
          have Ta:=(((((Tn.refl w.heap.size W).grown v (λk e=>by first|(cases e;omega)|cases e)).grown (MR _ (i7 #[R K 0,.int .u8 c] 394) O) (λk e=>by cases e)).grown Y (λk e=>by cases e;omega)).grown (JU _ (w.heap.size+1+1) (R K ((Ae (Z.map Subtype.val)).many+1))) (λk e=>by cases e;omega)).grown (JU _ (w.heap.size+1+1+1) (R K (Ae (Z.map Subtype.val)).many)) (λk e=>by cases e;omega);refine⟨Ta.keeps om,λk hk=>Ta.block k om om,?_⟩;dsimp only;rw[HN.out];exact⟨(ai.other om _).other om _,(B.set _).other om _,(C.other om _).set _,⟨_,by rw[List.length_append];exact JQ (JQ A om _) om _,a2.put U⟩,Ta.below hB om,by have:=Ta.size;omega⟩
      |false=>
        have X:W.ownsMap ZP 394 (plainElem ZP 3) w.heap.size (lc Z) D:=ag;have aa:Boxed W (w.heap.size+1) 389 (.map (E w.heap.size)):=ab;have a8:Boxed W (w.heap.size+1+1) 3 (R K (Ae (Z.map Subtype.val)).many):=H;have a7:Boxed W (w.heap.size+1+1+1) 3 (R K (Ae (Z.map Subtype.val)).node):=a1;have v:W.grownBy W (E (w.heap.size+1+1+1)):=World.grownBy.refl W _;have ap:W.heap.size<=W.heap.size:=v.size;have a6:=j;obtain⟨kl,U⟩:=apg (Ae (Z.map Subtype.val)).node c om ⟨I,j⟩;obtain⟨V,N⟩:=a2.2 (Ae (Z.map Subtype.val)).node c kl om om I j U;have q1:=aa.alloc (i7 #[R K (Ae (Z.map Subtype.val)).node,.int .u8 c] 394);have q2:=a8.alloc (i7 #[R K (Ae (Z.map Subtype.val)).node,.int .u8 c] 394);have q3:=a7.alloc (i7 #[R K (Ae (Z.map Subtype.val)).node,.int .u8 c] 394);have al:=ab.cell;have am:=H.cell;have av:=a1.cell;have au:=H.frozen;have ar:=a1.frozen;have r1:=q1.cell;have r2:=q2.cell;have r3:=q3.cell;have s2:=q2.frozen;have s3:=q3.frozen;have af:=AA (NV (Z.map Subtype.val) (M,c))
        cases s:(Ae (Z.map Subtype.val)).f ((Ae (Z.map Subtype.val)).node,c)with
        |some m=>
          have HF:=AA s;rw[s]at V;have ac:=N m s;clear s N
          gi_wp2_with (gi_at_lookup;refine wpListIn_lookup_own_ok_int _ rfl _ _ 389 rfl 394 3 .i64 Ih underlying389 underlying3 (Me _) w.heap.size (lc Z) D rfl (X.alloc _) _ kl rfl U ?_;intro c' ae aj;rw[V])
          obtain rfl:c'=m:=by
            have hh:=ae.symm.trans ac
            simpa using hh
          have HN:Hid (Ae ((Z++[(⟨(M,c),I,a6⟩:BgP)]).map Subtype.val)={Ae (Z.map Subtype.val)with node:=c'}):=by
            rw[Aj,BO,DE,af.out,aas (by simpa using HF.out)]
            rfl
          have Ta:=(((Tn.refl w.heap.size W).grown v (λk e=>by first|(cases e;omega)|cases e)).grown (MR _ (i7 #[R K (Ae (Z.map Subtype.val)).node,.int .u8 c] 394) O) (λk e=>by cases e)).grown (JU _ (w.heap.size+1+1+1) (R K c')) (λk e=>by cases e;omega);refine⟨Ta.keeps om,λk hk=>Ta.block k om om,?_⟩;dsimp only;rw[HN.out];exact⟨q1.other om _,q2.other om _,q3.set _,⟨D,by rw[List.length_append];exact(JQ (X.alloc _) om _).mono (Nat.le_succ _),a2⟩,Ta.below hB om,by have:=Ta.size;omega⟩
        |none=>
          have HF:=AA s;rw[s]at V;clear s N
          gi_wp2_with (first
            |(gi_at_lookup;refine wpListIn_lookup_own_ok_int _ rfl _ _ 389 rfl 394 3 .i64 Ih underlying389 underlying3 (Me _) w.heap.size (lc Z) D rfl (X.alloc _) _ kl rfl U ?_;intro c' ae aj;rw[V])
            | (gi_at_mapUpdate;refine wpListIn_mapUpdate_own _ rfl _ _ _ 389 rfl 394 3 Ih underlying389 _ w.heap.size (lc Z) D rfl (X.alloc _) (by unfold maxLen;omega) _ _ kl rfl rfl U _ [] (plainElem_int underlying3 ak) ?_;intro w5 A Y
               have ai:=q1.kept Y (by intro e;injection e;omega);have B:=q2.kept Y (by intro e;injection e;omega);have C:=q3.kept Y (by intro e;injection e;omega);have t2:=B.cell;have t3:=C.cell;have u2:=B.frozen;have u3:=C.frozen)
            |gi_in)
          have HN:Hid (Ae ((Z++[(⟨(M,c),I,a6⟩:BgP)]).map Subtype.val)={f:=λq=>if q=((Ae (Z.map Subtype.val)).node,c) then E (Ae (Z.map Subtype.val)).many else(Ae (Z.map Subtype.val)).f q,many:=(Ae (Z.map Subtype.val)).many+1,node:=(Ae (Z.map Subtype.val)).many}):=by
            rw[Aj,BO,DE,af.out,abu (by simpa using HF.out)]
            rfl
          have Ta:=(((((Tn.refl w.heap.size W).grown v (λk e=>by first|(cases e;omega)|cases e)).grown (MR _ (i7 #[R K (Ae (Z.map Subtype.val)).node,.int .u8 c] 394) O) (λk e=>by cases e)).grown Y (λk e=>by cases e;omega)).grown (JU _ (w.heap.size+1+1) (R K ((Ae (Z.map Subtype.val)).many+1))) (λk e=>by cases e;omega)).grown (JU _ (w.heap.size+1+1+1) (R K (Ae (Z.map Subtype.val)).many)) (λk e=>by cases e;omega);refine⟨Ta.keeps om,λk hk=>Ta.block k om om,?_⟩;dsimp only;rw[HN.out];exact⟨(ai.other om _).other om _,(B.set _).other om _,(C.other om _).set _,⟨_,by rw[List.length_append];exact JQ (JQ A om _) om _,a2.put U⟩,Ta.below hB om,by have:=Ta.size;omega⟩
  case hdone=>
    rintro D xs W hD hS ⟨ab,H,a1,hm,hB,hs⟩ hK;have am:=H.cell;go_wp2;refine Gg rfl hK (results_tmp rfl _ _ _) ⟨?_,FZ hB om (AC _) _⟩;rw[<-hS]
    rfl
  case hstop=>exact λ_ _ _ _ _ _ h _=>h.elim
end
abbrev Kc(W Bs Lg Sh:Int)(f Z:Vk):Array Vk:=#[R K W,R K Bs,R K Lg,R K Sh,f,Z]
theorem JN{w:Wa}{b:Nat}{t:TypeId}{W Bs Lg Sh:Int}{f Z:Vk}(h:w.heap[b]?=E (i7 (Kc W Bs Lg Sh f Z) t (0,0))) :w.cell? ⟨b,0,O⟩=E (R K W)/\w.cell? ⟨b,1,O⟩=E (R K Bs)/\w.cell? ⟨b,2,O⟩=E (R K Lg)/\w.cell? ⟨b,3,O⟩=E (R K Sh)/\w.cell? ⟨b,4,O⟩=E f/\w.cell? ⟨b,5,O⟩=E Z/\
  w.frozen? ⟨b,0,O⟩=M/\w.frozen? ⟨b,1,O⟩=M/\w.frozen? ⟨b,2,O⟩=M/\w.frozen? ⟨b,3,O⟩=M:=by
 simp[cell?,frozen?,h]
theorem AJ{w:Wa}{b i:Nat}{cs:Array Vk}{t:TypeId}(h:w.heap[b]?=E (i7 cs t (0,0)))(u:Vk):(w.setCell ⟨b,i,O⟩ u).heap[b]?=E (i7 (cs.setIfInBounds i u) t (0,0)):=by simp[World.setCell,Js,h]
theorem BH(W:Wa)(g i:Nat)(u:Vk):W.grownBy (W.setCell ⟨g,i,O⟩ u) (E g):=⟨rfl,rfl,rfl,by simp[World.setCell],λk _ Z=>AQ W ⟨g,i,O⟩ u k (by intro e;exact Z (by rw[e]))⟩
theorem aiX(b:Nat)(W Bs Lg Sh:Int)(f X:Vk)(a:Option Addr)(l c:Nat)(w:Wa)(hb:w.heap[b]?=E (i7 (Kc W Bs Lg Sh f X) 348 (0,0)))
  (h1:0<=W) (h2:W<=1000000) (h3:0<=Bs) (h4:Bs<=1000000000000) (h5:l<=1000000) :
  Calls ZP 254 #[.pointer (E ⟨b,0,O⟩),.slice a l c] w λe w'=>(∃v,e=ra v)/\
   w'.heap[b]?=E (i7 (Kc (W+1) (Bs+l) (max Lg l) (if W=0∨(l:Int)<Sh then l else Sh) f X) 348 (0,0))/\w.grownBy w' (E b):=by
 obtain⟨c0,c1,c2,c3,c4,c5,I,J,N,U⟩:=JN hb;obtain⟨MH,Z⟩:∃MH,(if W=0∨(l:Int)<Sh then(l:Int) else Sh)=MH:=⟨_,rfl⟩;have Y:Hid ((if W=0∨(l:Int)<Sh then(l:Int) else Sh)=MH):=Z;rw[Z];clear Z
 by_cases hW:W=0
 ·subst hW;obtain rfl:(l:Int)=MH:=by rw[<-Y.out,Lq (.inl rfl)]
  go_enter func254,ntmps254;go_wp2
  go_end0
  refine⟨⟨_,rfl⟩,?_,(((BH _ _ _ _).trans (BH _ _ _ _)).trans (BH _ _ _ _)).trans (BH _ _ _ _)⟩
  simpa using AJ (i:=1) (AJ (i:=0) (AJ (i:=2) (AJ (i:=3) hb (R K l)) (R K (max Lg l))) (R K 1)) (R K (Bs+l))
 ·by_cases V:(l:Int)<Sh
  ·obtain rfl:(l:Int)=MH:=by rw[<-Y.out,Lq (.inr V)]
   go_enter func254,ntmps254;go_wp2
   go_end0
   refine⟨⟨_,rfl⟩,?_,(((BH _ _ _ _).trans (BH _ _ _ _)).trans (BH _ _ _ _)).trans (BH _ _ _ _)⟩
   simpa using AJ (i:=1) (AJ (i:=0) (AJ (i:=2) (AJ (i:=3) hb (R K l)) (R K (max Lg l))) (R K (W+1))) (R K (Bs+l))
  ·obtain rfl:Sh=MH:=by rw[<-Y.out,Lc om]
   go_enter func254,ntmps254;go_wp2
   go_end0
   refine⟨⟨_,rfl⟩,?_,((BH _ _ _ _).trans (BH _ _ _ _)).trans (BH _ _ _ _)⟩
   simpa using AJ (i:=1) (AJ (i:=0) (AJ (i:=2) hb (R K (max Lg l))) (R K (W+1))) (R K (Bs+l))
def GJ:Nat->FuncId
 |0=>280
 |1=>281
 |2=>282
 |3=>283
 |4=>284
 |_=>285
theorem adV(k:Nat)(args:Array Vk)(w:Wa):Sem.run ZP (callFunc (GJ k) args) w=.ok (.enter (GJ k) args) w:=by
 unfold GJ
 split
 ·exact Vj func280 kr rfl args w
 ·exact Vj func281 kr rfl args w
 ·exact Vj func282 kr rfl args w
 ·exact Vj func283 kr rfl args w
 ·exact Vj func284 kr rfl args w
 ·exact Vj func285 kr rfl args w
section
variable (p b:Nat)(W Bs Lg Sh:Int)(fold:Bool)(a:Option Addr)(la ca:Nat)(w:Wa)(hp:Boxed w p 380 (L (E ⟨b,0,O⟩)))(hb:w.heap[b]?=E (i7 (Kc W Bs Lg Sh (i6 fold) (T a la ca)) 348 (0,0)))
include hp hb
theorem al0:Calls ZP 280 #[L (E ⟨p,0,O⟩)] w λe w'=>e=ra (i6 (decide (W=0)))/\w=w':=by have U:=hp.cell;obtain⟨c0,c1,c2,c3,c4,c5,V,X,Y,Z⟩:=JN hb;go_enter func280,ntmps280;go_wp2;go_ret;exact⟨rfl,rfl⟩
theorem am3:Calls ZP 281 #[L (E ⟨p,0,O⟩)] w λe w'=>e=ra (i6 (decide (W > 64)))/\w=w':=by have U:=hp.cell;obtain⟨c0,c1,c2,c3,c4,c5,V,X,Y,Z⟩:=JN hb;go_enter func281,ntmps281;go_wp2;go_ret;exact⟨rfl,rfl⟩
theorem amo:Calls ZP 282 #[L (E ⟨p,0,O⟩)] w λe w'=>e=ra (i6 (decide (Sh=0)))/\w=w':=by have U:=hp.cell;obtain⟨c0,c1,c2,c3,c4,c5,V,X,Y,Z⟩:=JN hb;go_enter func282,ntmps282;go_wp2;go_ret;exact⟨rfl,rfl⟩
theorem amd:Calls ZP 283 #[L (E ⟨p,0,O⟩)] w λe w'=>e=ra (i6 (decide (Lg > 32)))/\w=w':=by have U:=hp.cell;obtain⟨c0,c1,c2,c3,c4,c5,V,X,Y,Z⟩:=JN hb;go_enter func283,ntmps283;go_wp2;go_ret;exact⟨rfl,rfl⟩
theorem am4:Calls ZP 284 #[L (E ⟨p,0,O⟩)] w λe w'=>e=ra (i6 (decide (Bs > 600)))/\w=w':=by have U:=hp.cell;obtain⟨c0,c1,c2,c3,c4,c5,V,X,Y,Z⟩:=JN hb;go_enter func284,ntmps284;go_wp2;go_ret;exact⟨rfl,rfl⟩
theorem alm(wss:Lb)(U:Wds w a la wss)(Y:la<=1000000)(V:∀x∈wss,lc x<=1000000)(X:(Ad fold wss).length<=1000000) :Calls ZP 285 #[L (E ⟨p,0,O⟩)] w λe w'=>e=ra (i6 (decide ((Ae (Ad fold wss)).many > 400)))/\La w w':=by
 have J:=hp.cell;obtain⟨c0,c1,c2,c3,c4,c5,v,A,B,C⟩:=JN hb;have kp:=Vf J;have D:=Vf c4;have H:=Vf c5;have I:∀d os,Calls ZP 286 #[i6 fold,T a la ca] (grow (redrawn w d) os) λe w''=>e=ra (R K (Ae (Ad fold wss)).many)/\∃p:Regrown,w''=grow (redrawn w p.d) p.os:=
  λd os=>Calls.regrown_of (aks fold a la ca wss _ (U.below (Vc w d os)) Y V X)
 go_enter func285,ntmps285;go_wp2;refine wp_region_quiet_below mixed kr ?_
 repeat (go_big_quiet_step (exact I _ _))
 refine wpQuiet_nil ?_;rintro _ ⟨⟨N,Z⟩,rfl⟩;go_wp2;go_ret;exact⟨rfl,Vc _ N Z⟩
end
section
attribute[local go_sem] IW
theorem anA(k p b:Nat)(W U V X:Int)(fold:Bool)(a:Option Addr)(Y N:Nat)(w:Wa)(J:Boxed w p 380 (L (E ⟨b,0,O⟩)))(I:w.heap[b]?=E (i7 (Kc W U V X (i6 fold) (T a Y N)) 348 (0,0)))
  (wss:Lb) (B:Wds w a Y wss) (H:Y<=1000000) (C:∀x∈wss,lc x<=1000000) (D:(Ad fold wss).length<=1000000) :
  Calls ZP (GJ k) #[L (E ⟨p,0,O⟩)] w λe w'=>e=ra (i6 (Ku W U V X (Ae (Ad fold wss)).many k))/\La w w':=by
 have Z:∀{f:FuncId}{v:Vk},Calls ZP f #[L (E ⟨p,0,O⟩)] w (λe w'=>e=ra v/\w=w')->Calls ZP f #[L (E ⟨p,0,O⟩)] w (λe w'=>e=ra v/\La w w'):=
  λh=>h.mono λe w' ⟨h1,h2⟩=>⟨h1,by rw[<-h2];exact AH _ _⟩
 match k with
 |0=>exact Z (al0 p b W U V X fold a Y N w J I)
 |1=>exact Z (am3 p b W U V X fold a Y N w J I)
 |2=>exact Z (amo p b W U V X fold a Y N w J I)
 |3=>exact Z (amd p b W U V X fold a Y N w J I)
 |4=>exact Z (am4 p b W U V X fold a Y N w J I)
 |_+5=>exact alm p b W U V X fold a Y N w J I wss B H C D
def Kt(p:Nat):Array Vk:=#[R K 50,.func (.func (GJ 0)) #[] #[L (E ⟨p,0,O⟩)],R K 51,.func (.func (GJ 1)) #[] #[L (E ⟨p,0,O⟩)],R K 52,.func (.func (GJ 2)) #[] #[L (E ⟨p,0,O⟩)],
 R K 53,.func (.func (GJ 3)) #[] #[L (E ⟨p,0,O⟩)],R K 54,.func (.func (GJ 4)) #[] #[L (E ⟨p,0,O⟩)],R K 55,.func (.func (GJ 5)) #[] #[L (E ⟨p,0,O⟩)]]
theorem ami(b:Nat)(w:Wa) :Calls ZP 255 #[.pointer (E ⟨b,0,O⟩)] w λe w'=>e=ra (.slice (E ⟨w.heap.size+1,0,O⟩) 6 6)/\
   w'=(w.alloc (i7 #[L (E ⟨b,0,O⟩)] 380)).alloc (i7 (Kt w.heap.size) 353):=by
 go_enter func255,ntmps255;go_wp2;go_ret;exact⟨rfl,rfl⟩
theorem ajW{w:Wa}{Z p:Nat}(h:w.heap[Z]?=E (i7 (Kt p) 353 (0,0))){k:Nat}(hk:k<6) :w.cell? ⟨Z,k*2,O⟩=E (R K (50+k))/\w.cell? ⟨Z,k*2+1,O⟩=E (.func (.func (GJ k)) #[] #[L (E ⟨p,0,O⟩)]):=by
 have:k=0∨k=1∨k=2∨k=3∨k=4∨k=5:=by omega
 rcases this with rfl|rfl|rfl|rfl|rfl|rfl<;>simp[cell?,h,Kt]
theorem ae7(fold:Bool)(a:Option Addr)(N ca:Nat)(wss:Lb)(w:Wa)(hA:Wds w a N wss)(am:N<=1000000)(hM:∀x∈wss,lc x<=1000000)(hT:(Ad fold wss).length<=1000000) :Calls ZP 223 #[i6 fold,T a N ca] w λe w'=>e=ra (R K (Ey fold wss))/\La w w':=by
 have HL:=AA hA.len;go_enter func223,ntmps223;go_wp2
 go_loopw[15] (λi wr=>∃k:Nat,k<=N/\i=R K k/\La w wr/\wr.heap[w.heap.size]?=E (i7 (Kc (cnt (wss.take k)).1 (cnt (wss.take k)).2.1 (cnt (wss.take k)).2.2.1 (cnt (wss.take k)).2.2.2 (i6 fold) (T a N ca)) 348 (0,0))) (λi _=>N-(intOf i).toNat)
 case atStart=>exact⟨0,AR _,rfl,(AH _ _).alloc (AC _) _,AT _ _⟩
 case round=>
  obtain⟨k,hk,rfl,U,J⟩:=hrel
  by_cases al:k<N
  ·obtain⟨bb,off,a',l,c,x,rfl,ax,ap,hx,hX,aw⟩:=(hA.below U).at_ al;have ai:l<=1000000:=by have:=Ff hM hx;rw[hX.len]at this;exact this
   obtain⟨g1,g2,g3⟩:=aoM (MH:=1000000) (wss.take k) (λy hy=>hM y (EG hy));have a8:((wss.take k).length:Int)=k:=by rw[Ag,HL.out];omega
   rw[a8]at g1 g3;have HX:=AA hx;have HC:=AA hX.len;clear hx a8
   go_wp2_with fail
   refine(aiX w.heap.size _ _ _ _ (i6 fold) (T (E ⟨bb,off,O⟩) N ca) a' l c wr J om om g2 om ai).mono ?_;rintro e w1 ⟨⟨v,rfl⟩,a7,ao⟩;have ar:La w w1:=U.grown ao (by have:=U.size;omega) (λk e=>by cases e;exact AC _);have HN:Hid (cnt (wss.take (k+1))=Kq (cnt (wss.take k)) x):=by rw[As HX.out,ad5];rfl
   go_wp2
   go_roundw
   case rel=>
    refine⟨k+1,by omega,by go_num,ar,?_⟩;rw[HN.out];simp only[Kq,HC.out];exact a7
   case measure=>simp[intOf];omega
  ·obtain rfl:k=N:=by omega
   have V:wss.take k=wss:=Ap (by have:=HL.out;omega);rw[V]at J;clear V;have a1:w.heap.size<wr.heap.size:=(AD.1 J).1;have af:=hA.below U
   go_wp2_with (go_at_call 255;refine(ami _ _).mono ?_;rintro e w' ⟨rfl,rfl⟩)
   obtain⟨X,Y⟩:∃X,X=(wr.alloc (i7 #[L (E ⟨w.heap.size,0,O⟩)] 380)).alloc (i7 (Kt wr.heap.size) 353):=⟨_,rfl⟩;have I:La w X:=by rw[Y];exact(U.alloc om _).alloc (by simp;omega) _
   have A:La wr X:=by rw[Y];exact((AH _ _).alloc (AC _) _).alloc sm _
   have B:Boxed X wr.heap.size 380 (L (E ⟨w.heap.size,0,O⟩)):=by rw[Y];exact(Boxed.new _ _ _).alloc _
   have C:X.heap[wr.heap.size+1]?=E (i7 (Kt wr.heap.size) 353 (0,0)):=by
    rw[Y];have:=AT (wr.alloc (i7 #[L (E ⟨w.heap.size,0,O⟩)] 380)) (i7 (Kt wr.heap.size) 353)
    rwa[DN]at this
   have D:X.heap[w.heap.size]?=_:=(A.block _ a1).trans J;have au:=af.below A;have ag:X.heap.size=wr.heap.size+2:=by rw[Y];simp
   rw[<-Y];clear Y A af;obtain⟨s,a2⟩:∃s,wr.heap.size=s:=⟨_,rfl⟩;rw[a2]at B C ag⊢;clear a2
   go_loopw[25] (λi wq=>∃j:Nat,j<=6/\i=R K j/\La X wq/\Hid (∀n,n<j->Ku (cnt wss).1 (cnt wss).2.1 (cnt wss).2.2.1 (cnt wss).2.2.2 (Ae (Ad fold wss)).many n=M)) (λi _=>6-(intOf i).toNat)
   case atStart=>exact⟨0,by omega,rfl,AH _ _,λn hn=>by omega⟩
   case round=>
    obtain⟨j,hj,rfl,Z,HJ⟩:=hrel;have aq:La w wr:=I.trans (Z.mono I.size)
    by_cases aa:j<6
    ·obtain⟨d0,d1⟩:=ajW ((Z.block _ (AD.1 C).1).trans C) aa;have he:=adV j
     go_wp2_with fail
     have aj:Boxed wr s 380 (L (E ⟨w.heap.size,0,O⟩)):=(Z.block _ B.lt).trans B;have a6:wr.heap[w.heap.size]?=_:=(Z.block _ (AD.1 D).1).trans D;have H:=AT wr (i7 #[R K (50+(j:Int)),.func (.func (GJ j)) #[] #[L (E ⟨s,0,O⟩)]] 353);refine(anA j s w.heap.size _ _ _ _ fold a k ca _ (aj.alloc _) ((Bg _ _ _ (AD.1 a6).1).trans a6) wss ((au.below Z).below ((AH _ _).alloc (AC _) _)) am hM hT).mono ?_;rintro e w5 ⟨rfl,ab⟩;have ae:La X w5:=(Z.alloc Z.size _).trans (ab.mono (by have:=Z.size;simp;omega));have ac:La w w5:=I.trans (ae.mono I.size);have ak:w5.heap[wr.heap.size]?=_:=(ab.block _ (AD.1 H).1).trans H;have q0:w5.cell? ⟨wr.heap.size,0,O⟩=E (R K (50+(j:Int))):=by simp[cell?,ak]
     cases e:Ku (cnt wss).1 (cnt wss).2.1 (cnt wss).2.2.1 (cnt wss).2.2.2 (Ae (Ad fold wss)).many j with
     |true=>
      have HC:Hid (Ey fold wss=50+(j:Int)):=ae6 aa HJ e;go_wp2;go_ret;exact⟨by rw[HC.out];rfl,ac⟩
     |false=>
      have av:Hid (∀n,n<j+1->Ku (cnt wss).1 (cnt wss).2.1 (cnt wss).2.2.1 (cnt wss).2.2.2 (Ae (Ad fold wss)).many n=M):=by
       intro n hn
       by_cases h:n=j
       ·rw[h];exact e
       ·exact HJ n om
      go_wp2
      go_roundw
      case rel=>exact⟨j+1,by omega,by go_num,ae,av⟩
      case measure=>simp[intOf];omega
    ·obtain rfl:j=6:=by omega
     have HC:Hid (Ey fold wss=0):=acT HJ;go_wp2;go_ret;exact⟨by rw[HC.out];rfl,aq⟩
end
abbrev AM(fold:Bool)(a:Option Addr)(Z Y:Nat):Array Vk:=#[i6 fold,T a Z Y]
theorem ahu(fold:Bool)(a b:Option Addr)(H B Z Y:Nat)(xs:List Int)(wss:Lb)(w:Wa)(s:Bys w a H xs)(hB:Wds w b Z wss)(V:Z<=1000000)(A:∀x∈wss,lc x<=1000000) :Calls ZP 224 #[i8 (AM fold b Z Y),T a H B] w λe w'=>e=ra (ta #[R K (if BV fold xs wss<0 then 0 else BV fold xs wss),i6 (decide (0<=BV fold xs wss))])/\La w w':=by
 have C:=ajV fold xs wss;have I:=s.below ((AH _ _).alloc (AC _) (i7 (AM fold b Z Y) 24));have J:=hB.below ((AH _ _).alloc (AC _) (i7 (AM fold b Z Y) 24));obtain⟨n,D⟩:∃n,BV fold xs wss=n:=⟨_,rfl⟩;have v:Hid (BV fold xs wss=n):=D;rw[D]at C⊢;clear D;have N:∀X,Below (w.alloc (i7 (AM fold b Z Y) 24)).heap.size (w.alloc (i7 (AM fold b Z Y) 24)) X->La w X:=λX U=>((AH _ _).alloc (AC _) _).trans (U.mono sm)
 by_cases h:n<0
 ·rw[Lq h,decide_eq_false om];go_enter func224,ntmps224
  go_wp2_with fail
  refine(aeb fold a b H B Z Y xs wss _ I J V A).mono ?_;rintro e X ⟨rfl,U⟩;rw[v.out];go_wp2;go_ret2;exact⟨rfl,N _ U⟩
 ·rw[Lc h,Vb om];go_enter func224,ntmps224
  go_wp2_with fail
  refine(aeb fold a b H B Z Y xs wss _ I J V A).mono ?_;rintro e X ⟨rfl,U⟩;rw[v.out];go_wp2;go_ret2;exact⟨rfl,N _ U⟩
theorem aky(a b:Option Addr)(Y U Z V:Nat)(xs ys:List Int)(w:Wa)(X:Bys w a Y xs)(hB:Bys w b Z ys) :Calls ZP 225 #[T a Y U,T b Z V] w λe w'=>e=ra (i6 (decide (xs=ys)))/\w=w':=by have c1:=Gh X;have c2:=Gh hB;go_enter func225,ntmps225;go_wp2;go_ret;refine⟨?_,rfl⟩;show Ending.returned (i6 ((strOfNums xs).toList==(strOfNums ys).toList))=_;rw[Ms X.2 hB.2]
def DH(f g:Bool)(wss Z:Lb):Bool:=f==g&&decide (wss=Z)
theorem Mz{f g:Bool}{wss Z:Lb}(h:f≠g∨lc wss≠lc Z):DH f g wss Z=M:=by
 rcases h with h|h
 ·cases f<;>cases g<;>simp_all [DH]
 ·have:wss≠Z:=λe=>h (by rw[e]);simp[DH,this]
theorem ajv(f g:Bool)(a b:Option Addr)(X ca N cb:Nat)(wss Z:Lb)(w:Wa)(A:Wds w a X wss)(hB:Wds w b N Z)(a8:X<=1000000) :Calls ZP 181 #[i8 (AM f a X ca),i8 (AM g b N cb)] w λe w'=>e=ra (i6 (DH f g wss Z))/\La w w':=by
 have Y:La w ((w.alloc (i7 (AM f a X ca) 24)).alloc (i7 (AM g b N cb) 24)):=((AH _ _).alloc (AC _) _).alloc sm _;have HA:=AA A.len;have HB:=AA hB.len
 by_cases U:f=g
 ·subst U
  by_cases hl:X=N
  ·subst hl;have B:=A.below Y;have C:=hB.below Y;clear A hB;go_enter func181,ntmps181;go_wp2
   go_loop[24] (λi=>∃k:Nat,k<=X/\i=R K k/\Hid (wss.take k=Z.take k)) (λi=>X-(intOf i).toNat)
   case atStart=>exact⟨0,AR _,rfl,by simp[Hid]⟩
   case round=>
    obtain⟨k,hk,rfl,HK⟩:=hrel
    by_cases J:k<X
    ·obtain⟨bb,off,a',l,c,x,rfl,aa,D,j,hX,a7⟩:=B.at_ J;obtain⟨ab,v,a2,l2,c2,y,rfl,a6,I,s,hY,a1⟩:=C.at_ J
     go_wp2_with fail
     refine(aky a' a2 l c l2 c2 x y _ hX hY).mono ?_;rintro e w1 ⟨rfl,rfl⟩;have HX:=AA j;have HY:=AA s;clear j s
     by_cases h:x=y
     ·rw[Vb h];have V:Hid (wss.take (k+1)=Z.take (k+1)):=by rw[As HX.out,As HY.out,HK.out,h];rfl
      clear h;go_wp2
      go_round
      case rel=>exact⟨k+1,by omega,by go_num,V⟩
      case measure=>simp[intOf];omega
     ·rw[decide_eq_false h];have V:Hid (DH f f wss Z=M):=by
       have:wss≠Z:=λe=>by have h1:=HX.out;rw[e,HY.out]at h1;exact h (AK h1).symm
       simp[Hid,DH,this]
      clear h;go_wp2;go_ret;exact⟨by rw[V.out];rfl,Y⟩
    ·obtain rfl:k=X:=by omega
     have V:Hid (DH f f wss Z=G):=by have h:=HK.out;rw[Ap (by rw[HA.out];exact AC _),Ap (by rw[HB.out];exact AC _)]at h;simp[Hid,DH,h]
     go_wp2;go_ret;exact⟨by rw[V.out];rfl,Y⟩
  ·have V:Hid (DH f f wss Z=M):=Mz (.inr (by rw[HA.out,HB.out];exact hl));have H:((X:Int) != (N:Int))=G:=by simp;omega
   go_enter func181,ntmps181;go_wp2
   all_goals
    go_ret;exact⟨by rw[V.out];rfl,Y⟩
 ·have V:Hid (DH f g wss Z=M):=Mz (.inl U);have H:(f != g)=G:=by simp[U]
  go_enter func181,ntmps181;go_wp2
  all_goals
   go_ret;exact⟨by rw[V.out];rfl,Y⟩
theorem Gz{w:Wa}{B size n g:Nat}{e t:TypeId}{v:Vk}{xs:List Vk}{cs:Array Vk}{U:Nat×Nat}(h:w.ownsRow B e size v n xs)(Z:w.heap[g]?=E (i7 cs t U))(Y:t≠e):v.ownBlock≠E g:=by
 intro X;obtain⟨c,f,V⟩:=Lib.ownsRow_kind h g X;rw[V]at Z
 injection Z with Z
 injection Z with _ ht
 exact Y ht.symm
theorem DJ{w w':Wa}{B size n:Nat}{e:TypeId}{v:Vk}{xs:List Vk}(h:w.ownsRow B e size v n xs)(Z:La w w'):w'.ownsRow B e size v n xs:=h.kept (row:=O) (Km Z) (by cases v.ownBlock<;>simp)
def BI(w:Wa)(base:Nat)(v:Vk)(wss:Lb):Prop:=
 ∃es:List Vk,w.ownsRow base 32 1 v (lc wss) es/\lc es=lc wss/\∀(i:Nat)(e:Vk)(xs:List Int),es[i]?=E e->wss[i]?=E xs->Ch w base e (lc xs) xs/\∀x∈xs,0<=x/\x<=255
theorem BI.nil(w:Wa)(base:Nat):BI w base (T O 0 0) []:=⟨[],BN _ _ _ _,rfl,λi e xs h=>by simp at h⟩
theorem BI.below{w w':Wa}{base:Nat}{v:Vk}{wss:Lb}(h:BI w base v wss)(X:La w w'):BI w' base v wss:=by obtain⟨es,h1,h2,h3⟩:=h;exact⟨es,DJ h1 X,h2,λi e xs Y Z=>⟨DJ (h3 i e xs Y Z).1 X,(h3 i e xs Y Z).2⟩⟩
theorem BI.turned{w w':Wa}{base g:Nat}{v:Vk}{wss:Lb}{cs:Array Vk}{t:TypeId}{J:Nat×Nat}(h:BI w base v wss)(U:w.grownBy w' (E g))(V:w.heap[g]?=E (i7 cs t J))(h1:t≠32)(h2:t≠5):BI w' base v wss:=by obtain⟨es,N,e2,X⟩:=h;exact⟨es,N.kept U (.inr (Gz N V h1)),e2,λi e xs Y Z=>⟨(X i e xs Y Z).1.kept U (.inr (Gz (X i e xs Y Z).1 V h2)),(X i e xs Y Z).2⟩⟩
theorem BI.wds{w:Wa}{base:Nat}{v:Vk}{wss:Lb}(h:BI w base v wss):∃a c,v=T a (lc wss) c/\lc wss<=c/\Wds w a (lc wss) wss:=by
 obtain⟨es,h1,h2,h3⟩:=h;have I:∀(i:Nat)(e:Vk),es[i]?=E e->∃a l c xs,e=T a l c/\wss[i]?=E xs/\Bys w a l xs/\l<=c:=by intro i e Z;have B:=(AP.1 Z).1;obtain⟨xs,U⟩:∃xs,wss[i]?=E xs:=⟨wss[i]'om,by simp⟩;obtain⟨ho,C⟩:=h3 i e xs Z U;obtain⟨a,c,J,N,hB⟩:=KL ho C;exact⟨a,_,c,xs,J,U,hB,N⟩
 let f:Vk->Option Addr×Nat×Nat:=λe=>match e with|T a l c=>(a,l,c)|_=>(O,0,0)
 have V:(es.map f).map (λv=>T v.1 v.2.1 v.2.2)=es:=by
  apply Hn
  intro i;rw[List.map_map,BU]
  cases Z:es[i]? with
  |none=>rfl
  |some e=>
   obtain⟨a,l,c,xs,rfl,_⟩:=I i e Z
   rfl
 obtain⟨a,c,J,N,H⟩:=Co (enc:=λv:Option Addr×Nat×Nat=>T v.1 v.2.1 v.2.2) (xs:=es.map f) (by rw[V];exact h1);refine⟨a,c,J,N,es.map f,H,by rw[BP,h2],λi v xs X U=>?_⟩;rw[BU,Fo]at X;obtain⟨e,Z,rfl⟩:=X;obtain⟨s,l,A,xs',rfl,Y,hB,D⟩:=I i e Z;rw[U]at Y;obtain rfl:=AK Y;exact⟨hB,D⟩
theorem BI.step{W w':Wa}{base:Nat}{v v' e:Vk}{wss:Lb}{xs:List Int}{es:List Vk}(h1:W.ownsRow base 32 1 v (lc wss) es)(h2:lc es=lc wss)
  (h3:∀(i:Nat)(e:Vk)(xs:List Int),es[i]?=E e->wss[i]?=E xs->Ch W base e (lc xs) xs/\∀x∈xs,0<=x/\x<=255)
  (I:Ch W base e (lc xs) xs) (H:∀x∈xs,0<=x/\x<=255) (X:w'.ownsRow base 32 1 v' (lc wss+1) (es++[e])) (J:W.grownBy w' v.ownBlock):BI w' base v' (wss++[xs]):=by
 have V:∀{e:Vk}{n:Nat}{xs:List Int},Ch W base e n xs->e.ownBlock=O∨e.ownBlock≠v.ownBlock:=by
  intro e n xs ho
  cases D:v.ownBlock with
  |none=>cases e.ownBlock<;>simp
  |some g=>
   right
   obtain⟨c,s,C⟩:=Lib.ownsRow_kind h1 g D;exact Gz ho C (Kf kr)
 refine⟨es++[e],by rw[List.length_append];exact X,by simp[h2],λi A ys Z Y=>?_⟩;rw[List.getElem?_append]at Z Y
 by_cases N:i<lc es
 ·rw[Lq N]at Z;rw[Lq om]at Y;obtain⟨ho,B⟩:=h3 i A ys Z Y;exact⟨ho.kept J (V ho),B⟩
 ·rw[Lc N]at Z;rw[Lc om]at Y;have U:i-(lc es)=0:=by
   have:=(AP.1 Z).1;simp at this;omega
  rw[U]at Z;rw[show i-(lc wss)=0 by omega]at Y;simp at Z Y;subst Z Y;exact⟨I.kept J (V I),H⟩
def GK(fold:Bool)(Z:Lb)(x:List Int):Lb:=if BV fold x Z<0 then Z++[AO fold x] else Z
def AZ(fold:Bool)(wss:Lb):Lb:=wss.foldl (GK fold) []
theorem Ka(fold:Bool)(l:Lb)(x:List Int):AZ fold (l++[x])=GK fold (AZ fold l) x:=by simp[AZ,FI]
theorem Nb(fold:Bool)(l:Lb):(AZ fold l).length<=lc l:=by
 obtain⟨n,Y⟩:∃n,lc l=n:=⟨_,rfl⟩
 induction n generalizing l with
 |zero=>obtain rfl:=Bz Y;simp[AZ]
 |succ n ih=>
  obtain⟨Z,x,rfl⟩:∃Z x,l=Z++[x]:=⟨l.dropLast,l.getLast (by intro h;simp[h]at Y),(Em _).symm⟩;have:=ih Z (by simpa using Y);rw[Ka];unfold GK
  split<;>simp<;>omega
theorem aei{fold:Bool}{MH:Nat}(l:Lb)(h:∀x∈l,lc x<=MH):∀x∈AZ fold l,lc x<=MH:=by
 obtain⟨n,V⟩:∃n,lc l=n:=⟨_,rfl⟩
 induction n generalizing l with
 |zero=>obtain rfl:=Bz V;simp[AZ]
 |succ n ih=>
  obtain⟨X,x,rfl⟩:∃X x,l=X++[x]:=⟨l.dropLast,l.getLast (by intro h;simp[h]at V),(Em _).symm⟩;have Y:=ih X (λy Z=>h y (by simp[Z])) (by simpa using V);rw[Ka];unfold GK
  split
  ·intro y Z
   rcases Bf.1 Z with Z|Z
   ·exact Y y Z
   ·simp at Z;rw[Z,Ew];exact h x sm
  ·exact Y
theorem NH{fn:Func}{p u:Tmp}{tmps:Array Vk}{W:Wa}{B:Nat}{x y:Vk}(h:fn.results=#[.cell p 24,.tmp u])(Z:tmps.getD p undef=L (E ⟨B,0,O⟩))(hB:W.heap[B]?=E (i7 #[x,y] 24 (0,0))) :(results fn tmps).run ZP W=.ok (ta #[i8 #[x,y],tmps.getD u undef]) W:=by have Y:(loadVar 24 ⟨B,0,O⟩).run ZP W=.ok (i8 #[x,y]) W:=run_loadVar_row W B 24 24 #[x,y] (0,0) _ hB underlying24 rfl kr;rw[results_cell_tmp h,Z];simp[asAddr,Y,Result.andThen]
theorem anQ(fold:Bool)(a:Option Addr)(X D:Nat)(wss:Lb)(w:Wa)(v:Wds w a X wss)(N:X<=1000000)(A:∀x∈wss,lc x<=1000000)(B:(Ad fold wss).length<=1000000)(C:Ey fold wss≠0) :Calls ZP 180 #[i6 fold,T a X D] w λe w'=>e=ra (ta #[i8 (AM M O 0 0),R K (Ey fold wss)])/\La w w':=by
 have I:=v.below ((AH _ _).alloc (AC _) (i7 (AM M O 0 0) 24));obtain⟨n,U⟩:∃n,Ey fold wss=n:=⟨_,rfl⟩;have s:Hid (Ey fold wss=n):=U;rw[U]at C⊢;clear U;go_enter func180,ntmps180
 go_wp2_with fail
 refine(ae7 fold a X D wss _ I N A B).mono ?_;rintro e Z ⟨rfl,H⟩;rw[s.out];have Y:Z.heap[w.heap.size]?=E (i7 (AM M O 0 0) 24 (0,0)):=(H.block _ sm).trans (AT _ _);have J:La w Z:=((AH _ _).alloc (AC _) _).trans (H.mono sm);have z0:Z.cell? ⟨w.heap.size,0,O⟩=E (i6 M):=by simp[cell?,Y]
 have j:Z.cell? ⟨w.heap.size,1,O⟩=E (T O 0 0):=by simp[cell?,Y]
 have y0:Z.frozen? ⟨w.heap.size,0,O⟩=M:=by simp[frozen?,Y]
 have y1:Z.frozen? ⟨w.heap.size,1,O⟩=M:=by simp[frozen?,Y]
 go_wp2;have V:=AJ (i:=1) (AJ (i:=0) Y (i6 M)) (T O 0 0);refine Vi (NH rfl rfl (by simpa using V)) rfl ?_;exact⟨rfl,(J.setCell (AC _) _).setCell (AC _) _⟩
theorem agG(fold:Bool)(a:Option Addr)(Y N:Nat)(xs:List Int)(w:Wa)(U:Bys w a Y xs)(V:Y<=1000000) :Calls ZP 134 #[i6 fold,T a Y N] w λe w'=>∃X c1,e=ra (T X Y c1)/\Ch w' w.heap.size (T X Y c1) Y (AO fold xs)/\La w w':=
 (ai8 fold a Y N xs w U V).mono λe w' ⟨v,J,Z,I⟩=>by obtain⟨X,c1,rfl,_,h⟩:=KL Z (MD U.2);exact⟨X,c1,J,Z,I⟩
theorem abR{w:Wa}{b b' n:Nat}{v:Vk}{xs:List Int}(h:Ch w b v n xs)(Z:b'<=b):Ch w b' v n xs:=Go.Joins.ownsRow_le h Z
theorem OT:(ZP.info? 32).map (λi=>(i.zero,i.size,i.bytes))=E (E (T O 0 0),1,24):=by kernel_rfl
theorem alL(fold:Bool)(a:Option Addr)(la ca:Nat)(wss:Lb)(w:Wa)(hA:Wds w a la wss)(aq:la<=1000000)(hM:∀x∈wss,lc x<=1000000)(hT:(Ad fold wss).length<=1000000)(hc:Ey fold wss=0) :Calls ZP 180 #[i6 fold,T a la ca] w λe w'=>∃v,e=ra (ta #[i8 #[i6 fold,v],R K 0])/\BI w' w.heap.size v (AZ fold wss)/\La w w':=by
  have aF:=hA.below ((AH _ _).alloc (AC _) (i7 (AM M O 0 0) 24));have HN:Hid (Ey fold wss=0):=hc;have HL:=AA hA.len;clear hc;go_enter func180,ntmps180
  go_wp2_with fail
  refine(ae7 fold a la ca wss _ aF aq hM hT).mono ?_;rintro e Z ⟨rfl,hb⟩;rw[HN.out];have hz:Z.heap[w.heap.size]?=E (i7 (AM M O 0 0) 24 (0,0)):=(hb.block _ sm).trans (AT _ _);have aE:La w Z:=((AH _ _).alloc (AC _) _).trans (hb.mono sm);have ai:w.heap.size<Z.heap.size:=(AD.1 hz).1;go_wp2
  go_loopw[23] (λi wr=>∃(k:Nat)(v:Vk),k<=la/\i=R K k/\La w wr/\wr.heap[w.heap.size]?=E (i7 (AM M O 0 0) 24 (0,0))/\wr.heap[Z.heap.size]?=E (i7 #[i6 fold,v] 24 (0,0))/\BI wr w.heap.size v (AZ fold (wss.take k))) (λi _=>la-(intOf i).toNat)
  case atStart=>exact⟨0,T O 0 0,AR _,rfl,aE.alloc om _,(Bg _ _ _ ai).trans hz,AT _ _,by simpa[AZ]using BI.nil _ _⟩
  case round=>
    obtain⟨k,v,hk,rfl,a7,Y,N,V⟩:=hrel
    by_cases ap:k<la
    ·
      obtain⟨bb,off,a',l,c,x,rfl,aL,ac,hx,hX,aJ⟩:=(hA.below a7).at_ ap;have al:l<=1000000:=by have:=Ff hM hx;rw[hX.len]at this;exact this
      obtain⟨H,I,rfl,az,hW⟩:=V.wds;have s0:wr.cell? ⟨Z.heap.size,0,O⟩=E (i6 fold):=by simp[cell?,N]
      have s1:wr.cell? ⟨Z.heap.size,1,O⟩=E (T H (AZ fold (wss.take k)).length I):=by simp[cell?,N]
      have ag:(AZ fold (wss.take k)).length<=1000000:=by have:=Nb fold (wss.take k);have:=MU k wss;omega
      have HX:=AA hx;clear hx
      go_wp2_with fail
      refine(ahu fold a' H l c _ I x (AZ fold (wss.take k)) wr hX hW ag (aei _ (λy hy=>hM y (EG hy)))).mono ?_;rintro e U ⟨rfl,s⟩;have a8:La w U:=a7.trans (s.mono a7.size);have C:U.heap[w.heap.size]?=_:=(s.block _ (AD.1 Y).1).trans Y;have B:U.heap[Z.heap.size]?=_:=(s.block _ (AD.1 N).1).trans N;have A:=V.below s;clear V hW N Y s0 s1 ac;have HM:Hid (AZ fold (wss.take (k+1))=GK fold (AZ fold (wss.take k)) x):=by rw[As HX.out,Ka];rfl
      obtain⟨q,hq⟩:∃q,BV fold x (AZ fold (wss.take k))=q:=⟨_,rfl⟩;have HQ:Hid (BV fold x (AZ fold (wss.take k))=q):=hq;rw[hq];clear hq
      by_cases af:0<=q
      ·
        rw[Lc om,Vb af];have HF:Hid (AZ fold (wss.take (k+1))=AZ fold (wss.take k)):=by
          rw[HM.out];unfold GK;rw[HQ.out,Lc om]
          rfl
        go_wp2
        go_roundw
        case rel=>exact⟨k+1,_,by omega,by go_num,a8,C,B,by rw[HF.out];exact A⟩
        case measure=>simp[intOf];omega
      ·
        rw[Lq om,decide_eq_false af];have HF:Hid (AZ fold (wss.take (k+1))=AZ fold (wss.take k)++[AO fold x]):=by
          rw[HM.out];unfold GK;rw[HQ.out,Lq om]
          rfl
        obtain⟨i0,hi,ax,aw,au⟩:=Vh OT;have s1:U.cell? ⟨Z.heap.size,1,O⟩=E (T H (AZ fold (wss.take k)).length I):=by simp[cell?,B]
        obtain⟨es,e1,e2,e3⟩:=A;have aC:∀n,Bys (U.drewN n) a' l x:=λn=>(hX.below s).below ⟨rfl,rfl,rfl,AC _,λ_ _=>rfl⟩;have hd:∀n,La U (U.drewN n):=λn=>⟨rfl,rfl,rfl,AC _,λ_ _=>rfl⟩;obtain⟨m,hm⟩:∃m,(AZ fold (wss.take k)).length=m:=⟨_,rfl⟩;rw[hm]at s1 B e1 e2 ag⊢;have ae:=AA hm;clear hm;go_wp2;have aB:Bys U.drew a' l x:=aC 1;have ay:La U U.drew:=hd 1
        go_region_law (first
          | (go_simp;go_at_call 134;refine (agG fold a' l c x U.drew aB al).mono ?_;rintro e w3 ⟨a3,c3,rfl,aa,aA⟩
             have a1:La U w3:=ay.trans aA;have a2:=DJ e1 a1;have D:w3.heap[Z.heap.size]?=E (i7 #[i6 fold,T H m I] 24 (0,0)):=(a1.block _ (AD.1 B).1).trans B;have aj:w3.cell? ⟨Z.heap.size,1,O⟩=E (T H m I):=by simp[cell?,D]
             have ar:Z.heap.size<w3.heap.size:=(AD.1 D).1;have aH:Z.heap.size≠w3.heap.size:=by omega
             have aG:w3.heap.size≠Z.heap.size:=by omega
             have aI:(w3.alloc (i7 #[T a3 l c3] 32)).cell? ⟨Z.heap.size,1,O⟩=E (T H m I):=by rw[OH _ _ _ ar];exact aj
             have ao:=Gz a2 D (Kf kr);have J:La w w3:=a8.trans (a1.mono a8.size);dsimp only)
          | (refine step_append_lies _ (by rfl) _ _ 22 (by rfl) w.heap.size 32 i0 (.slice O 0 0) 1 24 underlying22 hi ax aw au rfl (by decide) (.slice H m I) m es (by rfl) (a2.alloc _) ⟨w3.heap.size,0,O⟩ 1 1 [.slice a3 l c3] (by rfl) rfl (cell_one_new _ _ _) (by simp [Value.oneCell']) (by decide) (by unfold maxLen;omega) om (by have:=J.size;simp;omega) _ rfl ?_
             intro g5 c5 w5 ab X aM aK;have a6:w5.heap[Z.heap.size]?=E (i7 #[i6 fold,T H m I] 24 (0,0)):=(X.block _ (by simp;have:=(AD.1 D).1;omega) (Ne.symm ao)).trans ((Bg _ _ _ (AD.1 D).1).trans D);have q0:w5.cell? ⟨Z.heap.size,1,O⟩=E (T H m I):=by simp[cell?,a6]
             have q1:w5.frozen? ⟨Z.heap.size,1,O⟩=M:=by simp[frozen?,a6]))
        all_goals
          go_wp2;have aD:La w w5:=(J.alloc (by have:=J.size;omega) _).grown X (by simp;have:=J.size;omega) (λj hj=>(a2.lt j hj).1);have ak:w5.heap[w.heap.size]?=E (i7 (AM M O 0 0) 24 (0,0)):=by have h3:w3.heap[w.heap.size]?=_:=(a1.block _ (AD.1 C).1).trans C;exact(X.block _ (by simp;have:=(AD.1 h3).1;omega) (Ne.symm (Gz a2 h3 (Kf kr)))).trans ((Bg _ _ _ (AD.1 h3).1).trans h3)
          go_roundw
          case rel=>
            refine⟨k+1,_,by omega,by go_num,aD.setCell (by show w.heap.size<=Z.heap.size;omega) _,(AQ w5 ⟨Z.heap.size,1,O⟩ _ _ (by simp;omega)).trans ak,by simpa using AJ (i:=1) a6 (.slice (E ⟨g5,0,O⟩) (m+1) c5),?_⟩;rw [HF.out];have am:=BI.step (wss:=AZ fold (wss.take k)) (xs:=AO fold x) (e:=.slice a3 l c3) (es:=es) (v:=.slice H m I) (by rw [ae.out];exact a2.alloc _) (by rw [ae.out];exact e2)
              (λi e xs he hx=>⟨DJ (DJ (e3 i e xs he hx).1 a1) ((AH _ _).alloc (AC _) _),(e3 i e xs he hx).2⟩) (by rw[Ew,hX.len];exact(abR (aa.alloc _) (by have:=a8.size;simpa using this))) (MD hX.2) (by rw[ae.out];exact ab) X
            exact am.turned (BH w5 Z.heap.size 1 _) a6 (Kf kr) (Kf kr)
          case measure=>simp[intOf];omega
    ·
      obtain rfl:k=la:=by omega
      have HF:Hid (wss.take k=wss):=Ap (by have:=HL.out;omega);have s0:wr.cell? ⟨Z.heap.size,0,O⟩=E (i6 fold):=by simp[cell?,N]
      obtain⟨H,I,rfl,az,hW⟩:=V.wds;have s1:wr.cell? ⟨Z.heap.size,1,O⟩=E (T H (AZ fold (wss.take k)).length I):=by simp[cell?,N]
      have z0:wr.cell? ⟨w.heap.size,0,O⟩=E (i6 M):=by simp[cell?,Y]
      have z1:wr.cell? ⟨w.heap.size,1,O⟩=E (T O 0 0):=by simp[cell?,Y]
      have y0:wr.frozen? ⟨w.heap.size,0,O⟩=M:=by simp[frozen?,Y]
      have y1:wr.frozen? ⟨w.heap.size,1,O⟩=M:=by simp[frozen?,Y]
      go_wp2;have C:=AJ (i:=1) (AJ (i:=0) Y (i6 fold)) (T H (AZ fold (wss.take k)).length I);refine Vi (NH rfl rfl (by simpa using C)) rfl ?_;refine⟨_,rfl,?_,(a7.setCell (AC _) _).setCell (AC _) _⟩;have ho:=(V.turned (BH wr w.heap.size 0 (i6 fold)) Y (Kf kr) (Kf kr)).turned (BH _ w.heap.size 1 (T H (AZ fold (wss.take k)).length I)) (AJ (i:=0) Y (i6 fold)) (Kf kr) (Kf kr);rw[HF.out]at ho⊢;exact ho
def An(fold:Bool)(wss:Lb):Bool:=decide (Ey fold wss=0)&&decide (AZ fold wss=wss)
theorem aaM(fold:Bool)(a:Option Addr)(X J:Nat)(wss:Lb)(w:Wa)(hA:Wds w a X wss)(C:X<=1000000)(hM:∀x∈wss,lc x<=1000000)(hT:(Ad fold wss).length<=1000000) :Calls ZP 130 #[i8 (AM fold a X J)] w λe w'=>e=ra (i6 (An fold wss))/\La w w':=by
 have N:La w (w.alloc (i7 (AM fold a X J) 24)):=(AH _ _).alloc (AC _) _;have B:=hA.below N;have H:=AT w (i7 (AM fold a X J) 24)
 by_cases V:Ey fold wss=0
 ·have HR:Hid (An fold wss=DH fold fold (AZ fold wss) wss):=by simp[Hid,An,DH,V]
  go_enter func130,ntmps130
  go_wp2_with fail
  refine(alL fold a X J wss _ B C hM hT V).mono ?_;rintro e Y ⟨v,rfl,I,A⟩;have Z:La w Y:=N.trans (A.mono sm);obtain⟨av,cv,rfl,aa,hW⟩:=I.wds;have h1:Y.heap[w.heap.size]?=_:=(A.block _ sm).trans H;have a6:w.heap.size<Y.heap.size:=(AD.1 h1).1;have c0:Y.cell? ⟨w.heap.size,0,O⟩=E (i6 fold):=by simp[cell?,h1]
  have c1:Y.cell? ⟨w.heap.size,1,O⟩=E (T a X J):=by simp[cell?,h1]
  have D:(AZ fold wss).length<=1000000:=by have:=Nb fold wss;have:=hA.len;omega
  have a7:w.heap.size≠Y.heap.size:=by omega
  have U:La Y (Y.alloc (i7 (AM fold av (AZ fold wss).length cv) 24)):=(AH _ _).alloc (AC _) _;have a1:=hW.below U;have a2:=(hA.below Z).below U;clear V
  go_wp2_with fail
  refine(ajv fold fold av a _ cv X J (AZ fold wss) wss _ a1 a2 D).mono ?_;rintro e w3 ⟨rfl,j⟩;go_wp2;go_ret;exact⟨by rw[HR.out];rfl,Z.trans ((U.trans (j.mono sm)).mono Z.size)⟩
 ·have HR:Hid (An fold wss=M):=by simp[Hid,An,V]
  obtain⟨n,s⟩:∃n,Ey fold wss=n:=⟨_,rfl⟩;have HC:=AA V;have HN:Hid (Ey fold wss=n):=s;rw[s]at V;clear s;have a8:(n==0)=M:=by simp[V]
  go_enter func130,ntmps130
  go_wp2_with fail
  refine(anQ fold a X J wss _ B C hM hT HC.out).mono ?_;rintro e Y ⟨rfl,A⟩;rw[HN.out];have Z:La w Y:=N.trans (A.mono sm);go_wp2;go_ret;exact⟨by rw[HR.out];rfl,Z.alloc Z.size _⟩
def Cs(wss:Lb):Int:=(wss.map λw=>min (lc w:Int) 4000).sum
def Ev(wss:Lb):Bool:=decide (lc wss > 80∨Cs wss > 3000)
theorem aku(l:Lb)(x:List Int):Cs (l++[x])=Cs l+min (lc x:Int) 4000:=by simp[Cs]
theorem aax:∀(l:Lb),0<=Cs l
 |[]=>by simp[Cs]
 |x::l=>by have:=aax l;simp only[Cs,BO,List.sum_cons]at this⊢;omega
theorem afM(l m:Lb):Cs (l++m)=Cs l+Cs m:=by simp[Cs]
theorem ajs(l:Lb)(k:Nat):Cs (l.take k)<=Cs l:=by have h:=afM (l.take k) (l.drop k);rw[Dx]at h;have:=aax (l.drop k);omega
theorem acB(a:Option Addr)(Z ca:Nat)(wss:Lb)(w:Wa)(j:Wds w a Z wss) :Calls ZP 47 #[T a Z ca] w λe w'=>e=ra (i6 (Ev wss))/\w=w':=by
 have HL:=AA j.len;obtain⟨Gf,I⟩:∃Gf,Ev wss=Gf:=⟨_,rfl⟩;have HG:Hid (Ev wss=Gf):=I;rw[I];clear I;go_enter func47,ntmps47;go_wp2
 go_loop[3,4] (λs i=>∃(k:Nat)(n:Int),k<=Z/\k<=81/\i=R K k/\s=R K n/\0<=n/\n<=7000/\Hid (n=Cs (wss.take k))) (λ_ i=>Z-(intOf i).toNat)
 case atStart=>exact⟨0,0,AR _,by omega,rfl,rfl,by omega,by omega,by simp[Hid,Cs]⟩
 case round=>
  obtain⟨k,n,hk,A,rfl,rfl,a6,a2,H⟩:=hrel;have U:¬(k<Z/\k<=80/\n<=3000)->Z<=80->Hid (Gf=decide (n > 3000)):=by
   intro h1 h2;have B:=HL.out;have ht:=ajs wss k;rw[Hid,<-HG.out];unfold Ev
   by_cases C:n > 3000
   ·rw[Vb C,Vb]
    right
    have:=H.out;omega
   ·have ab:k=Z:=by omega
    rw[decide_eq_false C,decide_eq_false];rintro(h|h)
    ·omega
    ·have h3:=H.out;rw[Ap om]at h3;omega
  have X:80<Z->Hid (Gf=G):=by intro h;rw[Hid,<-HG.out];exact Vb (.inl (by have:=HL.out;omega))
  have HF:=AA U;have V:=AA X;clear U X
  by_cases N:k<Z
  ·by_cases ae:k<=80
   ·by_cases a1:n<=3000
    ·obtain⟨bb,off,a',l,c,x,rfl,ac,J,D,v,aa⟩:=j.at_ N;have HS:Hid (n+min (l:Int) 4000=Cs (wss.take (k+1))):=by rw[Hid,As D,aku,v.len,H.out]
     clear D v;have a8:0<=min (l:Int) 4000:=by omega
     have a7:min (l:Int) 4000<=4000:=by omega
     go_wp2
     go_round
     case rel=>exact⟨k+1,_,by omega,by omega,by go_num,rfl,by omega,by omega,HS⟩
     case measure=>simp[intOf];omega
    ·by_cases h8:Z<=80
     ·have Y:=HF.out om h8;go_wp2;go_ret;exact⟨by rw[Y.out];simp;try omega,rfl⟩
     ·have Y:=V.out om;go_wp2;go_ret;exact⟨by rw[Y.out];simp;try omega,rfl⟩
   ·have Y:=V.out om;go_wp2;go_ret;exact⟨by rw[Y.out];simp;try omega,rfl⟩
  ·by_cases h8:Z<=80
   ·have Y:=HF.out om h8;go_wp2;go_ret;exact⟨by rw[Y.out];simp;try omega,rfl⟩
   ·have Y:=V.out om;go_wp2;go_ret;exact⟨by rw[Y.out];simp;try omega,rfl⟩
theorem ai3(fold:Bool)(a:Option Addr)(Y V:Nat)(wss:Lb)(w:Wa)(U:Wds w a Y wss) :Calls ZP 45 #[i8 (AM fold a Y V)] w λe w'=>e=ra (i6 (Ev wss))/\La w w':=by
 have Z:La w (w.alloc (i7 (AM fold a Y V) 24)):=(AH _ _).alloc (AC _) _;have X:=U.below Z;go_enter func45,ntmps45
 go_wp2_with fail
 refine(acB a Y V wss _ X).mono ?_;rintro e N ⟨rfl,rfl⟩;go_wp2;go_ret;exact⟨rfl,Z⟩
theorem aga(fold:Bool)(a:Option Addr)(Z H:Nat)(wss:Lb)(w:Wa)(N:Wds w a Z wss)(B:Z<=1000000) :Calls ZP 57 #[i8 (AM fold a Z H)] w λe w'=>e=ra (R K (Au wss))/\La w w':=by
 have Y:La w (w.alloc (i7 (AM fold a Z H) 24)):=(AH _ _).alloc (AC _) _;have U:=N.below Y;have j:=AA N.len;clear N;go_enter func57,ntmps57;go_wp2
 go_loop[3,4] (λs i=>∃(k:Nat)(n:Int),k<=Z/\i=R K k/\s=R K n/\Hid (n=Au (wss.take k))) (λ_ i=>Z-(intOf i).toNat)
 case atStart=>exact⟨0,0,AR _,rfl,rfl,by simp[Hid,Au]⟩
 case round=>
  obtain⟨k,n,hk,rfl,rfl,D⟩:=hrel
  by_cases X:k<Z
  ·obtain⟨bb,off,a',l,c,x,rfl,A,V,J,I,C⟩:=U.at_ X;have v:Hid (max n (l:Int)=Au (wss.take (k+1))):=by rw[Hid,As J,acO,I.len,D.out]
   clear J I;go_wp2
   go_round
   case rel=>exact⟨k+1,_,by omega,by go_num,rfl,v⟩
   case measure=>simp[intOf];omega
  ·obtain rfl:k=Z:=by omega
   have HF:Hid (n=Au wss):=by
    have h:=D.out
    rwa[Ap (by have:=j.out;omega)]at h
   go_wp2;go_ret;exact⟨by rw[<-HF.out];rfl,Y⟩
def Dq:List Int->List Int->Nat
 |x::xs,y::ys=>if x=y then Dq xs ys+1 else 0
 |_,_=>0
theorem ab1:∀{k:Nat}{xs ys:List Int},k<=lc xs->k<=lc ys->xs.take k=ys.take k->(k=lc xs∨k=lc ys∨∃x y,xs[k]?=E x/\ys[k]?=E y/\x≠y)->Dq xs ys=k
 |0,[],ys,_,_,_,_=>by simp[Dq]
 |0,x::xs,[],_,_,_,_=>by simp[Dq]
 |0,x::xs,y::ys,_,_,_,h=>by
  rcases h with h|h|⟨a,b,ha,Y,Z⟩
  ·simp at h
  ·simp at h
  ·simp at ha Y;subst ha Y;simp[Dq,Z]
 |k+1,[],ys,h,_,_,_=>by simp at h
 |k+1,x::xs,[],_,h,_,_=>by simp at h
 |k+1,x::xs,y::ys,h1,h2,h3,h4=>by simp only[List.take_succ_cons,MY]at h3;have X:=ab1 (k:=k) (xs:=xs) (ys:=ys) (by simpa using h1) (by simpa using h2) h3.2 (by simpa using h4);simp[Dq,h3.1,X]
theorem ail(a b:Option Addr)(X ca V cb:Nat)(xs ys:List Int)(w:Wa)(hA:Bys w a X xs)(hB:Bys w b V ys)(a6:X<=1000000)(a2:V<=1000000) :Calls ZP 213 #[T a X ca,T b V cb] w λe w'=>e=ra (R K (Dq xs ys))/\La w w':=by
 have s:=AA hA.len;have v:=AA hB.len;go_enter func213,ntmps213;go_wp2
 go_loopw[5] (λi wr=>∃k:Nat,k<=X/\k<=V/\i=R K k/\Hid (xs.take k=ys.take k)/\La w wr) (λi _=>X-(intOf i).toNat)
 case atStart=>exact⟨0,AR _,AR _,rfl,by simp[Hid],AH _ _⟩
 case round=>
  obtain⟨k,a8,a7,rfl,HK,U⟩:=hrel;have Z:∀n,La w (wr.drewN n):=λn=>U.trans ⟨rfl,rfl,rfl,AC _,λ_ _=>rfl⟩;have Y:(k=X∨k=V∨∃x y,xs[k]?=E x/\ys[k]?=E y/\x≠y)->Hid (Dq xs ys=k):=λh=>ab1 (by have:=s.out;omega) (by have:=v.out;omega) HK (by rw[s.out,v.out];exact h);have j:=AA Y;clear Y
  by_cases h1:k<X
  ·by_cases h2:k<V
   ·obtain⟨x,A⟩:∃x,xs[k]?=E x:=⟨xs[k]'(by rw[s.out];exact h1),by simp⟩;obtain⟨y,B⟩:∃y,ys[k]?=E y:=⟨ys[k]'(by rw[v.out];exact h2),by simp⟩;obtain⟨ba,oa,rfl,ab,I⟩:=(hA.below U).1.2.resolve_left om;obtain⟨bb,ob,rfl,aa,J⟩:=(hB.below U).1.2.resolve_left om;have cx:=I k x A;have cy:=J k y B;have D:=AA A;have H:=AA B;clear A B I J
    by_cases N:x=y
    ·subst N;have a1:Hid (xs.take (k+1)=ys.take (k+1)):=by rw[As D.out,As H.out,HK.out];rfl
     go_wp2
     go_quiet (fail)
     go_wp2
     go_roundw
     case rel=>exact⟨k+1,by omega,by omega,by go_num,a1,Z _⟩
     case measure=>simp[intOf];omega
    ·have C:=j.out (.inr (.inr ⟨x,y,D.out,H.out,N⟩));go_wp2
     go_quiet (fail)
     go_wp2;go_ret;exact⟨by rw[C.out];rfl,Z _⟩
   ·obtain rfl:k=V:=by omega
    have C:=j.out (.inr (.inl rfl));go_wp2
    go_quiet (fail)
    go_wp2;go_ret;exact⟨by rw[C.out];rfl,Z _⟩
  ·obtain rfl:k=X:=by omega
   have C:=j.out (.inl rfl);go_wp2
   go_quiet (fail)
   go_wp2;go_ret;exact⟨by rw[C.out];rfl,Z _⟩
def Dk(fold:Bool)(Z:Lb)(x:List Int):Int:=Z.foldl (λm y=>max m (Dq (AO fold x) (AO fold y):Int)) 0
def IB(fold:Bool):Lb->Lb->Int->Int
 |_,[],n=>n
 |pre,x::rest,n=>IB fold (pre++[x]) rest (n+lc x-Dk fold pre x)
def Cl(fold:Bool)(wss:Lb):Int:=IB fold [] wss 1
theorem abp(fold:Bool)(Z:Lb)(x y:List Int):Dk fold (Z++[y]) x=max (Dk fold Z x) (Dq (AO fold x) (AO fold y):Int):=by simp[Dk,FI]
theorem abO(fold:Bool):∀(rest Z:Lb)(x:List Int)(n:Int),IB fold Z (rest++[x]) n=IB fold Z rest n+lc x-Dk fold (Z++rest) x
 |[],Z,x,n=>by simp[IB]
 |y::rest,Z,x,n=>by rw[CT,IB,IB,abO fold rest (Z++[y]) x];simp
theorem aar(fold:Bool)(l:Lb)(x:List Int):Cl fold (l++[x])=Cl fold l+lc x-Dk fold l x:=by unfold Cl;rw[abO,Av]
theorem acp:∀(xs ys:List Int),Dq xs ys<=lc xs
 |[],_=>by simp[Dq]
 |_::_,[]=>by simp[Dq]
 |x::xs,y::ys=>by
  have:=acp xs ys;unfold Dq
  split<;>simp<;>omega
theorem afp(fold:Bool)(x:List Int)(Z:Lb):0<=Dk fold Z x/\Dk fold Z x<=lc x:=by
 obtain⟨n,X⟩:∃n,lc Z=n:=⟨_,rfl⟩
 induction n generalizing Z with
 |zero=>obtain rfl:=Bz X;simp[Dk]
 |succ n ih=>
  obtain⟨Y,y,rfl⟩:∃Y y,Z=Y++[y]:=⟨Z.dropLast,Z.getLast (by intro h;simp[h]at X),(Em _).symm⟩;have h1:=ih Y (by simpa using X);have h2:=acp (AO fold x) (AO fold y);rw[Ew]at h2;rw[abp];omega
theorem ajH{fold:Bool}{MH:Nat}(l:Lb)(h:∀x∈l,lc x<=MH):1<=Cl fold l/\Cl fold l<=1+lc l*(MH:Int):=by
 obtain⟨n,Y⟩:∃n,lc l=n:=⟨_,rfl⟩
 induction n generalizing l with
 |zero=>obtain rfl:=Bz Y;simp[Cl,IB]
 |succ n ih=>
  obtain⟨Z,x,rfl⟩:∃Z x,l=Z++[x]:=⟨l.dropLast,l.getLast (by intro h;simp[h]at Y),(Em _).symm⟩;have h1:=ih Z (λy X=>h y (by simp[X])) (by simpa using Y);have h2:=afp fold x Z;have V:=h x sm;rw[aar];have e:((Z++[x]).length:Int)*(MH:Int)=lc Z*(MH:Int)+MH:=by rw[List.length_append,Ao,Bw,LK,Jr];simp
  rw[e];omega
theorem amU(fold:Bool)(a:Option Addr)(Z N:Nat)(xs:List Int)(w:Wa)(U:Bys w a Z xs)(V:Z<=1000000) :Calls ZP 124 #[i6 fold,T a Z N] w λe w'=>∃X c1,e=ra (T X Z c1)/\Bys w' X Z (AO fold xs)/\La w w':=
 (ags fold a Z N xs w U V).mono λe w' ⟨v,J,Y,I⟩=>by obtain⟨X,c1,rfl,_,h⟩:=KL Y (MD U.2);exact⟨X,c1,J,h,I⟩
theorem ahl(fold:Bool)(a:Option Addr)(D ca:Nat)(wss:Lb)(w:Wa)(hA:Wds w a D wss)(ax:D<=1000000)(hM:∀x∈wss,lc x<=1000000) :Calls ZP 174 #[i6 fold,T a D ca] w λe w'=>e=ra (R K (Cl fold wss))/\La w w':=by
  have HL:=AA hA.len;have HM:=AA hM;have HA:=AA hA;clear hA hM;go_enter func174,ntmps174;go_wp2
  go_loopw[5,6] (λs i wr=>∃(k:Nat)(n:Int),k<=D/\i=R K k/\s=R K n/\Hid (n=Cl fold (wss.take k))/\La w wr) (λ_ i _=>D-(intOf i).toNat)
  case atStart=>exact⟨0,1,AR _,rfl,rfl,by simp[Hid,Cl,IB],AH _ _⟩
  case round=>
    obtain⟨k,n,hk,rfl,rfl,HN,Z⟩:=hrel
    by_cases ai:k<D
    ·
      obtain⟨A,off,a',l,c,x,rfl,aj,V,hx,hX,aw⟩:=HA.out.at_ ai;have a7:l<=1000000:=by have:=Ff HM.out hx;rw[hX.len]at this;exact this
      have HX:=AA hx;have B:=AA hX;have J:∀v:Wa,La w v->v.cell? ⟨A,off+k,O⟩=E (T a' l c):=λv hv=>(hv.cell (p:=⟨A,off+k,O⟩) aj).trans V;have H:=AA J;clear hx hX J V;go_wp2
      go_loopw[7,8] (λo i wr=>∃(j:Nat)(m:Int),j<=k/\i=R K j/\o=R K m/\Hid (m=Dk fold (wss.take j) x)/\La w wr) (λ_ i _=>k-(intOf i).toNat)
      case atStart=>exact⟨0,0,AR _,rfl,rfl,by simp[Hid,Dk],Z⟩
      case round=>
        clear Z;obtain⟨j,m,hj,rfl,rfl,HO,Z⟩:=hrel
        by_cases ay:j<k
        ·
          obtain⟨b2,aq,a2,l2,c2,y,e2,a8,X,hy,hY,au⟩:=HA.out.at_ (show j<D by omega);simp only[DC,Addr.mk.injEq,and_true]at e2;obtain⟨rfl,rfl⟩:=e2;have a6:l2<=1000000:=by have:=Ff HM.out hy;rw[hY.len]at this;exact this
          have N:Hid (∀v:Wa,La w v->v.cell? ⟨A,off+j,O⟩=E (T a2 l2 c2)):=λv hv=>(hv.cell (p:=⟨A,off+j,O⟩) a8).trans X;have HS:Hid (max m (Dq (AO fold x) (AO fold y):Int)=Dk fold (wss.take (j+1)) x):=by rw[Hid,HO.out,As (show wss[j]?=E y from hy),abp]
          have ap:=AA hY;clear X hy hY;have ac:Bys wr.drew a' l x:=B.out.below (Z.trans ⟨rfl,rfl,rfl,AC _,λ_ _=>rfl⟩);have ae:La w wr.drew:=Z.trans ⟨rfl,rfl,rfl,AC _,λ_ _=>rfl⟩;have k1:=H.out wr Z;have k2:=N.out wr Z;have i1:(0:Int)<=(j:Int):=by omega
          have i2:(j:Int)<(D:Int):=by omega
          have i3:(0:Int)<=(k:Int):=by omega
          have i4:(k:Int)<(D:Int):=by omega
          go_wp2
          go_region_held3 (λw'=>w'.cell? ⟨A,off+k,O⟩=E (.slice a' l c)/\w'.cell? ⟨A,off+j,O⟩=E (.slice a2 l2 c2)) (go_keep) (first
            | (go_at_call 124;refine (amU fold a' l c x wr.drew ac a7).mono ?_;rintro e w1 ⟨a1,c1,rfl,ao,al⟩
               have Y:La w w1:=ae.trans (al.mono ae.size);have d1:=H.out w1 Y;have d2:=N.out w1 Y;have ab:=ap.out.below Y;clear ac)
            | (go_at_call 124;refine (amU fold a2 l2 c2 y w1 ab a6).mono ?_;rintro e w2 ⟨a3,c3,rfl,am,aa⟩
               have U:La w w2:=Y.trans (aa.mono Y.size);have d3:=H.out w2 U;have d4:=N.out w2 U;have af:=ao.below aa;clear ab)
            | (go_at_call 213;refine (ail a1 a3 l c1 l2 c3 _ _ w2 af am a7 a6).mono ?_;rintro e w3 ⟨rfl,ak⟩
               have I:La w w3:=U.trans (ak.mono U.size);have d5:=H.out w3 I;have d6:=N.out w3 I))
          all_goals
            go_wp2
            go_roundw
            case rel=>exact⟨j+1,_,by omega,by go_num,rfl,HS,I⟩
            case measure=>simp[intOf];omega
        ·
          obtain rfl:j=k:=by omega
          have ag:=afp fold x (wss.take j);have C:=ajH (fold:=fold) (MH:=1000000) (wss.take j) (λy hy=>HM.out y (EG hy));rw[<-HO.out,B.out.len]at ag;rw[<-HN.out,Ag]at C;have ar:n<=1+1000000*1000000:=by omega
          have HS:Hid (n+(l:Int)-m=Cl fold (wss.take (j+1))):=by rw[Hid,As HX.out,aar,B.out.len,<-HN.out,<-HO.out]
          have k1:=H.out wr Z;have av:=C.1;clear C;go_wp2
          go_roundw
          case rel=>exact⟨j+1,_,by omega,by go_num,rfl,HS,Z⟩
          case measure=>simp[intOf];omega
    ·
      obtain rfl:k=D:=by omega
      have HF:Hid (n=Cl fold wss):=by
        have h:=HN.out
        rwa[Ap (by have:=HL.out;omega)]at h
      go_wp2;go_ret;exact⟨by rw[<-HF.out];rfl,Z⟩
end Go.Proofs.YtaamacoicojhnaaGreat
