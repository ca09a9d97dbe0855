/- Proofs over the given program, part 1. -/
import Derived.Test.YtaamacoicojhnaaGreatProg
import Derived.Test.YtaamacoicojhnaaGreatRows
import Derived.BigQuiet
import Derived.BigRegion
import Derived.ChangeKeysEq
import Derived.ChangeOld
import Derived.Deep.AppendLies
import Derived.Deep.CutBlock
import Derived.Deep.DeepCutAuto
import Derived.Deep.DrawnRows
import Derived.Deep.Matrix
import Derived.Deep.MidRow
import Derived.Deep.QuietTactic
import Derived.Deep.RegionHeld3
import Derived.Deep.RegionLaw
import Derived.Deep.RegionWith
import Derived.Deep.WholeRow
import Derived.DeepKeys5
import Derived.IntWalk
import Derived.Laws.BytesArg
import Derived.Laws.CopyRow
import Derived.Laws.MakeOwn
import Derived.Laws.OwnMore
import Derived.Laws.StructEq
import Derived.Lib.Hide
import Derived.Lib.MinMax
import Derived.Lib.OwnKind
import Derived.Lib.QuietBelow
import Derived.Lib.QuietBelowIn
import Derived.Lib.SlBytesConst
import Derived.Lib.SmallJoins
import Derived.LoopIn
import Derived.LoopNIn
import Derived.MapKept
import Derived.Maps.AppendAt
import Derived.Maps.Own
import Derived.Maps.OwnIn
import Derived.Maps.OwnOps
import Derived.Maps.OwnSet
import Derived.Maps.Views
import Derived.OpenShut
import Derived.OwnWalk
import Derived.OwnWalkIn
import Derived.ProofKit
import Derived.RangeFuncBound
import Derived.RangeFuncBox
import Derived.RangeFuncCalls
import Derived.RangeFuncLeaves
import Derived.RangeFuncNested
import Derived.RangeFuncWrites
import Derived.Shelf.Abstract
import Derived.Shelf.RegionOpen
import Derived.Shelf.SlGeneric
import Derived.Shelf.SlLaysF
import Derived.Shelf.SlSortCmp.NoneTotal
import Derived.Shelf.Small.Strs
import Derived.ShutString
import Derived.StillTail
import Derived.StillTailTactics
import Derived.Stop.Walk2
import Derived.StringKeys
import Derived.TacticsIn
import Derived.TacticsInMore
import Derived.WalkKit
import Derived.WalkLawsBesides
set_option linter.unusedVariables false
set_option linter.unusedSimpArgs false
set_option maxRecDepth 100000
set_option maxHeartbeats 16000000
open Go.Proofs.Tryz
open Go.Proofs.Tryz renaming prog→ZP
namespace Go.Proofs.YtaamacoicojhnaaGreat
open Go.RowKit Go.Sort
theorem awO:type_of% @Tryz.underlying3:=@Tryz.underlying3
theorem awP:type_of% @Tryz.underlying30:=@Tryz.underlying30
theorem awQ:type_of% @World.block_lt_of_cell?:=@World.block_lt_of_cell?
theorem awR:type_of% @List.getElem?_eq_some_iff:=@List.getElem?_eq_some_iff
theorem awS:type_of% @List.getElem?_take:=@List.getElem?_take
theorem awT:type_of% @Nat.le_trans:=@Nat.le_trans
theorem awU:type_of% @Array.getElem?_eq_some_iff:=@Array.getElem?_eq_some_iff
theorem awV:type_of% @Option.some.inj:=@Option.some.inj
theorem awW:type_of% @Option.map_some:=@Option.map_some
theorem awX:type_of% @Sem.run_bind:=@Sem.run_bind
theorem awY:type_of% @Sem.run_pure:=@Sem.run_pure
theorem awZ:type_of% @List.map_toArray:=@List.map_toArray
theorem ax0:type_of% @List.map_cons:=@List.map_cons
theorem ax1:type_of% @List.map_nil:=@List.map_nil
theorem ax2:type_of% @IntKind.wrap_i64:=@IntKind.wrap_i64
theorem ax3:type_of% @Lib.hid:=@Lib.hid
theorem ax4:type_of% @NoPanic.normal:=@NoPanic.normal
theorem ax5:type_of% @Oper.semAt_some:=@Oper.semAt_some
theorem ax6:type_of% @Nat.lt_of_lt_of_le:=@Nat.lt_of_lt_of_le
theorem ax7:type_of% @World.size_alloc:=@World.size_alloc
theorem ax8:type_of% @List.getElem?_append_left:=@List.getElem?_append_left
theorem ax9:type_of% @List.getElem?_toArray:=@List.getElem?_toArray
theorem axa:type_of% @List.getElem?_map:=@List.getElem?_map
theorem axb:type_of% @List.length_set:=@List.length_set
theorem axc:type_of% @List.map_set:=@List.map_set
theorem axd:type_of% @Nat.le_of_lt:=@Nat.le_of_lt
theorem axe:type_of% @Nat.le_refl:=@Nat.le_refl
theorem axf:type_of% @Below.refl:=@Below.refl
theorem axg:type_of% @World.alloc_heap_new:=@World.alloc_heap_new
theorem axh:type_of% @Nat.zero_le:=@Nat.zero_le
theorem axi:type_of% @Below.heap_alloc:=@Below.heap_alloc
theorem axj:type_of% @List.length_take_le:=@List.length_take_le
theorem axk:type_of% @List.mem_of_mem_take:=@List.mem_of_mem_take
theorem axl:type_of% @World.cell?_alloc_lt:=@World.cell?_alloc_lt
theorem axm:type_of% @Tryz.underlying22:=@Tryz.underlying22
theorem axn:type_of% @Below.heap_setCell:=@Below.heap_setCell
theorem axo:type_of% @List.take_of_length_le:=@List.take_of_length_le
theorem axp:type_of% @World.cell?_of_block:=@World.cell?_of_block
theorem axq:type_of% @Bool.eq_iff_iff:=@Bool.eq_iff_iff
theorem axr:type_of% @Int.eq_ofNat_of_zero_le:=@Int.eq_ofNat_of_zero_le
theorem axs:type_of% @Int.toNat_natCast:=@Int.toNat_natCast
theorem axv:type_of% @AllReadyH.cons:=@AllReadyH.cons
theorem axw:type_of% @AllReadyH.nil:=@AllReadyH.nil
theorem axx:type_of% @Array.setIfInBounds_comm:=@Array.setIfInBounds_comm
theorem axy:type_of% @Array.getElem?_modify:=@Array.getElem?_modify
theorem axz:type_of% @Nat.zero_add:=@Nat.zero_add
theorem axA:type_of% @Nat.mul_le_mul:=@Nat.mul_le_mul
theorem axB:type_of% @Int.natCast_mul:=@Int.natCast_mul
theorem axC:type_of% @List.length_replicate:=@List.length_replicate
theorem axD:type_of% @List.map_congr_left:=@List.map_congr_left
theorem axE:type_of% @List.mem_map:=@List.mem_map
theorem axF:type_of% @List.cons.injEq:=@List.cons.injEq
theorem axG:type_of% @List.mem_cons:=@List.mem_cons
theorem axH:type_of% @List.take_add_one:=@List.take_add_one
theorem axI:type_of% @List.take_append_drop:=@List.take_append_drop
theorem axJ:type_of% @List.foldl_append:=@List.foldl_append
theorem axL:type_of% @Nat.le_of_eq:=@Nat.le_of_eq
theorem axP:type_of% @Tryz.underlying69:=@Tryz.underlying69
theorem axQ:type_of% @List.getElem?_cons_zero:=@List.getElem?_cons_zero
theorem axR:type_of% @List.getElem?_cons_succ:=@List.getElem?_cons_succ
theorem axS:type_of% @List.getElem?_range:=@List.getElem?_range
theorem axT:type_of% @List.size_toArray:=@List.size_toArray
theorem axU:type_of% @List.length_cons:=@List.length_cons
theorem axV:type_of% @List.length_nil:=@List.length_nil
theorem axW:type_of% @Array.replicate_succ:=@Array.replicate_succ
theorem axX:type_of% @Array.replicate_zero:=@Array.replicate_zero
theorem axY:type_of% @List.push_toArray:=@List.push_toArray
theorem axZ:type_of% @List.append_toArray:=@List.append_toArray
theorem ay0:type_of% @List.nil_append:=@List.nil_append
theorem ay1:type_of% @List.cons_append:=@List.cons_append
theorem ay2:type_of% @Int.tmod_eq_emod_of_nonneg:=@Int.tmod_eq_emod_of_nonneg
theorem ay3:type_of% @Nat.mod_lt:=@Nat.mod_lt
theorem ay4:type_of% @List.getElem?_eq_getElem:=@List.getElem?_eq_getElem
theorem ay5:type_of% @List.getD_eq_getElem?_getD:=@List.getD_eq_getElem?_getD
theorem ay6:type_of% @List.length_take:=@List.length_take
theorem ay7:type_of% @List.map_append:=@List.map_append
theorem ay8:type_of% @List.eq_of_mem_replicate:=@List.eq_of_mem_replicate
theorem ay9:type_of% @List.mem_of_getElem?:=@List.mem_of_getElem?
theorem aya:type_of% @Nat.mul_one:=@Nat.mul_one
theorem ayb:type_of% @Tryz.underlying32:=@Tryz.underlying32
theorem ayc:type_of% @Nat.add_zero:=@Nat.add_zero
theorem ayd:type_of% @List.mem_append:=@List.mem_append
theorem aye:type_of% @List.getElem?_modify:=@List.getElem?_modify
theorem ayf:type_of% @List.replicate_succ:=@List.replicate_succ
theorem ayg:type_of% @List.set_append_right:=@List.set_append_right
theorem ayh:type_of% @Nat.sub_self:=@Nat.sub_self
theorem ayi:type_of% @List.append_assoc:=@List.append_assoc
theorem ayj:type_of% @List.append_nil:=@List.append_nil
theorem ayk:type_of% @List.eq_nil_of_length_eq_zero:=@List.eq_nil_of_length_eq_zero
theorem ayl:type_of% @World.grownBy_alloc:=@World.grownBy_alloc
theorem aym:type_of% @World.putObj_heap_same:=@World.putObj_heap_same
theorem ayn:type_of% @World.putObj_heap_other:=@World.putObj_heap_other
theorem ayo:type_of% @List.mem_flatMap:=@List.mem_flatMap
theorem ayp:type_of% @List.mem_singleton:=@List.mem_singleton
theorem ayq:type_of% @List.length_map:=@List.length_map
theorem ayr:type_of% @Option.getD_some:=@Option.getD_some
theorem ays:type_of% @List.pairwise_cons:=@List.pairwise_cons
theorem ayt:type_of% @List.range_succ:=@List.range_succ
theorem ayu:type_of% @List.count_append:=@List.count_append
theorem ayv:type_of% @Classical.byContradiction:=@Classical.byContradiction
theorem ayw:type_of% @Option.map_eq_some_iff:=@Option.map_eq_some_iff
theorem ayx:type_of% @List.length_eq_zero_iff:=@List.length_eq_zero_iff
theorem ayy:type_of% @World.ownsRow_nil:=@World.ownsRow_nil
theorem ayz:type_of% @Bool.and_eq_true:=@Bool.and_eq_true
theorem ayA:type_of% @List.any_eq_true:=@List.any_eq_true
theorem ayB:type_of% @List.getElem?_of_mem:=@List.getElem?_of_mem
theorem ayC:type_of% @Bool.true_and:=@Bool.true_and
theorem ayD:type_of% @List.setIfInBounds_toArray:=@List.setIfInBounds_toArray
theorem ayE:type_of% @List.getElem?_set_self:=@List.getElem?_set_self
theorem ayF:type_of% @List.getElem?_set_ne:=@List.getElem?_set_ne
theorem ayG:type_of% @List.length_pos_iff:=@List.length_pos_iff
theorem ayH:type_of% @List.getElem?_set:=@List.getElem?_set
theorem ayI:type_of% @KeepsOthers.setCell:=@KeepsOthers.setCell
theorem ayJ:type_of% @List.getElem?_replicate:=@List.getElem?_replicate
theorem ayK:type_of% @List.getElem?_concat_length:=@List.getElem?_concat_length
theorem ayL:type_of% @Value.slice.injEq:=@Value.slice.injEq
theorem ayM:type_of% @List.mem_cons_of_mem:=@List.mem_cons_of_mem
theorem ayN:type_of% @Option.some.injEq:=@Option.some.injEq
theorem ayO:type_of% @List.dropLast_concat_getLast:=@List.dropLast_concat_getLast
theorem ayP:type_of% @List.getElem?_drop:=@List.getElem?_drop
theorem ayQ:type_of% @List.mem_of_mem_drop:=@List.mem_of_mem_drop
theorem ayR:type_of% @Nat.add_sub_cancel:=@Nat.add_sub_cancel
theorem ayS:type_of% @List.take_length:=@List.take_length
theorem ayT:type_of% @Tryz.underlying5:=@Tryz.underlying5
theorem ayU:type_of% @Prod.mk.injEq:=@Prod.mk.injEq
theorem ayV:type_of% @World.ownsMap_made:=@World.ownsMap_made
theorem ayW:type_of% @Tryz.underlying4:=@Tryz.underlying4
theorem ayX:type_of% @List.ext_getElem?:=@List.ext_getElem?
theorem ayY:type_of% @Int.mul_le_mul_of_nonneg_left:=@Int.mul_le_mul_of_nonneg_left
theorem ayZ:type_of% @RowKit.Below.refl:=@RowKit.Below.refl
theorem az0:type_of% @List.getElem?_eq_none:=@List.getElem?_eq_none
theorem az1:type_of% @Int.add_mul:=@Int.add_mul
theorem az2:type_of% @Int.natCast_add:=@Int.natCast_add
theorem az3:type_of% @List.count_nil:=@List.count_nil
theorem az4:type_of% @List.count_pos_iff:=@List.count_pos_iff
theorem az5:type_of% @Option.bind_eq_some_iff:=@Option.bind_eq_some_iff
theorem az6:type_of% @Nat.lt_or_ge:=@Nat.lt_or_ge
theorem az7:type_of% @List.getLast?_eq_some_getLast:=@List.getLast?_eq_some_getLast
theorem az8:type_of% @Option.bind_some:=@Option.bind_some
theorem az9:type_of% @List.getElem?_append_right:=@List.getElem?_append_right
theorem aza:type_of% @List.length_singleton:=@List.length_singleton
theorem azb:type_of% @Tryz.underlying389:=@Tryz.underlying389
theorem azc:type_of% @List.dropLast_concat:=@List.dropLast_concat
theorem azd:type_of% @List.getElem?_take_of_lt:=@List.getElem?_take_of_lt
theorem aze:type_of% @List.count_singleton:=@List.count_singleton
theorem azf:type_of% @List.perm_iff_count:=@List.perm_iff_count
theorem azg:type_of% @Nat.mul_le_mul_right:=@Nat.mul_le_mul_right
theorem azh:type_of% @Tryz.underlying9:=@Tryz.underlying9
theorem azi:type_of% @World.cell?_setCell_far:=@World.cell?_setCell_far
theorem azj:type_of% @Int.mul_nonneg:=@Int.mul_nonneg
theorem azk:type_of% @Tryz.func276:=@Tryz.func276
theorem azl:type_of% @Tryz.ntmps276:=@Tryz.ntmps276
section
open Go Go.RowKit Go.Sort
/-! ### plain -/
section plain
variable {P:Program}{ops:Array Oper}{md:Region.Mode}{C:World->Prop}
def apy (P:Program)(md:Region.Mode)(ops:Array Oper)(C:World->Prop)(m:Nat)(L:Array Bool->Act->Prop):Nat->Array Bool->Act->Prop
 | 0,Z,a=>L Z a
 | f+1,Z,a=>Region.ready md ops Z≠[]/\∀i∈Region.ready md ops Z,i<m/\qOp P ops C i (apy P md ops C m L f (Z.setIfInBounds i true)) a
theorem afK {m g:Nat}{L:Array Bool->Act->Prop}{Q':Exit->Act->World->Prop}(X:∀Z a w,C w->L Z a->wpAny P md ops Q' g Z a w) :
  ∀(f:Nat) (Z:Array Bool) (a:Act) (w:World),C w->apy P md ops C m L f Z a->wpAny P md ops Q' (f+g) Z a w
 | 0,Z,a,w,hw,h=>by rw [axz];exact X _ _ _ hw h
 | f+1,Z,a,w,hw,h=>by
  rw [show f+1+g=(f+g)+1 by omega];exact⟨fun h0=>absurd h0 h.1,fun i V=>wpOp_of_qOp hw (fun N w' Y U=>afK X f _ N w' Y U) (h.2 i V).2⟩
theorem alt {m i:Nat}{s:Oper}{v:Value}{L:Array Bool->Act->Prop}(hi:ops[i]?=some s)(I:∀(j:Nat) (o:Oper) cs b,ops[j]?=some o->o.op≠.select cs b)
  (hs:Region.sinkB md ops m=true) (hc:Region.chainB md ops m=true) (hm:m<ops.size) (a6:i<m)
  (hdone:∀Z a,L Z a->∀j∈Region.ready md ops Z,m<=j) :
  ∀(f:Nat) (Z:Array Bool) (a:Act),HeadInv md ops m Z->
   (∀j z,ops[j]?=some z->j≠i->Z.getD j true=false->(∀e∈z.after,Region.binds md e=true->e.on≠i)->s.apart ops z=true)->
   i∈Region.ready md ops Z->YieldsIn P ops C s v a->
   apy P md ops C m L f (Z.setIfInBounds i true) (a.put s.dst v)->apy P md ops C m L (f+1) Z a:=by
 intro f
 induction f with
 | zero=>
  intro Z a V _ D hy H;have U:=(mem_ready.1 D).1;refine⟨fun h=>(by rw [h] at D;cases D),fun j x=>?_⟩;have N:j<m:=by
   rcases az6 j m with h | h
   · exact h
   · exact absurd x (tail_waits hs hc hm V _ i rfl a6 U j h)
  refine⟨N,?_⟩
  by_cases Y:j=i
  · subst Y;exact hy.qOp hi H
  · have:=hdone _ _ H j (ready_mono x Y);omega
 | succ f ih=>
  intro Z a V X D hy H;have U:=(mem_ready.1 D).1;refine⟨fun h=>(by rw [h] at D;cases D),fun j x=>?_⟩;have N:j<m:=by
   rcases az6 j m with h | h
   · exact h
   · exact absurd x (tail_waits hs hc hm V _ i rfl a6 U j h)
  refine⟨N,?_⟩
  by_cases Y:j=i
  · subst Y;exact hy.qOp hi H
  ·
   have h1:=(H.2 j (ready_mono x Y)).2;obtain⟨A,z,y,a7⟩:=mem_ready.1 x;have a1:∀e∈z.after,Region.binds md e=true->e.on≠i:=fun e he hb ab=>by
    have h1:=a7 e he hb;rw [ab,getD_both U] at h1
    cases h1
   have h2:=qOp_put y (X j z y Y A a1) (fun cs b=>I i s cs b hi) (fun cs b=>I j z cs b y) hy h1;have J:∀k ok,ops[k]?=some ok->k≠i->(Z.setIfInBounds j true).getD k true=false->
     (∀e∈ok.after,Region.binds md e=true->e.on≠i)->s.apart ops ok=true:=fun k ok hk aa B a8=>by
    refine X k ok hk aa ?_ a8
    by_cases a2:j=k
    · subst a2;exact A
    · rw [getD_set_ne true a2] at B;exact B
   refine qOp_mono (fun a' h3=>ih (Z.setIfInBounds j true) a' (V.set x N) J (ready_mono D (Ne.symm Y)) h3.1 ?_) h2;rw [axx _ _ Y];exact h3.2
theorem akG {m g:Nat}{I:Act->Prop}(X:Region.noSelect ops=true)(H:Region.sinkB md ops m=true)(B:Region.chainB md ops m=true)(D:m<ops.size) :
  ∀(l:List Oper) (k:Nat) (Z:Array Bool) (a:Act),(∀j,j<l.length->l[j]?=ops[k+j]?)->k+l.length=m->HeadInv md ops m Z->
  Region.lexHead md ops g l.length k Z=true->wpQuiet P ops C I l a->
  apy P md ops C m (fun Y A=>Region.seqB md ops g m Y=true/\I A) l.length Z a
 | [],k,Z,a,_,hk,_,hB,h=>by
  have:k=m:=by simpa using hk
  subst this;exact⟨by simpa [Region.lexHead] using hB,h⟩
 | o :: l,k,Z,a,hl,hk,inv,hB,h=>by
  have h0:ops[k]?=some o:=by simpa using (hl 0 (by simp)).symm
  simp only [axU,Region.lexHead,ayz] at hB;obtain⟨⟨y,x⟩,J⟩:=hB;have U:k<m:=by simp only [axU] at hk;omega
  have V:k∈Region.ready md ops Z:=by simpa using y
  have N:qOp P ops C k (wpQuiet P ops C I l) a:=by unfold qOp;simp only [h0];exact h
  obtain⟨v,z,e⟩:=yieldsIn_of_qOp h0 N;exact alt h0 (Region.noSelect_spec X) H B D U (fun Y A s=>seqB_ready s.1) l.length Z a inv (Region.free_spec h0 x) V z
   (akG X H B D l (k+1) _ _ (fun j hj=>by have:=hl (j+1) (by simp;omega);simpa [Nat.add_assoc,Nat.add_comm 1 j] using this) (by simp only [axU] at hk;omega) (inv.set V U) J e)
theorem acE {id:Nat}{Q:Exit->Act->World->Prop}{a:Act}{w:World}{l:List Oper}(m:Nat)(I:P.follows .mixedOrders=true)(s:Region.lexTailB .any l.toArray m=true)(hC:C { w with drawn:=w.drawn+1 })
  (h:wpQuiet P l.toArray C (fun B=>∀w',C w'->wpList P l.toArray Q (l.drop m) B w') (l.take m) a):(Code.region id l.toArray true).wp P Q a w:=by
 simp only [Region.lexTailB,ayz,decide_eq_true_eq] at s;obtain⟨⟨⟨⟨V,A⟩,e⟩,hc⟩,U⟩:=s;have a1:m<l.length:=by simpa using A
 have Y:(l.take m).length=m:=by simp;omega
 have N:(l.drop m).length=l.toArray.size-m:=by simp
 have X:HeadInv .any l.toArray m (Array.replicate l.toArray.size false):=
  ⟨by simp,fun j oj _ z=>(by rw [getD_replicate_false] at z;cases z),fun t _ o=>getD_in (by simpa using o) (getD_replicate_false _ _)⟩
 have H:=akG (md:=.any) (g:=l.toArray.size-m) V e hc A (l.take m) 0 _ a (fun j y=>by
  have D:j<m:=by rw [Y] at y;exact y
  simp [D]) (by simpa using Y) X (by rw [Y];exact U) h
 refine wp_region_any I ?_;have:=afK (Q':=Q) (g:=l.toArray.size-m) (fun Z B w' J x=>by
  have:=wpAny_of_seq (md:=.any) (Q':=Q) (l.drop m) m Z B w' (fun j=>by simp [ayP]) (by rw [N];exact x.1) (x.2 w' J)
  rwa [N] at this) _ _ _ _ hC H
 rw [Y,show m+(l.toArray.size-m)=l.toArray.size by omega] at this;exact this
theorem afk {id:Nat}{Q:Exit->Act->World->Prop}{a:Act}{w:World}{l:List Oper}(m:Nat)(Z:P.follows .mixedOrders=true)(Y:Region.lexTailB .any l.toArray m=true)
  (h:wpQuiet P l.toArray (fun w'=>∃p:Regrown,w'=grow (redrawn w p.d) p.os) (fun X=>∀w',(∃p:Regrown,w'=grow (redrawn w p.d) p.os)->wpList P l.toArray Q (l.drop m) X w') (l.take m) a):(Code.region id l.toArray true).wp P Q a w:=
 acE (C:=fun w'=>∃p:Regrown,w'=grow (redrawn w p.d) p.os) m Z Y ⟨⟨w.drawn+1,#[]⟩,by rw [grow_empty];rfl⟩ h
theorem aak {id:Nat}{Q:Exit->Act->World->Prop}{a:Act}{w:World}{l:List Oper}(m:Nat)(Z:P.follows .mixedOrders=true)(Y:Region.lexTailB .any l.toArray m=true)
  (h:wpQuiet P l.toArray (fun w'=>∃n,w'=w.drewN n) (fun X=>∀w',(∃n,w'=w.drewN n)->wpList P l.toArray Q (l.drop m) X w') (l.take m) a):(Code.region id l.toArray true).wp P Q a w:=
 acE (C:=fun w'=>∃n,w'=w.drewN n) m Z Y ⟨1,rfl⟩ h
end plain
/-! ### in a fence,in a round -/
section fenced
variable {F:Fence}{n:Nat}{P:Program}{ops:Array Oper}{md:Region.Mode}{C:World->Prop}
def abe (ops:Array Oper):Bool:=ops.all fun o=>match o.op with | .defer _=>false | _=>true
theorem afS (h:abe ops=true){i:Nat}{o:Oper}(Z:ops[i]?=some o):∀c,o.op≠.defer c:=by
 intro c Y;have:=Array.all_eq_true'.1 h o (Array.mem_of_getElem? Z);simp [Y] at this
theorem ahL {o:Oper}{a:Act}{K:Act->Prop}{N:Act->World->Prop}{Q':Exit->Act->World->Prop}{w:World}(V:∀c,o.op≠.defer c)(X:C w)(h:∀a w',C w'->K a->N a w')
  (ha:o.askedIn F P a C) (J:o.quietIn F n P a C K):o.wpIn F n P a w N Q':=by
 obtain⟨v,h1,h2⟩:=J;have h3:=h1 w X;unfold Oper.quietAtIn at h3;unfold Oper.wpIn;refine⟨ha w X,?_⟩;rw [Oper.semAt_eq _ _ _ V]
 generalize (execOp a.eval o).run P w=r at *
 cases r with
 | ok x w'=>
  cases x<;>simp only [Oper.quietUponIn] at h3<;>simp only [Oper.uponIn]
  case value u=>
   obtain⟨Y,U⟩:=h3;rw [Y,U];exact h _ _ X h2
  case skip=>
   obtain⟨Y,U⟩:=h3;rw [Y,<-U];exact h _ _ X h2
  case enter f args=>
   obtain⟨Y,H,D⟩:=h3;rw [Y];exact⟨H,D.mono fun e w'' ⟨I,Z⟩=>by subst I;exact h _ _ Z h2⟩
 | halt x w'=>simp only [Oper.quietUponIn] at h3
theorem aee {i:Nat}{a:Act}{K:Act->Prop}{U:Act->World->Prop}{Q':Exit->Act->World->Prop}{w:World}(V:abe ops=true)(Y:C w)(h:∀a w',C w'->K a->U a w')
  (Z:qOpIn F n P ops C i K a):wpOpIn F n P ops Q' i U a w:=by
 unfold qOpIn at Z;unfold wpOpIn
 split
 · rename_i ho;simp only [ho] at Z;exact h _ _ Y Z
 ·
  rename_i o ho
  simp only [ho] at Z;obtain⟨ha,Z⟩:=Z
  split
  · rename_i X;simp only [X,if_true] at Z;exact ahL (afS V ho) Y h ha Z
  · rename_i X;simp only [X] at Z;exact⟨ha w Y,h _ _ Y Z⟩
def ahu (F:Fence)(n:Nat)(P:Program)(md:Region.Mode)(ops:Array Oper)(C:World->Prop)(m:Nat)(L:Array Bool->Act->Prop):Nat->Array Bool->Act->Prop
 | 0,Z,a=>L Z a
 | f+1,Z,a=>Region.ready md ops Z≠[]/\∀i∈Region.ready md ops Z,i<m/\qOpIn F n P ops C i (ahu F n P md ops C m L f (Z.setIfInBounds i true)) a
theorem aeb {m g:Nat}{L:Array Bool->Act->Prop}{Q':Exit->Act->World->Prop}(Y:abe ops=true)(V:∀Z a w,C w->L Z a->wpAnyIn F n P md ops Q' g Z a w) :
  ∀(f:Nat) (Z:Array Bool) (a:Act) (w:World),C w->ahu F n P md ops C m L f Z a->wpAnyIn F n P md ops Q' (f+g) Z a w
 | 0,Z,a,w,hw,h=>by rw [axz];exact V _ _ _ hw h
 | f+1,Z,a,w,hw,h=>by
  rw [show f+1+g=(f+g)+1 by omega];exact⟨fun h0=>absurd h0 h.1,fun i U=>aee Y hw (fun J w' X N=>aeb Y V f _ J w' X N) (h.2 i U).2⟩
theorem ajo {m i:Nat}{s:Oper}{v:Value}{L:Array Bool->Act->Prop}(hi:ops[i]?=some s)(I:∀(j:Nat) (o:Oper) cs b,ops[j]?=some o->o.op≠.select cs b)
  (hs:Region.sinkB md ops m=true) (hc:Region.chainB md ops m=true) (hm:m<ops.size) (a6:i<m)
  (hdone:∀Z a,L Z a->∀j∈Region.ready md ops Z,m<=j) :
  ∀(f:Nat) (Z:Array Bool) (a:Act),HeadInv md ops m Z->
   (∀j z,ops[j]?=some z->j≠i->Z.getD j true=false->(∀e∈z.after,Region.binds md e=true->e.on≠i)->s.apart ops z=true)->
   i∈Region.ready md ops Z->YieldsQuiet F n P ops C s v a->
   ahu F n P md ops C m L f (Z.setIfInBounds i true) (a.put s.dst v)->ahu F n P md ops C m L (f+1) Z a:=by
 intro f
 induction f with
 | zero=>
  intro Z a V _ D hy H;have U:=(mem_ready.1 D).1;refine⟨fun h=>(by rw [h] at D;cases D),fun j x=>?_⟩;have N:j<m:=by
   rcases az6 j m with h | h
   · exact h
   · exact absurd x (tail_waits hs hc hm V _ i rfl a6 U j h)
  refine⟨N,?_⟩
  by_cases Y:j=i
  · subst Y;exact hy.qOpIn hi H
  · have:=hdone _ _ H j (ready_mono x Y);omega
 | succ f ih=>
  intro Z a V X D hy H;have U:=(mem_ready.1 D).1;refine⟨fun h=>(by rw [h] at D;cases D),fun j x=>?_⟩;have N:j<m:=by
   rcases az6 j m with h | h
   · exact h
   · exact absurd x (tail_waits hs hc hm V _ i rfl a6 U j h)
  refine⟨N,?_⟩
  by_cases Y:j=i
  · subst Y;exact hy.qOpIn hi H
  ·
   have h1:=(H.2 j (ready_mono x Y)).2;obtain⟨A,z,y,a7⟩:=mem_ready.1 x;have a1:∀e∈z.after,Region.binds md e=true->e.on≠i:=fun e he hb ab=>by
    have h1:=a7 e he hb;rw [ab,getD_both U] at h1
    cases h1
   have h2:=qOpIn_put y (X j z y Y A a1) (fun cs b=>I i s cs b hi) (fun cs b=>I j z cs b y) hy h1;have J:∀k ok,ops[k]?=some ok->k≠i->(Z.setIfInBounds j true).getD k true=false->
     (∀e∈ok.after,Region.binds md e=true->e.on≠i)->s.apart ops ok=true:=fun k ok hk aa B a8=>by
    refine X k ok hk aa ?_ a8
    by_cases a2:j=k
    · subst a2;exact A
    · rw [getD_set_ne true a2] at B;exact B
   refine qOpIn_mono (fun a' h3=>ih (Z.setIfInBounds j true) a' (V.set x N) J (ready_mono D (Ne.symm Y)) h3.1 ?_) h2;rw [axx _ _ Y];exact h3.2
theorem ah6 {m g:Nat}{I:Act->Prop}(X:Region.noSelect ops=true)(H:Region.sinkB md ops m=true)(B:Region.chainB md ops m=true)(D:m<ops.size) :
  ∀(l:List Oper) (k:Nat) (Z:Array Bool) (a:Act),(∀j,j<l.length->l[j]?=ops[k+j]?)->k+l.length=m->HeadInv md ops m Z->
  Region.lexHead md ops g l.length k Z=true->wpQuietIn F n P ops C I l a->
  ahu F n P md ops C m (fun Y A=>Region.seqB md ops g m Y=true/\I A) l.length Z a
 | [],k,Z,a,_,hk,_,hB,h=>by
  have:k=m:=by simpa using hk
  subst this;exact⟨by simpa [Region.lexHead] using hB,h⟩
 | o :: l,k,Z,a,hl,hk,inv,hB,h=>by
  have h0:ops[k]?=some o:=by simpa using (hl 0 (by simp)).symm
  simp only [axU,Region.lexHead,ayz] at hB;obtain⟨⟨y,x⟩,J⟩:=hB;have U:k<m:=by simp only [axU] at hk;omega
  have V:k∈Region.ready md ops Z:=by simpa using y
  have N:qOpIn F n P ops C k (wpQuietIn F n P ops C I l) a:=by unfold qOpIn;simp only [h0];exact h
  obtain⟨v,z,e⟩:=yieldsQuiet_of_qOpIn h0 N;exact ajo h0 (Region.noSelect_spec X) H B D U (fun Y A s=>seqB_ready s.1) l.length Z a inv (Region.free_spec h0 x) V z
   (ah6 X H B D l (k+1) _ _ (fun j hj=>by have:=hl (j+1) (by simp;omega);simpa [Nat.add_assoc,Nat.add_comm 1 j] using this) (by simp only [axU] at hk;omega) (inv.set V U) J e)
theorem afR {Q':Exit->Act->World->Prop}:∀(l:List Oper) (k:Nat) (Z:Array Bool) (a:Act) (w:World),(∀j,l[j]?=ops[k+j]?)->
  Region.seqB md ops l.length k Z=true->wpListIn F n P ops Q' l a w->wpAnyIn F n P md ops Q' l.length Z a w
 | [],_,_,_,_,_,hB,h=>⟨by simpa [Region.seqB] using hB,h⟩
 | o :: l,k,Z,a,w,hl,hB,h=>by
  have h0:ops[k]?=some o:=by simpa using (hl 0).symm
  simp only [axU,Region.seqB,ayz,decide_eq_true_eq] at hB;refine⟨fun h1=>(by rw [hB.1] at h1;cases h1),fun i X=>?_⟩;rw [hB.1] at X;have Y:i=k:=by simpa using X
  subst Y;have V:wpOpIn F n P ops Q' i (wpListIn F n P ops Q' l) a w:=by unfold wpOpIn;simp only [h0];exact h
  exact wpOpIn_mono (fun N w' U=>afR l (i+1) _ N w' (fun j=>by have:=hl (j+1);simpa [Nat.add_assoc,Nat.add_comm 1 j] using this) hB.2 U) V
theorem acb {id:Nat}{Q:Exit->Act->World->Prop}{a:Act}{w:World}{l:List Oper}(m:Nat)(D:P.follows .mixedOrders=true)(o:Region.lexTailB .any l.toArray m=true)(I:abe l.toArray=true)(hC:C { w with drawn:=w.drawn+1 })
  (h:wpQuietIn F n P l.toArray C (fun A=>∀w',C w'->wpListIn F n P l.toArray Q (l.drop m) A w') (l.take m) a):(Code.region id l.toArray true).wpIn F n P Q a w:=by
 simp only [Region.lexTailB,ayz,decide_eq_true_eq] at o;obtain⟨⟨⟨⟨V,z⟩,hs⟩,hc⟩,U⟩:=o;have a1:m<l.length:=by simpa using z
 have Y:(l.take m).length=m:=by simp;omega
 have N:(l.drop m).length=l.toArray.size-m:=by simp
 have X:HeadInv .any l.toArray m (Array.replicate l.toArray.size false):=
  ⟨by simp,fun j oj _ y=>(by rw [getD_replicate_false] at y;cases y),fun t _ e=>getD_in (by simpa using e) (getD_replicate_false _ _)⟩
 have H:=ah6 (md:=.any) (g:=l.toArray.size-m) V hs hc z (l.take m) 0 _ a (fun j x=>by
  have B:j<m:=by rw [Y] at x;exact x
  simp [B]) (by simpa using Y) X (by rw [Y];exact U) h
 refine wpIn_region_any D ?_;have:=aeb (Q':=Q) (g:=l.toArray.size-m) I (fun Z A w' J s=>by
  have:=afR (md:=.any) (Q':=Q) (l.drop m) m Z A w' (fun j=>by simp [ayP]) (by rw [N];exact s.1) (s.2 w' J)
  rwa [N] at this) _ _ _ _ hC H
 rw [Y,show m+(l.toArray.size-m)=l.toArray.size by omega] at this;exact this
theorem adL {Q:Act->Prop}{Q':Exit->Act->World->Prop}(X:abe ops=true)(U:∀a w,C w->Q a->Q' .normal a w):∀(Y:Nat) (Z:Array Bool) (a:Act) (w:World),C w->
  wpAnyQIn F n P md ops C Q Y Z a->wpAnyIn F n P md ops Q' Y Z a w
 | 0,_,_,_,hw,h=>⟨h.1,U _ _ hw h.2⟩
 | Y+1,_,_,_,hw,h=>⟨fun h0=>U _ _ hw (h.1 h0),fun i N=>aee X hw (fun J w' V=>adL X U Y _ J w' V) (h.2 i N)⟩
theorem aef {id:Nat}{Q:Exit->Act->World->Prop}{a:Act}{w:World}{l:List Oper}(X:P.follows .mixedOrders=true)(V:Region.lexB .any l.toArray=true)(Y:abe l.toArray=true)(N:C { w with drawn:=w.drawn+1 })
  (h:wpQuietIn F n P l.toArray C (fun U=>∀w',C w'->Q .normal U w') l a):(Code.region id l.toArray true).wpIn F n P Q a w:=by
 simp only [Region.lexB,ayz] at V;refine wpIn_region_any X (adL (Q:=fun U=>∀w',C w'->Q .normal U w') Y (fun _ w' Z h=>h w' Z) _ _ _ _ N ?_);have:=wpAnyQIn_lex (F:=F) (n:=n) (C:=C) (md:=.any) V.1 l 0 (Array.replicate l.toArray.size false) a (by simp) (by simpa using V.2) h
 simpa using this
theorem ahO {id:Nat}{Q:Exit->Act->World->Prop}{a:Act}{w:World}{l:List Oper}(Y:P.follows .mixedOrders=true)(X:Region.lexB .any l.toArray=true)(Z:abe l.toArray=true)
  (h:wpQuietIn F n P l.toArray (fun w'=>∃p:Regrown,w'=grow (redrawn w p.d) p.os) (fun V=>∀w',(∃p:Regrown,w'=grow (redrawn w p.d) p.os)->Q .normal V w') l a):(Code.region id l.toArray true).wpIn F n P Q a w:=
 aef (C:=fun w'=>∃p:Regrown,w'=grow (redrawn w p.d) p.os) Y X Z ⟨⟨w.drawn+1,#[]⟩,by rw [grow_empty];rfl⟩ h
theorem aev {id:Nat}{Q:Exit->Act->World->Prop}{a:Act}{w:World}{l:List Oper}(m:Nat)(Y:P.follows .mixedOrders=true)(X:Region.lexTailB .any l.toArray m=true)(Z:abe l.toArray=true)
  (h:wpQuietIn F n P l.toArray (fun w'=>∃p:Regrown,w'=grow (redrawn w p.d) p.os) (fun V=>∀w',(∃p:Regrown,w'=grow (redrawn w p.d) p.os)->wpListIn F n P l.toArray Q (l.drop m) V w') (l.take m) a):(Code.region id l.toArray true).wpIn F n P Q a w:=
 acb (C:=fun w'=>∃p:Regrown,w'=grow (redrawn w p.d) p.os) m Y X Z ⟨⟨w.drawn+1,#[]⟩,by rw [grow_empty];rfl⟩ h
theorem aey {id:Nat}{Q:Exit->Act->World->Prop}{a:Act}{w:World}{l:List Oper}(m:Nat)(Y:P.follows .mixedOrders=true)(X:Region.lexTailB .any l.toArray m=true)(Z:abe l.toArray=true)
  (h:wpQuietIn F n P l.toArray (fun w'=>∃n,w'=w.drewN n) (fun V=>∀w',(∃n,w'=w.drewN n)->wpListIn F n P l.toArray Q (l.drop m) V w') (l.take m) a):(Code.region id l.toArray true).wpIn F n P Q a w:=
 acb (C:=fun w'=>∃n,w'=w.drewN n) m Y X Z ⟨1,rfl⟩ h
theorem ahJ {id:Nat}{Q:Exit->Act->World->Prop}{a:Act}{w:World}{l:List Oper}(Y:P.follows .mixedOrders=true)(X:Region.lexB .any l.toArray=true)(Z:abe l.toArray=true)
  (h:wpQuietIn F n P l.toArray (fun w'=>∃n,w'=w.drewN n) (fun V=>∀w',(∃n,w'=w.drewN n)->Q .normal V w') l a):(Code.region id l.toArray true).wpIn F n P Q a w:=
 aef (C:=fun w'=>∃n,w'=w.drewN n) Y X Z ⟨1,rfl⟩ h
end fenced
/-! ### the wide fence,in a round or not: the quiet part walked plainly -/
section wide
variable {F:Fence}{n:Nat}{P:Program}{ops:Array Oper}{C:World->Prop}
structure am3 (F:Fence)(n:Nat)(P:Program):Prop where
 fn:∀f,F.fn f
 depth:F.depth=none
 calls:∀{f args w R},Calls P f args w R->CallsIn F (n-1) P f args w R
theorem af1 (n:Nat)(P:Program):am3 Fence.wide n P:=⟨fun _=>trivial,rfl,fun h=>callsIn_wide.2 h⟩
theorem av3 (n:Nat)(P:Program)(l:Nat):am3 (Fence.wide.inRound l) n P:=⟨fun _=>trivial,rfl,fun h=>(callsIn_wide (n:=n-1)).2 h⟩
theorem aaI (Z:am3 F n P){Q:Act->Prop}:∀(l:List Oper) (a:Act),wpQuiet P ops C Q l a->wpQuietIn F n P ops C Q l a
 | [],_,h=>h
 | o :: l,a,h=>by
  refine⟨fun _ _ f _=>Z.fn f,?_⟩;unfold wpQuiet at h
  split
  ·
   rename_i Y
   rw [if_pos Y] at h;obtain⟨v,h1,h2⟩:=h;refine⟨v,fun w V=>?_,aaI Z l _ h2⟩;have:=h1 w V;unfold Oper.quietAt at this;unfold Oper.quietAtIn
   generalize (execOp a.eval o).run P w=r at *
   cases r with
   | ok x w'=>
    cases x<;>simp only [Oper.quietUpon] at this<;>simp only [Oper.quietUponIn]
    case value u=>exact this
    case skip=>exact this
    case enter f args=>
     refine⟨this.1,?_,Z.calls this.2⟩;intro X;rw [Z.depth] at X
     cases X
   | halt x w'=>simp only [Oper.quietUpon] at this
  ·
   rename_i Y
   rw [if_neg Y] at h;exact aaI Z l _ h
theorem abC (X:am3 F n P){id:Nat}{Q:Exit->Act->World->Prop}{a:Act}{w:World}{l:List Oper}(Y:P.follows .mixedOrders=true)(V:Region.lexB .any l.toArray=true)(Z:abe l.toArray=true)
  (h:wpQuiet P l.toArray (fun w'=>∃p:Regrown,w'=grow (redrawn w p.d) p.os) (fun U=>∀w',(∃p:Regrown,w'=grow (redrawn w p.d) p.os)->Q .normal U w') l a):(Code.region id l.toArray true).wpIn F n P Q a w:=
 ahO Y V Z (aaI X _ _ h)
theorem af2 (X:am3 F n P){id:Nat}{Q:Exit->Act->World->Prop}{a:Act}{w:World}{l:List Oper}(m:Nat)(Y:P.follows .mixedOrders=true)(V:Region.lexTailB .any l.toArray m=true)(Z:abe l.toArray=true)
  (h:wpQuiet P l.toArray (fun w'=>∃p:Regrown,w'=grow (redrawn w p.d) p.os) (fun U=>∀w',(∃p:Regrown,w'=grow (redrawn w p.d) p.os)->wpListIn F n P l.toArray Q (l.drop m) U w') (l.take m) a):(Code.region id l.toArray true).wpIn F n P Q a w:=
 aev m Y V Z (aaI X _ _ h)
theorem abc (X:am3 F n P){id:Nat}{Q:Exit->Act->World->Prop}{a:Act}{w:World}{l:List Oper}(Y:P.follows .mixedOrders=true)(V:Region.lexB .any l.toArray=true)(Z:abe l.toArray=true)
  (h:wpQuiet P l.toArray (fun w'=>∃n,w'=w.drewN n) (fun U=>∀w',(∃n,w'=w.drewN n)->Q .normal U w') l a):(Code.region id l.toArray true).wpIn F n P Q a w:=
 ahJ Y V Z (aaI X _ _ h)
theorem aaJ (X:am3 F n P){id:Nat}{Q:Exit->Act->World->Prop}{a:Act}{w:World}{l:List Oper}(m:Nat)(Y:P.follows .mixedOrders=true)(V:Region.lexTailB .any l.toArray m=true)(Z:abe l.toArray=true)
  (h:wpQuiet P l.toArray (fun w'=>∃n,w'=w.drewN n) (fun U=>∀w',(∃n,w'=w.drewN n)->wpListIn F n P l.toArray Q (l.drop m) U w') (l.take m) a):(Code.region id l.toArray true).wpIn F n P Q a w:=
 aey m Y V Z (aaI X _ _ h)
end wide
/-! ### contracts,met within a quiet walk -/
section met
variable {P:Program}{f:FuncId}{args:Array Value}{w:World}{v:Value}
theorem aoB {n:Nat}(h:Calls P f args (w.drewN n) fun e w'=>e=.returned v/\w.drewN n=w'):Calls P f args (w.drewN n) fun e w''=>e=.returned v/\∃m,w''=w.drewN m:=
 h.mono fun _ _ ⟨h1,h2⟩=>⟨h1,n,h2.symm⟩
theorem aob {d:Nat}{os:Array Obj}(h:Calls P f args (grow (redrawn w d) os) fun e w'=>e=.returned v/\grow (redrawn w d) os=w'):Calls P f args (grow (redrawn w d) os) fun e w''=>e=.returned v/\∃p:Regrown,w''=grow (redrawn w p.d) p.os:=
 h.mono fun _ _ ⟨h1,h2⟩=>⟨h1,⟨d,os⟩,h2.symm⟩
theorem aax {d:Nat}{os:Array Obj}(h:Calls P f args (grow (redrawn w d) os) fun e w'=>e=.returned v/\Below (grow (redrawn w d) os).heap.size (grow (redrawn w d) os) w'):Calls P f args (grow (redrawn w d) os) fun e w''=>e=.returned v/\∃p:Regrown,w''=grow (redrawn w p.d) p.os:=
 Calls.regrown_of h
end met
end
def btw (n lo Z:Int):Bool:=decide (lo<=n)&&decide (n<=Z)
def ac2 (wk bl rg Y X Z fr:Int):Bool:=btw wk 1 8&&btw bl 1 256&&btw rg 1 16&&btw Y 1 16&&btw X 1 16&&btw Z 1 256&&btw fr 0 4611686018427387904
theorem abE {wk bl rg Y X Z fr:Int}:ac2 wk bl rg Y X Z fr=true↔(1<=wk/\wk<=8)/\(1<=bl/\bl<=256)/\(1<=rg/\rg<=16)/\(1<=Y/\Y<=16)/\(1<=X/\X<=16)/\(1<=Z/\Z<=256)/\(0<=fr/\fr<=4611686018427387904):=by
 simp [ac2,btw];omega
def adm (wk bl rg Y X Z fr L y:Int):Bool:=ac2 wk bl rg Y X Z fr&&btw L 1 32&&btw y 0 2147483647
def abF (size Z:Int):Int:=Z / size+if 0<Z % size then 1 else 0
theorem adB {s b:Int}(Z:1<=s)(Y:0<=b):0<=abF s b/\abF s b<=b:=by
 unfold abF;have h1:=Int.mul_ediv_add_emod b s;have h2:0<=b / s:=Int.ediv_nonneg Y (by omega);have h3:0<=b % s:=Int.emod_nonneg _ (by omega);have h4:b / s*1<=s*(b / s):=by rw [Int.mul_comm s];exact ayY Z h2
 split<;>omega
def wI (L B:Int)(k:Nat):Int:=min (L-1) (k*B)
def aoX (L B S:Int):Nat->Int
 | 0=>0
 | k+1=>aoX L B S k+abF S (wI L B k+B)
def acs (L B S y:Int):Int:=aoX L B S (y / B).toNat+if 0<y % B then abF S (wI L B (y / B).toNat+y % B) else 0
theorem apb {L B:Int}(Z:1<=L)(Y:1<=B)(k:Nat):0<=wI L B k/\wI L B k<=L-1:=by
 have:0<=(k:Int)*B:=azj (by omega) (by omega);unfold wI;omega
theorem aqw {L B:Int}(Y:1<=B){i j:Nat}(h:i<=j)(Z:¬wI L B i<L-1):wI L B j=L-1:=by
 have:(i:Int)*B<=(j:Int)*B:=Int.mul_le_mul_of_nonneg_right (by omega) (by omega);unfold wI at *;omega
def ao5 (L B y:Int)(k0:Nat):List (Int×Int):=
 (if k0<(y / B).toNat then [(L - 1+B,(((y / B).toNat - k0:Nat):Int))] else [])++(if 0<y % B then [(wI L B (y / B).toNat+y % B,1)] else [])
def agD (L B:Int)(k0:Nat):List (Int×Int):=(List.range k0).map fun i=>(wI L B i+B,1)
def aol (S:Int)(l:List (Int×Int)):Int:=l.foldl (fun s p=>s+p.2*abF S p.1) 0
theorem adM (S:Int)(l:List (Int×Int))(p:Int×Int):aol S (l++[p])=aol S l+p.2*abF S p.1:=by simp [aol]
theorem aij (L B:Int)(k:Nat):agD L B (k+1)=agD L B k++[(wI L B k+B,1)]:=by simp [agD,ayt]
theorem aky (L B:Int)(k:Nat):(agD L B k).length=k:=by simp [agD]
theorem akx (L B S:Int)(k:Nat):aol S (agD L B k)=aoX L B S k:=by
 induction k with
 | zero=>rfl
 | succ k ih=>rw [aij,adM,ih,aoX];simp
theorem ahp {L B S:Int}(Z:1<=B){k0:Nat}(h:¬wI L B k0<L-1):∀d,aoX L B S (k0+d)=aoX L B S k0+d*abF S (L-1+B)
 | 0=>by simp
 | d+1=>by
  have h1:=aqw (B:=B) Z (show k0<=k0+d by omega) h;rw [show k0+(d+1)=(k0+d)+1 from rfl,aoX,ahp Z h d,h1];have:((d+1:Nat):Int)=(d:Int)+1:=by omega
  rw [this,az1];omega
theorem arF {L B S y:Int}(U:1<=B){k0:Nat}(N:k0<=(y / B).toNat)(h:k0<(y / B).toNat->¬wI L B k0<L - 1):aol S (agD L B k0++ao5 L B y k0)=acs L B S y:=by
 have Z:aol S (agD L B k0++(if k0<(y / B).toNat then [(L - 1+B,(((y / B).toNat - k0:Nat):Int))] else []))=aoX L B S (y / B).toNat:=by
  split
  ·
   rename_i X
   rw [adM,akx];have:=ahp (S:=S) U (h X) ((y / B).toNat - k0);rw [show k0+((y / B).toNat - k0)=(y / B).toNat by omega] at this;exact this.symm
  ·
   rename_i V
   rw [ayj,akx,show k0=(y / B).toNat by omega]
 unfold ao5 acs;rw [<-ayi]
 by_cases Y:0<y % B
 · rw [if_pos Y,if_pos Y,adM,Z];simp
 · rw [if_neg Y,if_neg Y,ayj,Z];simp
def adn (l s:Int):Int:=if l<1∨s<1 then 0 else abF s l
theorem ahX {B y:Int}(X:1<=B)(Z:0<=y):(((y / B).toNat:Nat):Int)*B<=y/\((y / B).toNat:Int)<=y:=by
 have e:=Int.mul_ediv_add_emod y B;have U:0<=y % B:=Int.emod_nonneg _ (by omega);have V:0<=y / B:=Int.ediv_nonneg Z (by omega);obtain⟨q,Y⟩:∃q:Nat,y / B=q:=⟨(y / B).toNat,by omega⟩;rw [Y] at e ⊢;simp only [axs];have:(q:Int)*1<=(q:Int)*B:=ayY X (by omega);rw [Int.mul_comm] at e;omega
theorem mixed:ZP.follows .mixedOrders=true:=by kernel_rfl
theorem arf {W Z:World}(Y:Below W.heap.size W Z):(∀b o,b<W.heap.size->Z.cell? ⟨b,o,none⟩=W.cell? ⟨b,o,none⟩)/\(∀b o,b<W.heap.size->Z.frozen? ⟨b,o,none⟩=W.frozen? ⟨b,o,none⟩):=
 ⟨fun b o h=>Y.cell (p:=⟨b,o,none⟩) h,fun b o h=>Y.frozen (p:=⟨b,o,none⟩) h⟩
theorem aez {k:IntKind}{a b:Int}(h:a=b):Ending.returned (.int k a)=.returned (.int k b):=by rw [h]
theorem aku (size Z:Int)(w:World)(h1:1<=size)(h2:0<=Z)(h3:size<=9223372036854775807)(h4:Z<=4611686018427387904) :
  Calls ZP 83 #[.int .i64 size,.int .i64 Z] w fun e w'=>e=.returned (.int .i64 (abF size Z))/\w=w':=by
 have Y:(size==0)=false:=by simp;omega
 have U:0<=Z / size:=Int.ediv_nonneg h2 (by omega);have X:Z / size<=Z:=Int.ediv_le_self _ h2
 by_cases V:0<Z % size
 all_goals
  go_enter func83,ntmps83;go_wp2;go_ret;exact⟨aez (by unfold abF;first | rw [if_pos V] | rw [if_neg (by omega),Int.add_zero]),rfl⟩
theorem aj3 (n:Int)(w:World) :
  Calls ZP 85 #[.int .i64 n] w fun e w'=>e=.returned (.bool (btw n 1 32))/\w=w':=by
 by_cases h1:1<=n
 ·
  by_cases h2:n<=32
  all_goals
   go_enter func85,ntmps85;go_wp2;go_ret;exact⟨by simp [btw];try omega,rfl⟩
 · go_enter func85,ntmps85;go_wp2;go_ret;exact⟨by simp [btw];try omega,rfl⟩
theorem acX (n:Int)(w:World) :
  Calls ZP 84 #[.int .i64 n] w fun e w'=>e=.returned (.bool (btw n 0 2147483647))/\w=w':=by
 by_cases h1:0<=n
 ·
  by_cases h2:n<=2147483647
  all_goals
   go_enter func84,ntmps84;go_wp2;go_ret;exact⟨by simp [btw];try omega,rfl⟩
 · go_enter func84,ntmps84;go_wp2;go_ret;exact⟨by simp [btw];try omega,rfl⟩
theorem amz (n lo Z:Int)(w:World) :
  Calls ZP 61 #[.int .i64 n,.int .i64 lo,.int .i64 Z] w fun e w'=>e=.returned (.bool (btw n lo Z))/\w=w':=by
 by_cases h1:lo<=n
 ·
  by_cases h2:n<=Z
  all_goals
   go_enter func61,ntmps61;go_wp2;go_ret;exact⟨by simp [btw];try omega,rfl⟩
 · go_enter func61,ntmps61;go_wp2;go_ret;exact⟨by simp [btw];try omega,rfl⟩
abbrev ae4 (wk bl rg Y X Z fr:Int):Array Value:=#[.int .i64 wk,.int .i64 bl,.int .i64 rg,.int .i64 Y,.int .i64 X,.int .i64 Z,.int .i64 fr]
abbrev aci (wk bl rg Y X Z fr L y:Int):Array Value:=#[.int .i64 wk,.int .i64 bl,.int .i64 rg,.int .i64 Y,.int .i64 X,.int .i64 Z,.int .i64 fr,.int .i64 L,.int .i64 y]
theorem af4 (wk bl rg Y X Z fr:Int)(w:World) :
  Calls ZP 26 #[.agg (ae4 wk bl rg Y X Z fr)] w fun e w'=>e=.returned (.bool (ac2 wk bl rg Y X Z fr))/\Below w.heap.size w w':=by
 go_enter func26,ntmps26
 go_wp2_with (go_at_call 61;refine (amz _ _ _ _).mono ?_;rintro e w' ⟨rfl,rfl⟩)
 all_goals
  go_ret;exact⟨by simp [ac2, *],(axf _ _).alloc (axe _) _⟩
theorem ais (wk bl rg Y X Z fr L y:Int)(w:World) :
  Calls ZP 81 #[.agg (aci wk bl rg Y X Z fr L y)] w fun e w'=>e=.returned (.bool (adm wk bl rg Y X Z fr L y))/\Below w.heap.size w w':=by
 go_enter func81,ntmps81
 go_wp2_with fail
 refine (af4 _ _ _ _ _ _ _ _).mono ?_;rintro e w' ⟨rfl,V⟩;obtain⟨J,N⟩:=arf V;have U:=((axf w.heap.size w).alloc (axe _) (.cells (aci wk bl rg Y X Z fr L y) 139)).trans (V.mono (by simp))
 go_wp2_with (first | (go_at_call 85;refine (aj3 _ _).mono ?_;rintro e w' ⟨rfl,rfl⟩) | (go_at_call 84;refine (acX _ _).mono ?_;rintro e w' ⟨rfl,rfl⟩))
 all_goals
  go_ret;exact⟨by simp [adm, *],U⟩
theorem af5 (wk bl rg Y X Z fr L y:Int)(k:Nat)(w:World)(h1:1<=L)(h2:L<=32)(h3:1<=bl)(h4:bl<=256)(N:k<=2147483647) :
  Calls ZP 126 #[.agg (aci wk bl rg Y X Z fr L y),.int .i64 k] w fun e w'=>e=.returned (.int .i64 (wI L bl k))/\Below w.heap.size w w':=by
 have U:0<=(k:Int)*bl:=azj (by omega) (by omega);have V:(k:Int)*bl<=(k:Int)*256:=ayY h4 (by omega);go_enter func126,ntmps126;go_wp2
 all_goals
  go_ret;exact⟨aez (by unfold wI;omega),(axf _ _).alloc (axe _) _⟩
section
open Go Go.RowKit Go.Sort
theorem aab (k:FuncId):Fence.wide.fn k=True:=rfl
theorem aa6:Fence.wide.depth=none:=rfl
def aio (b:Nat)(W Z:World):Prop:=Z.heap[b]?=W.heap[b]?
theorem asN {b:Nat}{A B C:World}(h:aio b A B)(k:aio b B C):aio b A C:=k.trans h
theorem ast {b:Nat}{w:World}(Y:b<w.heap.size)(W:World)(l:Nat)(o o':Obj)(Z:w.heap.size<=l)(_:W.heap[l]?=some o)(_:o.isCells=false)(_:o.isWalk=false):aio b W (W.putObj l o'):=
 ayn (by omega)
def ab0 (S:Nat->Prop)(W Z:World):Prop:=∀k,S k->Z.heap[k]?=W.heap[k]?
theorem abp {S:Nat->Prop}{A B C:World}(h:ab0 S A B)(k:ab0 S B C):ab0 S A C:=fun i Z=>(k i Z).trans (h i Z)
theorem ad2 {S:Nat->Prop}{w:World}(Y:∀k,S k->k<w.heap.size)(W:World)(l:Nat)(o o':Obj)(X:w.heap.size<=l)(_:W.heap[l]?=some o)(_:o.isCells=false)(_:o.isWalk=false):ab0 S W (W.putObj l o'):=
 fun k Z=>ayn (by have:=Y k Z;omega)
theorem aaG {w w':World}(h:Below w.heap.size w w'):w.grownBy w' none:=⟨h.os,h.tape,h.output,h.size,fun k Z _=>h.block k Z⟩
theorem aaK {β:Type}{B:Nat}{J:β->World->Prop}(h:AbidesFrom B J){s:β}{w w':World}(Z:J s w)(Y:Below w.heap.size w w'):J s w':=
 h s w w' none Z (aaG Y) (fun r e=>by cases e)
theorem ab3 {B:Nat}{w w':World}(h:Below w.heap.size w w'):KeepsFrom B w w':=
 ⟨h.size,fun k o _ Z _=>(h.block k (awU.1 Z).1).trans Z⟩
theorem aaQ {S:Nat->Prop}{w w':World}(h:Below w.heap.size w w')(Y:∀k,S k->k<w.heap.size):ab0 S w w':=fun k Z=>h.block k (Y k Z)
theorem aau {P:Program}{f:FuncId}{fn:Func}{c:Code}{args:Array Value}{w:World}{R:Ending->World->Prop}
  (Z:P.funcs[f]?=some fn) (Y:fn.body=some c)
  (h:c.wp P (bodyPostM Fence.wide 9 P fn R) { tmps:=args++Array.replicate (fn.ntmps-args.size) undef,defers:=[] } w):Calls P f args w R:=
 (callsIn_wide (n:=9)).1 (callsIn_of_wp_marks Z Y trivial (wpIn_wide.2 h) rfl)
theorem ar0 {P:Program}{fn:Func}{R:Ending->World->Prop}{a:Act}{W:World}{D:Nat}{v:Value}(Y:a.defers=[{ target:=.collected D,args:=#[] }])(V:W.heap[D]?=some (.deferred (some [])))
  (Z:(results fn a.tmps).run P (W.putObj D (.deferred none))=.ok v (W.putObj D (.deferred none))) (X:R (.returned v) (W.putObj D (.deferred none))):bodyPostM Fence.wide 9 P fn R .ret a W:=by
 show LeavesInM Fence.wide 9 P fn a.tmps R a.defers .returning W;rw [Y];refine⟨by simp,.inl ⟨_,_,rfl,run_takeDeferred V,?_⟩⟩;exact⟨_,Z,X⟩
theorem avp {P:Program}{fn:Func}{R:Ending->World->Prop}{a:Act}{W:World}{D:Nat}{v:Value}(Y:a.defers=[{ target:=.collected D,args:=#[] }])(V:W.heap[D]?=some (.deferred (some [])))
  (Z:(results fn a.tmps).run P (W.putObj D (.deferred none))=.ok v (W.putObj D (.deferred none))) (X:R (.returned v) (W.putObj D (.deferred none))):bodyPostM Fence.wide 9 P fn R .normal a W:=
 ar0 Y V Z X
theorem awD {P:Program}{fn:Func}{R:Ending->World->Prop}{a:Act}{W:World}{v:Value}(Y:a.defers=[])
  (Z:(results fn a.tmps).run P W=.ok v W) (X:R (.returned v) W):bodyPostM Fence.wide 9 P fn R .ret a W:=by
 show LeavesInM Fence.wide 9 P fn a.tmps R a.defers .returning W;rw [Y];exact⟨_,Z,X⟩
theorem aaS {Z D:Nat}{w W:World}(Y:Below Z w W)(V:Z<=D)(X:Z<=w.heap.size)(o':Obj):Below Z w (W.putObj D o'):=
 Y.grown (grownBy_putObj' W D o') (awT X Y.size) (fun k e=>by cases e;exact V)
theorem ait {P:Program}{α:Type}{g:Operand}{H:Array Tmp}{assign body:Code}{Q:Exit->Act->World->Prop}{a:Act}{w:World}{U:Nat}{j:Array Value}
  (e:a.eval g=.func (.func U) #[] j) (eg:∀args w,(callFunc U args).run P w=.ok (.enter U args) w)
  {Y:α->Array Value} {X:World->World->Prop} {S h:List α->Prop} {N:Nat} (V:SeqStopsK Fence.wide 8 P U j Y X S h N w)
  (y:∀{A B C:World},X A B->X B C->X A C) (hKb:∀(W:World) (l:Nat) (o o':Obj),w.heap.size<=l->W.heap[l]?=some o->o.isCells=false->o.isWalk=false->X W (W.putObj l o')) (z:∀x,(Y x).size=H.size)
  (I:List α->World->Prop) (J:Code->List α->World->Prop) (hI:OwnFrom w.heap.size I) (hIx:∀c,OwnFrom w.heap.size (J c)) (h0:I [] w) (s:α->Act)
  (hassign:∀(l:Nat) (x:α) (W:World) (K:Act->World->Prop),K (s x) W->
   assign.wpIn (Fence.wide.inRound l) 7 P (Exit.then K (fun _ _ _=>False)) { tmps:=(H.zip (Y x)).foldl (fun t (p,v)=>t.setIfInBounds p v) a.tmps,defers:=[] } W)
  (hbody:∀(l:Nat) (Z:List α) (x:α) (W:World),I Z W->Z.length<N->body.wpIn (Fence.wide.inRound l) 7 P (ownPostG w.heap.size X I J (Z++[x]) W) (s x) W)
  (hdone:∀(D:Nat) (xs:List α) (W:World),w.heap.size<=D->S xs->I xs W->W.heap[D]?=some (.deferred (some []))->Q .normal { a with defers:={ target:=.collected D,args:=#[] } :: a.defers } W)
  (hstop:∀(D:Nat) (c:Code) (Z:List α) (W:World),w.heap.size<=D->h Z->J c Z W->W.heap[D]?=some (.deferred (some []))->c.wp P Q { a with defers:={ target:=.collected D,args:=#[] } :: a.defers } W) :
  (Code.rangeFunc g H assign body).wp P Q a w:=
 (wpIn_wide (n:=9)).1 (wpIn_rangeFunc_ownG rfl (by decide) e trivial eg V y hKb (axf _ _) z I J hI hIx h0 s hassign hbody hdone
  (fun D c Z W h1 h2 h3 h4=>wpIn_wide.2 (hstop D c Z W h1 h2 h3 h4)))
end
section
attribute [local go_sem] Oper.semAt_some
attribute [local simp] aab aa6
attribute [local go_sem] aab aa6
abbrev Blk:={ p:Int×Int // 0<=p.1/\p.1<=1000/\0<=p.2/\p.2<=2147483647 }
def ahq (p:Blk):Array Value:=#[.int .i64 p.1.1,.int .i64 p.1.2]
def aiJ (L B y:Int)(xs:List Blk):Prop:=∃k0:Nat,k0<=(y / B).toNat/\(k0<(y / B).toNat->¬wI L B k0<L - 1)/\xs.map (·.1)=agD L B k0++ao5 L B y k0
theorem aqr (wk bl rg o j s fr L y:Int)(n:Nat)(l N:Nat)(h1:1<=L)(h2:L<=32)(h3:1<=bl)(h4:bl<=256)(h5:0<=y)(h6:y<=2147483647)(J Jx:List Blk->World->Prop)(W:World)
  (hJ:AbidesFrom W.heap.size J) (az:AbidesFrom W.heap.size Jx)
  (hY:∀Z x W1,J Z W1->Z.length<34->YieldAt Fence.wide (n-1) ZP l (ahq x) W1 fun e W'=>
   (e=.returned (.bool true)/\J (Z++[x]) W'/\aio N W1 W')∨(e=.returned (.bool false)/\Jx (Z++[x]) W'))
  (ae:W.heap[N]?=some (.cells (aci wk bl rg o j s fr L y) 139 (0,0))) (h0:J [] W) :
  CallsIn Fence.wide n ZP 125 #[.func (.yield l) #[] #[],.pointer (some ⟨N,0,none⟩)] W fun e W'=>(∃v,e=.returned v)/\
   ((∃xs,aiJ L bl y xs/\J xs W')∨(∃Z,True/\Jx Z W')):=by
 obtain⟨K,hK⟩:∃K:Nat,y / bl=K:=⟨(y / bl).toNat,by have:=Int.ediv_nonneg h5 (show 0<=bl by omega);omega⟩;obtain⟨R,hR⟩:∃R:Int,y % bl=R:=⟨_,rfl⟩;have ax:0<=R:=by rw [<-hR];exact Int.emod_nonneg _ (by omega)
 have aw:R<bl:=by rw [<-hR];exact Int.emod_lt_of_pos _ (by omega)
 have ay:(K:Int)<=2147483647:=by have:=(ahX (B:=bl) h3 h5).2;rw [hK] at this;simp at this;omega
 have au:(bl==0)=false:=by simp;omega
 have HS:Hid (∀k0:Nat,k0<=K->(k0<K->¬wI L bl k0<L-1)->∀xs:List Blk,xs.map (·.1)=agD L bl k0++ao5 L bl y k0->aiJ L bl y xs):=by
  intro k0 a b xs e;exact⟨k0,by rw [hK];simpa using a,by rw [hK];simpa using b,e⟩
 have HT:Hid (∀k0,ao5 L bl y k0=(if k0<K then [(L-1+bl,((K-k0:Nat):Int))] else [])++(if 0<R then [(wI L bl K+R,1)] else [])):=by
  intro k0;unfold ao5;rw [hK,hR,axs]
 have cells:∀w:World,w.heap[N]?=some (.cells (aci wk bl rg o j s fr L y) 139 (0,0))->
   w.cell? ⟨N,0,none⟩=some (.int .i64 wk)/\w.cell? ⟨N,1,none⟩=some (.int .i64 bl)/\w.cell? ⟨N,2,none⟩=some (.int .i64 rg)/\w.cell? ⟨N,3,none⟩=some (.int .i64 o)/\w.cell? ⟨N,4,none⟩=some (.int .i64 j)/\w.cell? ⟨N,5,none⟩=some (.int .i64 s)/\w.cell? ⟨N,6,none⟩=some (.int .i64 fr)/\w.cell? ⟨N,7,none⟩=some (.int .i64 L)/\w.cell? ⟨N,8,none⟩=some (.int .i64 y):=by
  intro w h;simp [World.cell?,h]
 obtain⟨c0,c1,c2,c3,c4,c5,z,A,C⟩:=cells W ae;refine callsIn_of_wp func125 rfl trivial ?_ rfl;simp only [ntmps125,axT,axU,axV,Nat.reduceAdd,Nat.reduceSub,axW,axX,axY,axZ,ay0,ay1]
 gi_wp2
 refine abc (af1 _ _) mixed (by kernel_rfl) (by kernel_rfl) ?_
 repeat (go_big_quiet_step (fail))
 refine wpQuiet_nil ?_;rintro _ ⟨nq,rfl⟩
 gi_wp2
 have ap:Below W.heap.size W (W.drewN nq):=⟨rfl,rfl,rfl,axe _,fun _ _=>rfl⟩;rw [hK,hR]
 gi_loopw [5] (fun i wr=>∃(k:Nat) (Z:List Blk),k<=K/\(k:Int)<=L-1/\i=.int .i64 k/\Z.map (·.1)=agD L bl k/\J Z wr/\wr.heap[N]?=some (.cells (aci wk bl rg o j s fr L y) 139 (0,0)))
  (fun i _=>K-(intOf i).toNat)
 case atStart=>exact⟨0,[],axh _,by omega,rfl,rfl,aaK hJ h0 ap,ae⟩
 case round=>
  obtain⟨k,Z,hk,av,rfl,I,hj,V⟩:=hrel;clear c0 c1 c2 c3 c4 c5 z A C ae;obtain⟨c0,c1,c2,c3,c4,c5,z,A,C⟩:=cells wr V;have hw:=apb (L:=L) (B:=bl) h1 h3 k;have HL:Hid (wI L bl k<L-1->((k+1:Nat):Int)<=L-1):=by
   intro h;have:(k:Int)*1<=(k:Int)*bl:=ayY h3 (by omega);unfold wI at h;omega
  have ar:Z.length=k:=by have:=congrArg List.length I;simpa [aky] using this
  by_cases ag:k<K
  ·
   by_cases am:wI L bl k<L-1
   ·
    have k0:=cell_regrown c0;have k1:=cell_regrown c1;have k2:=cell_regrown c2;have k3:=cell_regrown c3;have k4:=cell_regrown c4;have k5:=cell_regrown c5;have k6:=cell_regrown z;have k7:=cell_regrown A;have k8:=cell_regrown C;have cW:∀d os,Calls ZP 126 #[.agg (aci wk bl rg o j s fr L y),.int .i64 k] (grow (redrawn wr d) os) fun e w''=>e=.returned (.int .i64 (wI L bl k))/\∃p:Regrown,w''=grow (redrawn wr p.d) p.os:=
     fun d os=>Calls.regrown_of (af5 wk bl rg o j s fr L y k _ h1 h2 h3 h4 (by omega))
    gi_wp2
    refine abC (af1 _ _) mixed (by kernel_rfl) (by kernel_rfl) ?_
    repeat (go_big_quiet_step (exact cW _ _))
    refine wpQuiet_nil ?_;rintro _ ⟨⟨dq,H⟩,rfl⟩;obtain⟨U,X⟩:∃U,grow (redrawn wr dq) H=U:=⟨_,rfl⟩;rw [X];have D:Below wr.heap.size wr U:=X ▸ below_regrown wr dq H;clear X k0 k1 k2 k3 k4 k5 k6 k7 k8 cW c0 c1 c2 c3 c4 c5 z A C;have Y:U.heap[N]?=_:=(D.block N (awU.1 V).1).trans V;obtain⟨c0,c1,c2,c3,c4,c5,z,A,C⟩:=cells U Y;have k0:=cell_regrown c0;have k1:=cell_regrown c1;have k2:=cell_regrown c2;have k3:=cell_regrown c3;have k4:=cell_regrown c4;have k5:=cell_regrown c5;have k6:=cell_regrown z;have k7:=cell_regrown A;have k8:=cell_regrown C;have cW:∀d os,Calls ZP 126 #[.agg (aci wk bl rg o j s fr L y),.int .i64 k] (grow (redrawn U d) os) fun e w''=>e=.returned (.int .i64 (wI L bl k))/\∃p:Regrown,w''=grow (redrawn U p.d) p.os:=
     fun d os=>Calls.regrown_of (af5 wk bl rg o j s fr L y k _ h1 h2 h3 h4 (by omega))
    gi_wp2
    refine af2 (af1 _ _) 8 mixed (by kernel_rfl) (by kernel_rfl) ?_;dsimp only [List.take_succ_cons,List.take_zero,List.drop_succ_cons,List.drop_zero]
    repeat (go_big_quiet_step (exact cW _ _))
    refine wpQuiet_nil ?_;rintro _ ⟨⟨al,a6⟩,rfl⟩;obtain⟨W3,ab⟩:∃W3,grow (redrawn U al) a6=W3:=⟨_,rfl⟩;rw [ab];have ai:Below U.heap.size U W3:=ab ▸ below_regrown U al a6;clear ab k0 k1 k2 k3 k4 k5 k6 k7 k8 cW c0 c1 c2 c3 c4 c5 z A C;have ak:W3.heap[N]?=_:=(ai.block N (awU.1 Y).1).trans Y;obtain⟨fn,tmps,assign,body,hy,ad⟩:=hY Z ⟨(wI L bl k+bl,1),by simp;omega,by simp;omega,by simp,by simp⟩ W3 (aaK hJ (aaK hJ hj D) ai) (by omega);dsimp only [ahq] at hy
    gi_wp2
    refine ad.mono ?_;rintro e W4 (⟨rfl,hJ4,hk4⟩ | ⟨rfl,hJx4⟩)
    ·
     gi_wp2
     go_roundw
     case rel=>exact⟨k+1,_,by omega,HL.out am,by go_num,by rw [aij];simp [I],hJ4,hk4.trans ak⟩
     case measure=>simp [intOf];omega
    ·
     gi_wp2
     refine bodyPost_ret (results_none rfl _ _ _) rfl ?_;exact⟨⟨_,rfl⟩,.inr ⟨_,trivial,hJx4⟩⟩
   ·
    have k0:=cell_regrown c0;have k1:=cell_regrown c1;have k2:=cell_regrown c2;have k3:=cell_regrown c3;have k4:=cell_regrown c4;have k5:=cell_regrown c5;have k6:=cell_regrown z;have k7:=cell_regrown A;have k8:=cell_regrown C;have cW:∀d os,Calls ZP 126 #[.agg (aci wk bl rg o j s fr L y),.int .i64 k] (grow (redrawn wr d) os) fun e w''=>e=.returned (.int .i64 (wI L bl k))/\∃p:Regrown,w''=grow (redrawn wr p.d) p.os:=
     fun d os=>Calls.regrown_of (af5 wk bl rg o j s fr L y k _ h1 h2 h3 h4 (by omega))
    gi_wp2
    refine abC (af1 _ _) mixed (by kernel_rfl) (by kernel_rfl) ?_
    repeat (go_big_quiet_step (exact cW _ _))
    refine wpQuiet_nil ?_;rintro _ ⟨⟨dq,H⟩,rfl⟩;obtain⟨U,X⟩:∃U,grow (redrawn wr dq) H=U:=⟨_,rfl⟩;rw [X];have D:Below wr.heap.size wr U:=X ▸ below_regrown wr dq H;clear X k0 k1 k2 k3 k4 k5 k6 k7 k8 cW c0 c1 c2 c3 c4 c5 z A C;have Y:U.heap[N]?=_:=(D.block N (awU.1 V).1).trans V;obtain⟨c0,c1,c2,c3,c4,c5,z,A,C⟩:=cells U Y;obtain⟨fn,tmps,assign,body,hy,ad⟩:=hY Z ⟨(L-1+bl,(K:Int)-(k:Int)),by simp;omega,by simp;omega,by simp;omega,by simp;omega⟩ U (aaK hJ hj D) (by omega);dsimp only [ahq] at hy
    gi_wp2
    refine ad.mono ?_;clear c0 c1 c2 c3 c4 c5 z A C;rintro e W4 (⟨rfl,hJ4,hk4⟩ | ⟨rfl,hJx4⟩)
    ·
     have aj:W4.heap[N]?=_:=hk4.trans Y;obtain⟨c0,c1,c2,c3,c4,c5,z,A,C⟩:=cells _ aj
     by_cases ac:0<R
     ·
      gi_wp2_with fail
      refine (callsIn_wide.2 (af5 wk bl rg o j s fr L y K _ h1 h2 h3 h4 (by omega))).mono ?_;rintro e W6 ⟨rfl,aa⟩;have ao:=apb (L:=L) (B:=bl) h1 h3 K;obtain⟨aq,a7,a2,af,a8,a1⟩:=hY (Z++[⟨(L-1+bl,(K:Int)-(k:Int)),_⟩]) ⟨(wI L bl K+R,1),by simp;omega,by simp;omega,by simp,by simp⟩ W6 (aaK hJ hJ4 aa) (by simp;omega);dsimp only [ahq] at a8
      gi_wp2
      refine a1.mono ?_;rintro e W7 (⟨rfl,hJ7,hk7⟩ | ⟨rfl,hJx7⟩)
      ·
       gi_wp2
       go_end0
       exact⟨⟨_,rfl⟩,.inl ⟨_,HS.out k hk (fun _=>by omega) _ (by rw [HT.out k];simp [I,ac,ag,Int.ofNat_sub hk]),hJ7⟩⟩
      ·
       gi_wp2
       go_end0
       exact⟨⟨_,rfl⟩,.inr ⟨_,trivial,hJx7⟩⟩
     ·
      gi_wp2
      go_end0
      exact⟨⟨_,rfl⟩,.inl ⟨_,HS.out k hk (fun _=>by omega) _ (by rw [HT.out k,if_neg (by omega:¬0<R)];simp [I,ag,Int.ofNat_sub hk]),hJ4⟩⟩
    ·
     gi_wp2
     refine bodyPost_ret (results_none rfl _ _ _) rfl ?_;exact⟨⟨_,rfl⟩,.inr ⟨_,trivial,hJx4⟩⟩
  ·
   obtain rfl:k=K:=by omega
   gi_wp2
   refine abC (af1 _ _) mixed (by kernel_rfl) (by kernel_rfl) ?_
   repeat (go_big_quiet_step (fail))
   refine wpQuiet_nil ?_;rintro _ ⟨⟨dq,H⟩,rfl⟩;obtain⟨U,X⟩:∃U,grow (redrawn wr dq) H=U:=⟨_,rfl⟩;rw [X];have D:Below wr.heap.size wr U:=X ▸ below_regrown wr dq H;clear X c0 c1 c2 c3 c4 c5 z A C;have Y:U.heap[N]?=_:=(D.block N (awU.1 V).1).trans V;have ah:=aaK hJ hj D;obtain⟨c0,c1,c2,c3,c4,c5,z,A,C⟩:=cells _ Y
   by_cases ac:0<R
   ·
    gi_wp2_with fail
    refine (callsIn_wide.2 (af5 wk bl rg o j s fr L y k _ h1 h2 h3 h4 (by omega))).mono ?_;rintro e W6 ⟨rfl,aa⟩;have ao:=apb (L:=L) (B:=bl) h1 h3 k;obtain⟨aq,a7,a2,af,a8,a1⟩:=hY (Z) ⟨(wI L bl k+R,1),by simp;omega,by simp;omega,by simp,by simp⟩ W6 (aaK hJ ah aa) (by omega);dsimp only [ahq] at a8
    gi_wp2
    refine a1.mono ?_;rintro e W7 (⟨rfl,hJ7,hk7⟩ | ⟨rfl,hJx7⟩)
    ·
     gi_wp2
     go_end0
     exact⟨⟨_,rfl⟩,.inl ⟨_,HS.out k hk (fun h=>by omega) _ (by rw [HT.out k];simp [I,ac]),hJ7⟩⟩
    ·
     gi_wp2
     go_end0
     exact⟨⟨_,rfl⟩,.inr ⟨_,trivial,hJx7⟩⟩
   ·
    gi_wp2
    go_end0
    exact⟨⟨_,rfl⟩,.inl ⟨_,HS.out k hk (fun h=>by omega) _ (by rw [HT.out k,if_neg (by omega:¬0<R)];simp [I]),ah⟩⟩
end
section
attribute [local go_sem] Oper.semAt_some
attribute [local simp] aab aa6
attribute [local go_sem] aab aa6
theorem akj (wk bl rg U N V fr L y:Int)(n Y:Nat)(h1:1<=L)(h2:L<=32)(h3:1<=bl)(h4:bl<=256)(h5:0<=y)(h6:y<=2147483647)(w:World)
  (Z:w.heap[Y]?=some (.cells (aci wk bl rg U N V fr L y) 139 (0,0))) :
  SeqStopsK Fence.wide n ZP 125 #[.pointer (some ⟨Y,0,none⟩)] ahq (aio Y) (aiJ L bl y) (fun _=>True) 34 w:=
 fun l J D W hW H X I h0=>aqr wk bl rg U N V fr L y n l Y h1 h2 h3 h4 h5 h6 J D W H X I ((hW.block Y (awU.1 Z).1).trans Z) h0
theorem aoJ (wk bl rg Y X Z fr L y:Int)(w:World) :
  Calls ZP 82 #[.agg (aci wk bl rg Y X Z fr L y)] w fun e w'=>e=.returned (.func (.func 125) #[] #[.pointer (some ⟨w.heap.size,0,none⟩)])/\w'=w.alloc (.cells (aci wk bl rg Y X Z fr L y) 139):=by
 go_enter func82,ntmps82;go_wp2;go_ret;exact⟨rfl,rfl⟩
theorem aqL (wk bl rg Y X Z fr L y:Int)(w:World)(V:adm wk bl rg Y X Z fr L y=false) :
  Calls ZP 48 #[.agg (ae4 wk bl rg Y X Z fr),.int .i64 L,.int .i64 y] w fun e w'=>e=.returned (.tuple #[.int .i64 0,.int .i64 2])/\Below w.heap.size w w':=by
 go_enter func48,ntmps48
 go_wp2_with fail
 refine (ais _ _ _ _ _ _ _ _ _ _).mono ?_;rintro e w' ⟨rfl,U⟩;rw [V];go_wp2;go_ret2;exact⟨rfl,(((axf _ _).alloc (axe _) _).alloc (by simp) _).trans (U.mono (by simp;omega))⟩
theorem aut {S:Int}(J:1<=S)(xs:List Blk):0<=aol S (xs.map (·.1))/\aol S (xs.map (·.1))<=xs.length*2147483647000:=by
 obtain⟨n,Z⟩:∃n,xs.length=n:=⟨_,rfl⟩
 induction n generalizing xs with
 | zero=>obtain rfl:=ayk Z;simp [aol]
 | succ n ih'=>
  obtain⟨l,x,rfl⟩:∃l x,xs=l++[x]:=⟨xs.dropLast,xs.getLast (by intro h;simp [h] at Z),(ayO _).symm⟩;have D:=ih' l (by simpa using Z);obtain⟨⟨d,b⟩,Y,N,V,X⟩:=x;have U:=adB J Y;dsimp only at *;have H:0<=b*abF S d:=azj V U.1;have I:b*abF S d<=2147483647*1000:=Int.mul_le_mul X (by omega) U.1 (by omega);rw [ay7,ax0,ax1,adM];simp only [List.length_append,axU,axV];omega
theorem anO (wk bl rg X V Z fr L y:Int)(w:World)(hr:adm wk bl rg X V Z fr L y=true) :
  Calls ZP 48 #[.agg (ae4 wk bl rg X V Z fr),.int .i64 L,.int .i64 y] w fun e w'=>e=.returned (.tuple #[.int .i64 (acs L bl Z y),.int .i64 0])/\Below w.heap.size w w':=by
 have z:=hr;simp only [adm,ayz,abE,btw,decide_eq_true_eq] at z;obtain⟨⟨⟨_,⟨b1,b2⟩,_,_,_,⟨s1,s2⟩,_⟩,l1,l2⟩,y1,y2⟩:=z;refine aau func48 rfl ?_;simp only [ntmps48,axT,axU,axV,Nat.reduceAdd,Nat.reduceSub,axW,axX,axY,axZ,ay0,ay1]
 go_wp2_with fail
 refine (ais _ _ _ _ _ _ _ _ _ _).mono ?_;rintro e Y ⟨rfl,hb⟩;rw [hr];obtain⟨hc,hf⟩:=arf hb;have aa:Below w.heap.size w Y:=(((axf _ _).alloc (axe _) _).alloc (by simp) _).trans (hb.mono (by simp;omega));have ac:w.heap.size+1<Y.heap.size:=by have:=hb.size;simp at this;omega
 have a7:Y.heap[w.heap.size+1]?=some (.cells (aci wk bl rg X V Z fr L y) 139 (0,0)):=by
  refine (hb.block _ (by simp)).trans ?_;have:=axg (w.alloc (.cells (ae4 wk bl rg X V Z fr) 26)) (.cells (aci wk bl rg X V Z fr L y) 139)
  rwa [ax7] at this
 go_wp2_with (go_at_call 82;refine (aoJ _ _ _ _ _ _ _ _ _ _).mono ?_;rintro e w' ⟨rfl,rfl⟩)
 have a1:((Y.alloc (.cells #[.int .i64 0] 3)).alloc (.cells (aci wk bl rg X V Z fr L y) 139)).heap[Y.heap.size+1]?=some (.cells (aci wk bl rg X V Z fr L y) 139 (0,0)):=by
  have:=axg (Y.alloc (.cells #[.int .i64 0] 3)) (.cells (aci wk bl rg X V Z fr L y) 139)
  rwa [ax7] at this
 have bM:=(Boxed.new Y 3 (.int .i64 0)).alloc (.cells (aci wk bl rg X V Z fr L y) 139);have a8:Below w.heap.size w ((Y.alloc (.cells #[.int .i64 0] 3)).alloc (.cells (aci wk bl rg X V Z fr L y) 139)):=(aa.alloc (by omega) _).alloc (by simp;omega) _;have a6:((Y.alloc (.cells #[.int .i64 0] 3)).alloc (.cells (aci wk bl rg X V Z fr L y) 139)).heap[w.heap.size+1]?=some (.cells (aci wk bl rg X V Z fr L y) 139 (0,0)):=by
  rw [axi _ _ _ (by simp;omega),axi _ _ _ (by omega)];exact a7
 apply ait rfl (enters_of func125 (by kernel_rfl) rfl) (akj wk bl rg X V Z fr L y 8 (Y.heap.size+1) l1 l2 b1 b2 y1 y2 _ a1) asN (ast (by simp)) (fun _=>rfl)
  (fun U W=>Boxed W Y.heap.size 3 (.int .i64 (aol Z (U.map (·.1))))/\Below w.heap.size w W/\W.heap[w.heap.size+1]?=some (.cells (aci wk bl rg X V Z fr L y) 139 (0,0)))
  (fun _ _ _=>False)
 case hI=>
  refine OwnFrom.and (Own.from (boxed_own _ _ _) _) (OwnFrom.and (ownFrom_below (axe _) (by simp;omega)) ?_);exact fun s A B row H hg C=>(hg.block _ (awU.1 H).1 (fun e=>by have:=(C _ e.symm).1;simp at this;omega)).trans H
 case hIx=>exact fun _ _ _ _ _ H _ _=>H
 case h0=>exact⟨bM,a8,a6⟩
 case hassign=>
  intro l x W K hK;unfold ahq
  gi_wp2
  exact hK
 case hbody=>
  rintro l U ⟨⟨d,b⟩,N,a2,o,v⟩ W ⟨j,hB,hR⟩ ab;dsimp only at N a2 o v ⊢;have hp:=adB s1 N;have H:=aut s1 U;have m0:0<=b*abF Z d:=azj o hp.1;have m1:b*abF Z d<=2147483647*1000:=Int.mul_le_mul v (by omega) hp.1 (by omega);have hc:=j.cell;have hf:=j.frozen;have ad:W.cell? ⟨w.heap.size+1,5,none⟩=some (.int .i64 Z):=by simp [World.cell?,hR]
  gi_wp2
  refine aaJ (av3 _ _ _) 9 mixed (by kernel_rfl) (by kernel_rfl) ?_;dsimp only [List.take_succ_cons,List.take_zero,List.drop_succ_cons,List.drop_zero]
  repeat (go_big_quiet_step (exact aoB (aku Z d _ s1 N (by omega) (by omega))))
  refine wpQuiet_nil ?_;rintro _ ⟨nq,rfl⟩
  gi_wp2
  have kO:=(ayI W ⟨Y.heap.size,0,none⟩ (.int .i64 (aol Z (U.map (·.1))+b*abF Z d))).from ((Y.alloc (.cells #[.int .i64 0] 3)).alloc (.cells (aci wk bl rg X V Z fr L y) 139)).heap.size;have I:=hB.setCell (p:=⟨Y.heap.size,0,none⟩) (by show w.heap.size<=Y.heap.size;omega) (.int .i64 (aol Z (U.map (·.1))+b*abF Z d));refine⟨⟨kO.size,kO.same⟩,?_,?_,⟨I.os,I.tape,I.output,I.size,I.block⟩,?_⟩
  · exact axn W ⟨Y.heap.size,0,none⟩ _ _ (by simp)
  · rw [ay7,ax0,ax1,adM];exact j.set _
  · exact (axn W ⟨Y.heap.size,0,none⟩ _ _ (by simp;omega)).trans hR
 case hdone=>
  rintro D xs W hD hS ⟨j,hB,hR⟩ hK;have hc:=j.cell;have hT:Hid (aol Z (xs.map (·.1))=acs L bl Z y):=by
   obtain⟨k0,hk,J,hx⟩:=hS;rw [hx];exact arF b1 hk J
  go_wp2;refine ar0 rfl hK (results_tmp2 rfl _ _ _) ⟨?_,aaS hB (by simp at hD;omega) (axe _) _⟩;rw [<-hT.out]
  rfl
 case hstop=>exact fun _ _ _ _ _ _ h _=>h.elim
end
theorem akT {α:Type}{l:List α}{k:Nat}{x:α}(h:l[k]?=some x):l.take (k+1)=l.take k++[x]:=by
 rw [axH,h];rfl
/-! ### the functions' answers -/
section answers
variable (wk bl rg qu ou sl fr:Int)
def atQ (L y:Int):Int:=if adm wk bl rg qu ou sl fr L y then acs L bl sl y else 0
def aty (L y:Int):Int:=if adm wk bl rg qu ou sl fr L y then 0 else 2
def ave (L y r h:Int):Bool:=adm wk bl rg qu ou sl fr L y&&btw r 0 2147483647&&btw h 0 2147483647
def atV (L y r h:Int):Int:=if ave wk bl rg qu ou sl fr L y r h then 6*adn y bl+r+wk+acs L bl sl y+2*h+5 else 0
def atB (L y r h:Int):Int:=if ave wk bl rg qu ou sl fr L y r h then 0 else 2
def auA:Int:=if ac2 wk bl rg qu ou sl fr then 2*wk+qu+4 else 0
def aux:Int:=if ac2 wk bl rg qu ou sl fr then 0 else 2
def avl (L:Int):Bool:=ac2 wk bl rg qu ou sl fr&&btw L 1 32
def avm (L:Int):Int:=if avl wk bl rg qu ou sl fr L then rg*(bl+L-1) else 0
def avG (L:Int):Int:=if avl wk bl rg qu ou sl fr L then 0 else 2
end answers
def als (size:Int)(l:List Int):Int:=l.foldl (fun s n=>s+adn n size) 0
theorem akO (size:Int)(l:List Int)(n:Int):als size (l++[n])=als size l+adn n size:=by simp [als]
theorem aoq {size:Int}(h:size<1)(l:List Int):als size l=0:=by
 have:∀(l:List Int) (a:Int),l.foldl (fun s n=>s+adn n size) a=a:=by
  intro l
  induction l with
  | nil=>intro a;rfl
  | cons n l ih=>intro a;rw [List.foldl_cons,ih];simp [adn,h]
 exact this l 0
theorem aiV {n size:Int}:0<=adn n size/\(adn n size<=n∨adn n size=0):=by
 unfold adn
 split
 · exact⟨by omega,.inr rfl⟩
 ·
  rename_i h
  have:=adB (s:=size) (b:=n) (by omega) (by omega);omega
theorem aum (size:Int){M:Int}(U:0<=M):∀(l:List Int),(∀n∈l,n<=M)->0<=als size l/\als size l<=l.length*M:=by
 intro l;obtain⟨n,Y⟩:∃n,l.length=n:=⟨_,rfl⟩
 induction n generalizing l with
 | zero=>obtain rfl:=ayk Y;simp [als]
 | succ n ih'=>
  obtain⟨Z,x,rfl⟩:∃Z x,l=Z++[x]:=⟨l.dropLast,l.getLast (by intro h;simp [h] at Y),(ayO _).symm⟩;intro h;have X:=ih' Z (by simpa using Y) (fun n Y=>h n (by simp [Y]));have V:=h x (by simp);have ho:=aiV (n:=x) (size:=size);rw [akO];have e:((Z++[x]).length:Int)*M=Z.length*M+M:=by simp [az1]
  rw [e];omega
/-! ### sizes -/
theorem aq0 {L B S:Int}(Y:1<=L)(X:1<=B)(Z:1<=S):∀k,0<=aoX L B S k/\aoX L B S k<=k*(L-1+B)
 | 0=>by simp [aoX]
 | k+1=>by
  have V:=aq0 Y X Z k;have U:=apb (L:=L) (B:=B) Y X k;have N:=adB (s:=S) (b:=wI L B k+B) Z (by omega);have e:((k+1:Nat):Int)*(L-1+B)=k*(L-1+B)+(L-1+B):=by rw [az2,az1];simp
  rw [aoX,e];omega
theorem aph {L B S y:Int}(V:1<=L)(U:L<=32)(Z:1<=B)(N:B<=256)(X:1<=S)(Y:0<=y):0<=acs L B S y/\acs L B S y<=y*287+287:=by
 have h1:=aq0 (S:=S) V Z X (y / B).toNat;have h2:=(ahX Z Y).2;have h3:(((y / B).toNat:Nat):Int)*(L - 1+B)<=y*287:=Int.mul_le_mul h2 (by omega) (by omega) Y;have H:=apb (L:=L) (B:=B) V Z (y / B).toNat;have I:0<=y % B:=Int.emod_nonneg _ (by omega);have J:y % B<B:=Int.emod_lt_of_pos _ (by omega);have D:=adB (s:=S) (b:=wI L B (y / B).toNat+y % B) X (by omega);unfold acs
 split<;>omega
/-! ### the document's loop -/
def Sl1 {α:Type}(enc:α->Value)(w:World)(a:Option Addr)(len:Nat)(xs:List α):Prop:=
 xs.length=len/\(len=0∨∃b off,a=some ⟨b,off,none⟩/\b<w.heap.size/\∀i x,xs[i]?=some x->w.cell? ⟨b,off+i,none⟩=some (enc x))
theorem Sl1.below {α:Type}{enc:α->Value}{w w':World}{a:Option Addr}{len:Nat}{xs:List α}(h:Sl1 enc w a len xs)(Y:Below w.heap.size w w'):Sl1 enc w' a len xs:=by
 obtain⟨h1,h2 | ⟨b,off,e,Z,V⟩⟩:=h
 · exact⟨h1,.inl h2⟩
 · exact⟨h1,.inr ⟨b,off,e,ax6 Z Y.size,fun i x X=>(Y.cell (p:=⟨b,off+i,none⟩) Z).trans (V i x X)⟩⟩
theorem agY (wk bl rg Y X Z fr:Int)(w:World) :
  Calls ZP 20 #[.agg (ae4 wk bl rg Y X Z fr)] w fun e w'=>e=.returned (.tuple #[.int .i64 (auA wk bl rg Y X Z fr),.int .i64 (aux wk bl rg Y X Z fr)])/\Below w.heap.size w w':=by
 go_enter func20,ntmps20
 go_wp2_with fail
 refine (af4 _ _ _ _ _ _ _ _).mono ?_;rintro e w' ⟨rfl,V⟩;obtain⟨I,J⟩:=arf V;have U:Below w.heap.size w w':=((axf _ _).alloc (axe _) _).trans (V.mono (by simp))
 by_cases h:ac2 wk bl rg Y X Z fr=true
 · have N:=abE.1 h;obtain⟨⟨_,_⟩,_,_,⟨_,_⟩,_⟩:=N;rw [h];go_wp2;go_ret2;exact⟨by simp [auA,aux,h],U⟩
 ·
  have h2:ac2 wk bl rg Y X Z fr=false:=by simpa using h
  rw [h2];go_wp2;go_ret2;exact⟨by simp [auA,aux,h2],U⟩
theorem arN (wk bl rg Y X Z fr L:Int)(w:World) :
  Calls ZP 50 #[.agg (ae4 wk bl rg Y X Z fr),.int .i64 L] w fun e w'=>e=.returned (.tuple #[.int .i64 (avm wk bl rg Y X Z fr L),.int .i64 (avG wk bl rg Y X Z fr L)])/\Below w.heap.size w w':=by
 go_enter func50,ntmps50
 go_wp2_with fail
 refine (af4 _ _ _ _ _ _ _ _).mono ?_;rintro e w' ⟨rfl,I⟩;obtain⟨A,B⟩:=arf I;have J:Below w.heap.size w w':=((axf _ _).alloc (axe _) _).trans (I.mono (by simp))
 by_cases h:ac2 wk bl rg Y X Z fr=true
 ·
  by_cases N:btw L 1 32=true
  ·
   have H:=abE.1 h;obtain⟨⟨_,_⟩,⟨_,_⟩,⟨_,_⟩,⟨_,_⟩,_⟩:=H;have U:=N;simp only [btw,ayz,decide_eq_true_eq] at U;obtain⟨_,_⟩:=U;have C:0<=rg*(bl+L-1):=azj (by omega) (by omega);have D:rg*(bl+L-1)<=16*287:=Int.mul_le_mul (by omega) (by omega) (by omega) (by omega);rw [h]
   go_wp2_with (go_at_call 85;refine (aj3 _ _).mono ?_;rintro e w' ⟨rfl,rfl⟩;rw [N])
   go_ret2;exact⟨by simp [avm,avG,avl,h,N],J⟩
  ·
   have V:btw L 1 32=false:=by simpa using N
   rw [h]
   go_wp2_with (go_at_call 85;refine (aj3 _ _).mono ?_;rintro e w' ⟨rfl,rfl⟩;rw [V])
   go_ret2;exact⟨by simp [avm,avG,avl,h,V],J⟩
 ·
  have h2:ac2 wk bl rg Y X Z fr=false:=by simpa using h
  rw [h2];go_wp2;go_ret2;exact⟨by simp [avm,avG,avl,h2],J⟩
theorem aew (size:Int)(a:Option Addr)(len cap:Nat)(zs:List Int)(w:World)(j:-9223372036854775808<=size/\size<=9223372036854775807)(hl:len<=60)(Y:∀n∈zs,n<=1099511627776)(h:Sl1 (Value.int .i64) w a len zs) :
  Calls ZP 51 #[.int .i64 size,.slice a len cap] w fun e w'=>e=.returned (.int .i64 (als size zs))/\w=w':=by
 obtain⟨o,v⟩:=j
 by_cases h1:size<1
 · rw [aoq h1];go_enter func51,ntmps51;go_wp2;go_ret;exact⟨rfl,rfl⟩
 ·
  obtain⟨Z,D⟩:=h;have A:=ax3 Y;have y:=ax3 Z;clear Y Z;go_enter func51,ntmps51;go_wp2
  go_loop [5,12] (fun s i=>∃k:Nat,k<=len/\i=.int .i64 k/\s=.int .i64 (als size (zs.take k))) (fun _ i=>len-(intOf i).toNat)
  case atStart=>exact⟨0,axh _,rfl,rfl⟩
  case round=>
   obtain⟨k,hk,rfl,rfl⟩:=hrel
   by_cases N:k<len
   ·
    obtain⟨z,Y⟩:∃z,zs[k]?=some z:=⟨zs[k]'(by rw [y.out];exact N),by simp⟩;have x:=A.out z (ay9 Y);obtain⟨b,off,rfl,_,C⟩:=D.resolve_left (by omega);have J:=C k z Y;have X:=akT Y;have a1:=aum size (M:=1099511627776) (by omega) (zs.take k) (fun n hn=>A.out n (axk hn));have I:((zs.take k).length:Int)<=60:=by have:=axj k zs;omega
    have B:((zs.take k).length:Int)*1099511627776<=60*1099511627776:=Int.mul_le_mul_of_nonneg_right I (by omega);have U:=aiV (n:=z) (size:=size);have V:Hid (als size (zs.take (k+1))=als size (zs.take k)+adn z size):=by rw [X,akO];rfl
    have HO:Hid (1<=z->adn z size=abF size z):=fun h=>by unfold adn;rw [if_neg (by omega)]
    have HN:Hid (z<1->adn z size=0):=fun h=>by unfold adn;rw [if_pos (by omega)]
    clear X Y C D
    by_cases H:1<=z
    ·
     rw [HO.out H] at V U
     go_wp2_with (go_at_call 83;refine (aku _ _ _ (by omega) (by omega) (by omega) (by omega)).mono ?_;rintro e w' ⟨rfl,rfl⟩)
     go_round
     case rel=>exact⟨k+1,by omega,by go_num,by rw [V.out]⟩
     case measure=>simp [intOf];omega
    ·
     rw [HN.out (by omega)] at V;go_wp2
     go_round
     case rel=>exact⟨k+1,by omega,by go_num,by rw [V.out,Int.add_zero]⟩
     case measure=>simp [intOf];omega
   ·
    obtain rfl:k=len:=by omega
    go_wp2;go_ret;exact⟨aez (by rw [axo (by rw [y.out];exact axe _)]),rfl⟩
section
open Go.ChangeShapes Go.WideShapes Go.ChangeAt Go.RowKit Go.Joins
open Go.ChangeMaps (open_string shut_string)
theorem own:ownKnob ZP.godebug=none:=by kernel_rfl
theorem laidOut:laidOutB ZP=true:=by kernel_rfl
theorem aoA:ZP.cellsOf 26=7:=by kernel_rfl
theorem ach:ZP.cellsOf 3=1:=by kernel_rfl
section
variable {H:Type}{enc:TypeId×Value->H}{W:World}{r:Reach}{base:Nat}{d:DataW H}{p:List MemPlace}{v:Value}
theorem atz (Y:Value.okWide ZP W r base 3 v)(h:DataW.Trod enc ZP W 0 (fun _=>true) true 3 v d p) :
  ∃n:Int,v=.int .i64 n/\-9223372036854775808<=n/\n<=9223372036854775807:=by
 obtain⟨n,rfl,_,_,Z⟩:=open_int underlying3 Y h;refine⟨n,rfl,?_⟩;simp [Lit.wf,IntKind.min,IntKind.max,IntKind.signed,IntKind.bits] at Z;omega
theorem alz (B:Value.okWide ZP W r base 30 v)(h:DataW.Trod enc ZP W 0 (fun _=>true) true 30 v d p) :
  ∃(a:Option Addr) (len cap:Nat) (zs:List Int),v=.slice a len cap/\Sl1 (Value.int .i64) W a len zs:=by
 obtain⟨a,len,cap,rfl⟩:=okWide_slice underlying30 B;refine⟨a,len,cap,?_⟩;obtain⟨J,z⟩:=h
 rcases open_ints underlying30 underlying3 (by kernel_rfl) z with ⟨Z,_⟩ | ⟨x,l,c,zs,Z,_,s,y,D,_,Y,C⟩
 · simp [Value.cells] at Z;obtain⟨rfl,rfl,rfl⟩:=Z;exact⟨[],rfl,rfl,.inl rfl⟩
 ·
  simp [Value.cells] at Z;obtain⟨rfl,rfl,rfl⟩:=Z;have I:zs.length=cap:=by simpa using D
  refine⟨zs.take len,rfl,by simp;omega,?_⟩
  by_cases h0:len=0
  · exact .inl h0
  ·
   right
   obtain⟨b,off,V⟩:=x;have N:=Y 0 (by omega);have X:V=none:=by simpa [Addr.add] using World.cell?_spot N
   subst X;refine⟨b,off,rfl,?_,?_⟩
   ·
    have:=awQ W _ N
    simpa [Addr.add] using this
   ·
    intro i x U;have A:i<len:=by have:=(awR.1 U).1;simp at this;omega
    have h1:=Y i (by omega);rw [Addr.add_lit] at h1;rw [h1];rw [awS,if_pos A] at U;simp [U]
end
end
def aaU (x:Int):Int:=if 65<=x/\x<=90 then x+32 else x
def aai (fold:Bool)(xs:List Int):List Int:=if fold then xs.map aaU else xs
def abT (fold:Bool)(xs ys:List Int):Bool:=decide (aai fold xs=aai fold ys)
def atL (fold:Bool)(X:List Int)(Z:Int)(Y:List Int):Bool:=
 decide ((Y.length:Int)<=Z/\Z<=(X.length:Int))&&abT fold ((X.drop (Z.toNat-Y.length)).take Y.length) Y
def akV (fold:Bool)(Z:List Int)(wss:List (List Int)):Option Nat:=wss.findIdx? (fun w=>abT fold Z w)
def aaw (fold:Bool)(Z:List Int)(wss:List (List Int)):Int:=match akV fold Z wss with | none=>-1 | some k=>k
theorem ad8 {x:Int}(h:0<=x/\x<=255):0<=aaU x/\aaU x<=255:=by unfold aaU;split<;>omega
theorem amf (x:Int):aaU (aaU x)=aaU x:=by unfold aaU;by_cases h:65<=x/\x<=90<;>simp [h]<;>omega
theorem aas (fold:Bool)(xs:List Int):(aai fold xs).length=xs.length:=by cases fold<;>simp [aai]
theorem ahB (fold:Bool)(xs:List Int):aai fold (aai fold xs)=aai fold xs:=by
 cases fold
 · rfl
 · simp only [aai,if_true,List.map_map];exact axD fun x _=>amf x
theorem af7 {fold:Bool}{xs:List Int}(h:∀x∈xs,0<=x/\x<=255):∀x∈aai fold xs,0<=x/\x<=255:=by
 cases fold
 · exact h
 · intro x Z;simp only [aai,if_true,axE] at Z;obtain⟨y,Y,rfl⟩:=Z;exact ad8 (h y Y)
theorem ahZ (fold:Bool)(xs ys:List Int):abT fold xs ys=abT fold ys xs:=by
 unfold abT
 by_cases h:aai fold xs=aai fold ys
 · simp [h]
 · simp [h];exact fun e=>h e.symm
theorem akW {fold:Bool}{xs ys:List Int}(h:abT fold xs ys=true):xs.length=ys.length:=by
 have:=of_decide_eq_true h;have h2:=congrArg List.length this
 rwa [aas,aas] at h2
theorem arD {fold:Bool}{xs ys:List Int}(h:xs.length≠ys.length):abT fold xs ys=false:=by
 cases e:abT fold xs ys with
 | false=>rfl
 | true=>exact absurd (akW e) h
def anD (fold:Bool)(x y:Int):Bool:=if fold then decide (aaU x=aaU y) else decide (x=y)
theorem af8 (fold:Bool)(xs:List Int):aai fold xs=xs.map (fun x=>if fold then aaU x else x):=by cases fold<;>simp [aai]
theorem agW {fold:Bool}:∀{xs ys:List Int},xs.length=ys.length->(abT fold xs ys=true↔∀p∈xs.zip ys,anD fold p.1 p.2=true)
 | [],[],_=>by simp [abT]
 | x :: xs,y :: ys,h=>by
  have Z:=agW (fold:=fold) (xs:=xs) (ys:=ys) (by simpa using h);unfold abT at Z ⊢;rw [af8,af8] at Z ⊢;simp only [decide_eq_true_eq] at Z ⊢;simp only [ax0,axF,List.zip_cons_cons,axG,forall_eq_or_imp,Z]
  cases fold<;>simp [anD]
 | [],_ :: _,h=>by simp at h
 | _ :: _,[],h=>by simp at h
theorem ai5 (fold:Bool)(Z:List Int):aaw fold Z []=-1:=rfl
theorem aec {fold:Bool}{Z:List Int}{wss:List (List Int)}{y:List Int}(h:aaw fold Z wss=-1)(Y:abT fold Z y=false):aaw fold Z (wss++[y])=-1:=by
 unfold aaw akV at h ⊢;rw [List.findIdx?_append]
 cases e:wss.findIdx? (fun w=>abT fold Z w) with
 | none=>simp [Y]
 | some k=>rw [e] at h;simp at h
theorem aie {fold:Bool}{Z:List Int}{wss rest:List (List Int)}{y:List Int}(h:aaw fold Z wss=-1)(Y:abT fold Z y=true):aaw fold Z (wss++y :: rest)=wss.length:=by
 unfold aaw akV at h ⊢;rw [List.findIdx?_append]
 cases e:wss.findIdx? (fun w=>abT fold Z w) with
 | none=>simp [Y,List.findIdx?_cons]
 | some k=>rw [e] at h;simp at h
theorem apI (fold:Bool)(Z:List Int)(wss:List (List Int)):-1<=aaw fold Z wss/\aaw fold Z wss<wss.length:=by
 unfold aaw akV
 cases e:wss.findIdx? (fun w=>abT fold Z w) with
 | none=>simp;omega
 | some k=>
  have:=(List.findIdx?_eq_some_iff_getElem.1 e).1;simp;omega
theorem aa7 {α:Type}{xs:List α}{k:Nat}{z:α}(h:xs[k]?=some z):xs.take (k+1)=xs.take k++[z]:=by
 rw [axH,h];rfl
theorem agm {α:Type}{xs:List α}{k:Nat}{z:α}(h:xs[k]?=some z):xs=xs.take k++z :: xs.drop (k+1):=by
 have Y:=(awR.1 h);obtain⟨Z,rfl⟩:=Y;rw [<-List.drop_eq_getElem_cons Z,axI]
def aaY (wss:List (List Int)):Int:=wss.foldl (fun n w=>max n (w.length:Int)) 0
theorem anw (l:List (List Int))(x:List Int):aaY (l++[x])=max (aaY l) (x.length:Int):=by simp [aaY,axJ]
end Go.Proofs.YtaamacoicojhnaaGreat
