/- Proofs over the given program, part 11. -/
import Derived.Test.YtaamacoicojhnaaGreatZQ10
set_option linter.unusedVariables false
set_option linter.unusedSimpArgs false
set_option maxRecDepth 100000
set_option maxHeartbeats 16000000
open Go.Proofs.Tryz
open Go.Proofs.Tryz renaming prog→ZP
open Go.World(cell? frozen?)
open Option renaming some→E,none→O
open Go.Value renaming int→R,slice→T,pointer→L,bool→i6,tuple→ta,agg→i8
open Go.IntKind renaming i64→K
open Bool renaming false→M,true→G
open Go renaming World→Wa,Value→Vk
open Go.Ending renaming returned→ra
open Go.Obj renaming cells→i7
open List renaming length→lc
namespace Go.Proofs.YtaamacoicojhnaaGreat
open Go.RowKit Go.Sort
section
variable {P:Program}{md:Region.Mode}{ops:Array Oper}{Q:Exit->Act->Wa->Prop}{S:Wa->Prop}
theorem tkQ(c:Nat){X:Oper}{v:Vk}{Y:Nat}{Z:Array Bool}{a:Act}{w:Wa}
  (U:∀w,S w->(execOp a.eval X).run P w=.ok (.value v) w)
  (h:wpAnyH P md ops Q S Y (Z.setIfInBounds (c-Y) G) (a.put X.dst v) w)
  (I:ops[c-Y]?=E X:=by(simp only[Nat.reduceSub,pD,pE,pF];rfl))
  (N:Region.noSelect ops=G:=by as_aux_lemma=>kernel_rfl) (H:Region.free md ops Z (c-Y)=G:=by as_aux_lemma=>kernel_rfl) (J:(Region.ready md ops Z).contains (c-Y)=G:=by as_aux_lemma=>kernel_rfl)
  (C:∀c a w,Q (.panic c) (a.put X.dst v) w->Q (.panic c) a w:=by exact λ_ _ _ h=>h) (V:Region.wanted X (yielded ops a.tmps)=G:=by rfl) (D:S w:=by assumption):wpAnyH P md ops Q S (Y+1) Z a w:=
 wpAnyH_take I N H J C (.inl ⟨V,U⟩) D h
theorem tkU(c:Nat){X:Oper}{Y:Nat}{Z:Array Bool}{a:Act}{w:Wa}
  (h:wpAnyH P md ops Q S Y (Z.setIfInBounds (c-Y) G) (a.put X.dst undef) w)
  (J:ops[c-Y]?=E X:=by(simp only[Nat.reduceSub,pD,pE,pF];rfl))
  (V:Region.wanted X (yielded ops a.tmps)=M:=by rfl)
  (U:Region.noSelect ops=G:=by as_aux_lemma=>kernel_rfl) (I:Region.free md ops Z (c-Y)=G:=by as_aux_lemma=>kernel_rfl) (N:(Region.ready md ops Z).contains (c-Y)=G:=by as_aux_lemma=>kernel_rfl)
  (D:∀c a w,Q (.panic c) (a.put X.dst undef) w->Q (.panic c) a w:=by exact λ_ _ _ h=>h) (H:S w:=by assumption):wpAnyH P md ops Q S (Y+1) Z a w:=
 wpAnyH_take J U I N D (.inr ⟨V,rfl⟩) H h
end
section
variable {A:PAd}{c:CfM}{s s':PlM}{o:Nat->Nat}{F Gf:Nat->Prop}{w w':Wa}
end
end Go.Proofs.YtaamacoicojhnaaGreat
