/- The statement BoundOverSaid: for every input the law teasel/teasellaw28.BoundOver returns true, and each argument reads as it did. No condition. -/
import Derived.Test.YtaamacoicojhnaaGreatZO1
import Derived.Test.YtaamacoicojhnaaGreatZO10
import Derived.Test.YtaamacoicojhnaaGreatZO20
set_option linter.unusedVariables false
set_option linter.unusedSimpArgs false
set_option maxRecDepth 100000
set_option maxHeartbeats 16000000
open Go.Proofs.Tryz
open Go.Proofs.Tryz renaming prog→ZP
open Go.World(cell? frozen?)
open Go.Value(int slice pointer bool)
open Go.IntKind(i64)
namespace Go.Proofs.YtaamacoicojhnaaGreat.lBoundOver
open Go.ChangeShapes Go.WideShapes Go.ChangeAt Go.RowKit Go.Joins
theorem lifted(os:Os)(Z:os.Started)(H:Type)(enc:TypeId×Value->H) :ReturnsInHanded {} Tryz.checked os 3 .any (Rows.boundOverSpec.pre6 enc ZP f3 Rows.boundOverRow.domain false) (Rows.boundOverSpec.post enc ZP f3 false true false false):=by
 refine returnsInHanded_of_change (C:=Tryz.checked) own Z kr func3
  (ChangeSpec.witness6 (enc:=enc) (C:=Tryz.checked) false ⟨#[],#[.agg #[bool false,slice none 0 0,int i64 0,int i64 0,int i64 0,int i64 0,int i64 0,int i64 0,int i64 0,bool false,slice none 0 0,slice none 0 0],slice none 0 0],[]⟩ 8 kr kr kr kr) ?_
 intro W base args ds gs A Y hW aq _;have X:∀(j:Nat) t v,f3.params[j]?=some t->args[j]?=some v->Value.okWide ZP W .any base t v:=Y;have ae:=hW;obtain⟨p,q,I,hV,rfl,aw,av⟩:=hW;have hA:DataW.TrodAll enc ZP W 0 (λ_=>true) true f3.params.toList args.toList ds p:=I;rw[params3]at hA X;obtain⟨v0,au,d0,ay,p0,q0,ac,rfl,rfl,h0,r0⟩:=trodAll_cons hA;obtain⟨v1,ar,d1,ax,p1,q1,rfl,rfl,rfl,h1,r1⟩:=trodAll_cons r0;obtain⟨rfl,rfl,rfl⟩:=trodAll_nil r1;obtain rfl:args=#[v0,v1]:=by cases args;simp_all
 obtain⟨rfl,rfl⟩:=trodVars_none hV;have k0:=h0;have a8:∀x∈p0,x.block<W.heap.size:=by obtain⟨m,hm⟩:=k0;exact DataW.trod_lt m _ _ _ hm
 have k1:=h1;have a7:∀x∈p1,x.block<W.heap.size:=by obtain⟨m,hm⟩:=k1;exact DataW.trod_lt m _ _ _ hm
 obtain⟨V,a0,aa,am,wk0,ap,o,a2,a6,s,aj,ao,b0,n0,al,e0,m0,ak,U,N,B,rfl,ai,af,ag⟩:=aii (X 0 29 v0 rfl rfl) h0;obtain⟨a1,J,D,y,rfl,ab⟩:=afh (X 1 30 v1 rfl rfl) h1;clear I Y;refine(apK V a0 aa am wk0 ap o a2 a6 s aj ao b0 n0 al e0 m0 ak a1 J D U N B y W ai af ag ab).mono λe W' ⟨he,bel⟩=>?_;subst he;exact⟨_,rfl,_,_,_,[],_,[],ae,trodAll_mk1 (shut_bool underlying4 _),(trodAll_cons_mk (Below.trod laidOut kr (Vc kr) k0 bel a8) (trodAll_cons_mk (Below.trod laidOut kr (Vc kr) k1 bel a7) trodAll_mk0)),rfl,bel.frame _,λh=>by cases h⟩
theorem facts:joinedFacts Tryz.pinned.checked.prog 3 f3 Rows.boundOverSpec Rows.boundOverRow=true:=by
 unfold joinedFacts
 repeat' (with_reducible refine Bool.and_eq_true_iff.2 ⟨?_,?_⟩)
 all_goals (as_aux_lemma=>kernel_rfl)
theorem over:Rows.boundOverRow.holds Tryz.pinned (OpenSpec.ofChange Rows.boundOverSpec):=
 OpenClaim.holds_of_wide 3 f3 rfl rfl rfl rfl rfl rfl rfl ⟨rfl,rfl,rfl,rfl,rfl⟩ rfl rfl rfl rfl rfl (by as_aux_lemma=>kernel_rfl) func3 facts
  (Vc (by as_aux_lemma=>kernel_rfl)) (by unfold Func.isWrapper;rw[Va (of_decide_eq_false kr)];exact⟨rfl,rfl⟩)
  (λos Z H enc _=>lifted os Z H enc)
theorem proved:Rows.BoundOverSaid:=over
#print axioms proved
end Go.Proofs.YtaamacoicojhnaaGreat.lBoundOver
