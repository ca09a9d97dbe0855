/- The statement BoundStepsSaid: for every input the law teasel/teasellaw28.BoundSteps returns true, and each argument reads as it did. No condition. -/
import Derived.Test.YtaamacoicojhnaaGreatZS1
import Derived.Test.YtaamacoicojhnaaGreatZS10
import Derived.Test.YtaamacoicojhnaaGreatZS20
set_option linter.unusedVariables false
set_option linter.unusedSimpArgs false
set_option maxRecDepth 100000
set_option maxHeartbeats 16000000
open Go.Proofs.Tryz
open Go.Proofs.Tryz renaming prog→ZP
open Go.World(cell? frozen?)
open Go.Value(int slice pointer bool)
open Go.IntKind(i64)
namespace Go.Proofs.YtaamacoicojhnaaGreat.lBoundSteps
open Go.ChangeShapes Go.WideShapes Go.ChangeAt Go.RowKit Go.Joins
theorem lifted(os:Os)(Y:os.Started)(H:Type)(enc:TypeId×Value->H) :ReturnsInHanded {} Tryz.checked os 4 .any (Rows.boundStepsSpec.pre6 enc ZP f4 Rows.boundStepsRow.domain false) (Rows.boundStepsSpec.post enc ZP f4 false true false false):=by
 refine returnsInHanded_of_change (C:=Tryz.checked) own Y kr func4
  (ChangeSpec.witness6 (enc:=enc) (C:=Tryz.checked) false ⟨#[],#[.agg #[bool false,slice none 0 0,int i64 0,int i64 0,int i64 0,int i64 0,int i64 0,int i64 0,int i64 0,bool false,slice none 0 0,slice none 0 0],slice none 0 0,int i64 0],[]⟩ 8 kr kr kr kr) ?_
 intro W base args ds gs y X hW au _;have Z:∀(j:Nat) t v,f4.params[j]?=some t->args[j]?=some v->Value.okWide ZP W .any base t v:=X;have ag:=hW;obtain⟨p,q,D,hV,rfl,az,ay⟩:=hW;have hA:DataW.TrodAll enc ZP W 0 (λ_=>true) true f4.params.toList args.toList ds p:=D;rw[params4]at hA Z;obtain⟨v0,ax,d0,aD,p0,q0,af,rfl,rfl,h0,r0⟩:=trodAll_cons hA;obtain⟨v1,aw,d1,aC,p1,q1,rfl,rfl,rfl,h1,r1⟩:=trodAll_cons r0;obtain⟨v2,av,d2,aB,p2,q2,rfl,rfl,rfl,h2,r2⟩:=trodAll_cons r1;obtain⟨rfl,rfl,rfl⟩:=trodAll_nil r2;obtain rfl:args=#[v0,v1,v2]:=by cases args;simp_all
 obtain⟨rfl,rfl⟩:=trodVars_none hV;have k0:=h0;have ab:∀x∈p0,x.block<W.heap.size:=by obtain⟨m,I⟩:=k0;exact DataW.trod_lt m _ _ _ I
 have k1:=h1;have aa:∀x∈p1,x.block<W.heap.size:=by obtain⟨m,I⟩:=k1;exact DataW.trod_lt m _ _ _ I
 have k2:=h2;have a8:∀x∈p2,x.block<W.heap.size:=by obtain⟨m,I⟩:=k2;exact DataW.trod_lt m _ _ _ I
 obtain⟨V,a0,ac,ap,wk0,ar,a2,a6,a7,o,al,aq,b0,n0,ao,e0,m0,am,U,N,A,rfl,ak,ai,aj⟩:=aii (Z 0 29 v0 rfl rfl) h0;obtain⟨a1,J,B,s,rfl,ae⟩:=afh (Z 1 30 v1 rfl rfl) h1;obtain⟨n2,rfl,aA⟩:=alh (Z 2 3 v2 rfl rfl) h2;clear D X;refine(abU V a0 ac ap wk0 ar a2 a6 a7 o al aq b0 n0 ao e0 m0 am a1 J B n2 U N A s W ak ai aj ae).mono λe W' ⟨he,bel⟩=>?_;subst he;exact⟨_,rfl,_,_,_,[],_,[],ag,trodAll_mk1 (shut_bool underlying4 _),(trodAll_cons_mk (Below.trod laidOut kr (Vc kr) k0 bel ab) (trodAll_cons_mk (Below.trod laidOut kr (Vc kr) k1 bel aa) (trodAll_cons_mk (Below.trod laidOut kr (Vc kr) k2 bel a8) trodAll_mk0))),rfl,bel.frame _,λh=>by cases h⟩
theorem facts:joinedFacts Tryz.pinned.checked.prog 4 f4 Rows.boundStepsSpec Rows.boundStepsRow=true:=by
 unfold joinedFacts
 repeat' (with_reducible refine Bool.and_eq_true_iff.2 ⟨?_,?_⟩)
 all_goals (as_aux_lemma=>kernel_rfl)
theorem over:Rows.boundStepsRow.holds Tryz.pinned (OpenSpec.ofChange Rows.boundStepsSpec):=
 OpenClaim.holds_of_wide 4 f4 rfl rfl rfl rfl rfl rfl rfl ⟨rfl,rfl,rfl,rfl,rfl⟩ rfl rfl rfl rfl rfl (by as_aux_lemma=>kernel_rfl) func4 facts
  (Vc (by as_aux_lemma=>kernel_rfl)) (by unfold Func.isWrapper;rw[Va (of_decide_eq_false kr)];exact⟨rfl,rfl⟩)
  (λos Z H enc _=>lifted os Z H enc)
theorem proved:Rows.BoundStepsSaid:=over
#print axioms proved
end Go.Proofs.YtaamacoicojhnaaGreat.lBoundSteps
