/- The statement BoundCancelSaid: for every input the law teasel/teasellaw28.BoundCancel returns true, and each argument reads as it did. No condition. -/
import Derived.Test.YtaamacoicojhnaaGreatZB1
import Derived.Test.YtaamacoicojhnaaGreatZB11
import Derived.Test.YtaamacoicojhnaaGreatZB21
set_option linter.unusedVariables false
set_option linter.unusedSimpArgs false
set_option maxRecDepth 100000
set_option maxHeartbeats 16000000
open Go.Proofs.Tryz
open Go.Proofs.Tryz renaming prog→ZP
namespace Go.Proofs.YtaamacoicojhnaaGreat.lBoundCancel
open Go.ChangeShapes Go.WideShapes Go.ChangeAt Go.RowKit Go.Joins
theorem lifted (os:Os)(Y:os.Started)(H:Type)(enc:TypeId×Value->H) :
  ReturnsInHanded {} Tryz.checked os 5 .any (Rows.boundCancelSpec.pre6 enc ZP f5 Rows.boundCancelRow.domain false) (Rows.boundCancelSpec.post enc ZP f5 false true false false):=by
 refine returnsInHanded_of_change (C:=Tryz.checked) own Y (by kernel_rfl) func5
  (ChangeSpec.witness6 (enc:=enc) (C:=Tryz.checked) false ⟨#[],#[.agg #[.bool false,.slice none 0 0,.int .i64 0,.int .i64 0,.int .i64 0,.int .i64 0,.int .i64 0,.int .i64 0,.int .i64 0,.bool false,.slice none 0 0,.slice none 0 0],.slice none 0 0,.int .i64 0],[]⟩ 8 (by kernel_rfl) (by kernel_rfl) (by kernel_rfl) (by kernel_rfl)) ?_
 intro W base args ds gs z X hW ap _;have Z:∀(j:Nat) t v,f5.params[j]?=some t->args[j]?=some v->Value.okWide ZP W .any base t v:=X;have ae:=hW;obtain⟨p,q,D,hV,rfl,aw,av⟩:=hW;have hA:DataW.TrodAll enc ZP W 0 (fun _=>true) true f5.params.toList args.toList ds p:=D;rw [params5] at hA Z;obtain⟨v0,au,d0,aA,p0,q0,ad,rfl,rfl,h0,r0⟩:=trodAll_cons hA;obtain⟨v1,ar,d1,az,p1,q1,rfl,rfl,rfl,h1,r1⟩:=trodAll_cons r0;obtain⟨v2,aq,d2,ay,p2,q2,rfl,rfl,rfl,h2,r2⟩:=trodAll_cons r1;obtain⟨rfl,rfl,rfl⟩:=trodAll_nil r2;obtain rfl:args=#[v0,v1,v2]:=by cases args;simp_all
 obtain⟨rfl,rfl⟩:=trodVars_none hV;have k0:=h0;have aa:∀x∈p0,x.block<W.heap.size:=by obtain⟨m,I⟩:=k0;exact DataW.trod_lt m _ _ _ I
 have k1:=h1;have a8:∀x∈p1,x.block<W.heap.size:=by obtain⟨m,I⟩:=k1;exact DataW.trod_lt m _ _ _ I
 have k2:=h2;have a7:∀x∈p2,x.block<W.heap.size:=by obtain⟨m,I⟩:=k2;exact DataW.trod_lt m _ _ _ I
 obtain⟨V,a0,ab,al,wk0,ao,o,a2,a6,s,ai,am,b0,n0,ak,e0,m0,aj,U,N,A,rfl,ah,af,ag⟩:=ao8 (Z 0 29 v0 rfl rfl) h0;obtain⟨a1,J,B,y,rfl,ac⟩:=alz (Z 1 30 v1 rfl rfl) h1;obtain⟨n2,rfl,ax⟩:=atz (Z 2 3 v2 rfl rfl) h2;clear D X;refine (ag5 V a0 ab al wk0 ao o a2 a6 s ai am b0 n0 ak e0 m0 aj a1 J B n2 U N A y W ah af ag ac).mono fun e W' ⟨he,bel⟩=>?_;subst he;exact⟨_,rfl,_,_,_,[],_,[],ae,trodAll_mk1 (shut_bool underlying4 _),(trodAll_cons_mk (Below.trod laidOut (by kernel_rfl) (of_decide_eq_true (by kernel_rfl)) k0 bel aa) (trodAll_cons_mk (Below.trod laidOut (by kernel_rfl) (of_decide_eq_true (by kernel_rfl)) k1 bel a8) (trodAll_cons_mk (Below.trod laidOut (by kernel_rfl) (of_decide_eq_true (by kernel_rfl)) k2 bel a7) trodAll_mk0))),rfl,bel.frame _,fun h=>by cases h⟩
theorem facts:joinedFacts Tryz.pinned.checked.prog 5 f5 Rows.boundCancelSpec Rows.boundCancelRow=true:=by
 unfold joinedFacts
 repeat' (with_reducible refine Bool.and_eq_true_iff.2 ⟨?_,?_⟩)
 all_goals (as_aux_lemma=>kernel_rfl)
theorem over:Rows.boundCancelRow.holds Tryz.pinned (OpenSpec.ofChange Rows.boundCancelSpec):=
 OpenClaim.holds_of_wide 5 f5 rfl rfl rfl rfl rfl rfl rfl ⟨rfl,rfl,rfl,rfl,rfl⟩ rfl rfl rfl rfl rfl (by as_aux_lemma=>kernel_rfl) func5 facts
  (of_decide_eq_true (by as_aux_lemma=>kernel_rfl)) (by unfold Func.isWrapper;rw [if_neg (of_decide_eq_false (by kernel_rfl))];exact⟨rfl,rfl⟩)
  (fun os Z H enc _=>lifted os Z H enc)
theorem proved:Rows.BoundCancelSaid:=over
#print axioms proved
end Go.Proofs.YtaamacoicojhnaaGreat.lBoundCancel
