/- The statement PoolRoomSaid: for every input the law teasel/teasellaw27.PoolRoom returns true, and each argument reads as it did. No condition. -/
import Derived.Test.YtaamacoicojhnaaGreatZR1
import Derived.Test.YtaamacoicojhnaaGreatZR9
import Derived.Test.YtaamacoicojhnaaGreatZR20
set_option linter.unusedVariables false
set_option linter.unusedSimpArgs false
set_option maxRecDepth 100000
set_option maxHeartbeats 16000000
open Go.Proofs.Tryz
open Go.Proofs.Tryz renaming prog→ZP
open Go.World(cell? frozen?)
open Go.Value(int slice pointer bool)
open Go.IntKind(i64)
namespace Go.Proofs.YtaamacoicojhnaaGreat.lPoolRoom
open Go.ChangeShapes Go.WideShapes Go.ChangeAt Go.RowKit Go.Joins
theorem lifted(os:Os)(Y:os.Started)(H:Type)(enc:TypeId×Value->H) :ReturnsInHanded {} Tryz.checked os 9 .any (Rows.poolRoomSpec.pre6 enc ZP f9 Rows.poolRoomRow.domain false) (Rows.poolRoomSpec.post enc ZP f9 false true false false):=by
 refine returnsInHanded_of_change (C:=Tryz.checked) own Y kr func9
  (ChangeSpec.witness6 (enc:=enc) (C:=Tryz.checked) false ⟨#[],#[.agg #[bool false,slice none 0 0],.agg #[int i64 0,int i64 0,int i64 0,int i64 0,int i64 0,int i64 0,int i64 0],bool false,slice none 0 0,slice none 0 0,slice none 0 0],[]⟩ 8 kr kr kr kr) ?_
 intro W base args ds gs a6 X hW ax _;have Z:∀(j:Nat) t v,f9.params[j]?=some t->args[j]?=some v->Value.okWide ZP W .any base t v:=X;have ar:=hW;obtain⟨p,q,z,hV,rfl,aJ,aE⟩:=hW;have hA:DataW.TrodAll enc ZP W 0 (λ_=>true) true f9.params.toList args.toList ds p:=z;rw[params9]at hA Z;obtain⟨v0,aD,d0,aT,p0,q0,aq,rfl,rfl,h0,r0⟩:=trodAll_cons hA;obtain⟨v1,aC,d1,aS,p1,q1,rfl,rfl,rfl,h1,r1⟩:=trodAll_cons r0;obtain⟨v2,aB,d2,aR,p2,q2,rfl,rfl,rfl,h2,r2⟩:=trodAll_cons r1;obtain⟨v3,aA,d3,aQ,p3,q3,rfl,rfl,rfl,h3,r3⟩:=trodAll_cons r2;obtain⟨v4,az,d4,aP,p4,q4,rfl,rfl,rfl,h4,r4⟩:=trodAll_cons r3;obtain⟨v5,ay,d5,aO,p5,q5,rfl,rfl,rfl,h5,r5⟩:=trodAll_cons r4;obtain⟨rfl,rfl,rfl⟩:=trodAll_nil r5;obtain rfl:args=#[v0,v1,v2,v3,v4,v5]:=by cases args;simp_all
 obtain⟨rfl,rfl⟩:=trodVars_none hV;have k0:=h0;have ak:∀x∈p0,x.block<W.heap.size:=by obtain⟨m,V⟩:=k0;exact DataW.trod_lt m _ _ _ V
 have k1:=h1;have aj:∀x∈p1,x.block<W.heap.size:=by obtain⟨m,V⟩:=k1;exact DataW.trod_lt m _ _ _ V
 have k2:=h2;have ai:∀x∈p2,x.block<W.heap.size:=by obtain⟨m,V⟩:=k2;exact DataW.trod_lt m _ _ _ V
 have k3:=h3;have ah:∀x∈p3,x.block<W.heap.size:=by obtain⟨m,V⟩:=k3;exact DataW.trod_lt m _ _ _ V
 have k4:=h4;have ag:∀x∈p4,x.block<W.heap.size:=by obtain⟨m,V⟩:=k4;exact DataW.trod_lt m _ _ _ V
 have k5:=h5;have af:∀x∈p5,x.block<W.heap.size:=by obtain⟨m,V⟩:=k5;exact DataW.trod_lt m _ _ _ V
 obtain⟨U,a0,A,a2,J,rfl,ap,aN,aI⟩:=aqZ (Z 0 24 v0 rfl rfl) h0;obtain⟨aa,aw,ac,ad,ae,ab,au,rfl⟩:=aqS (Z 1 26 v1 rfl rfl) h1;obtain⟨av,rfl⟩:=aqR (Z 2 4 v2 rfl rfl) h2;obtain⟨a3,B,a1,N,rfl,ao,aM,aH⟩:=aqV (Z 3 22 v3 rfl rfl) h3;obtain⟨a4,D,s,a8,rfl,am,aL,aG⟩:=aqA (Z 4 27 v4 rfl rfl) h4;obtain⟨a5,I,y,a7,rfl,al,aK,aF⟩:=aqw (Z 5 49 v5 rfl rfl) h5;clear z X;refine(arn U a0 A a2 aa aw ac ad ae ab au av a3 B a1 a4 D s a5 I y J N a8 a7 W ap ao am al).mono λe W' ⟨he,bel⟩=>?_;subst he;exact⟨_,rfl,_,_,_,[],_,[],ar,trodAll_mk1 (shut_bool underlying4 _),(trodAll_cons_mk (Below.trod laidOut kr (Lj kr) k0 bel ak) (trodAll_cons_mk (Below.trod laidOut kr (Lj kr) k1 bel aj) (trodAll_cons_mk (Below.trod laidOut kr (Lj kr) k2 bel ai) (trodAll_cons_mk (Below.trod laidOut kr (Lj kr) k3 bel ah) (trodAll_cons_mk (Below.trod laidOut kr (Lj kr) k4 bel ag) (trodAll_cons_mk (Below.trod laidOut kr (Lj kr) k5 bel af) trodAll_mk0)))))),rfl,bel.frame _,λh=>by cases h⟩
theorem facts:joinedFacts Tryz.pinned.checked.prog 9 f9 Rows.poolRoomSpec Rows.poolRoomRow=true:=by
 unfold joinedFacts
 repeat' (with_reducible refine Bool.and_eq_true_iff.2 ⟨?_,?_⟩)
 all_goals (as_aux_lemma=>kernel_rfl)
theorem over:Rows.poolRoomRow.holds Tryz.pinned (OpenSpec.ofChange Rows.poolRoomSpec):=
 OpenClaim.holds_of_wide 9 f9 rfl rfl rfl rfl rfl rfl rfl ⟨rfl,rfl,rfl,rfl,rfl⟩ rfl rfl rfl rfl rfl (by as_aux_lemma=>kernel_rfl) func9 facts
  (Lj (by as_aux_lemma=>kernel_rfl)) (by unfold Func.isWrapper;rw[Lb (of_decide_eq_false kr)];exact⟨rfl,rfl⟩)
  (λos Z H enc _=>lifted os Z H enc)
theorem proved:Rows.PoolRoomSaid:=over
#print axioms proved
end Go.Proofs.YtaamacoicojhnaaGreat.lPoolRoom
