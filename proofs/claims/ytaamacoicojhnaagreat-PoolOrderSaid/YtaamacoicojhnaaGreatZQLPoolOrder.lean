/- The statement PoolOrderSaid: for every input the law teasel/teasellaw27.PoolOrder returns true, and each argument reads as it did. No condition. -/
import Derived.Test.YtaamacoicojhnaaGreatZQ1
import Derived.Test.YtaamacoicojhnaaGreatZQ5
import Derived.Test.YtaamacoicojhnaaGreatZQ13
set_option linter.unusedVariables false
set_option linter.unusedSimpArgs false
set_option maxRecDepth 100000
set_option maxHeartbeats 16000000
open Go.Proofs.Tryz
open Go.Proofs.Tryz renaming prog→ZP
open Go.World(cell? frozen?)
open Option renaming some→E,none→O
open Go.Value renaming int→R,slice→T,pointer→L,bool→i6,tuple→ta,agg→i8
open Go.IntKind renaming i64→K
open Bool renaming false→M,true→G
open Go renaming World→Wa,Value→Vk
open Go.Ending renaming returned→ra
open Go.Obj renaming cells→i7
open List renaming length→lc
namespace Go.Proofs.YtaamacoicojhnaaGreat.lPoolOrder
open Go.ChangeShapes Go.WideShapes Go.ChangeAt Go.RowKit Go.Joins
theorem lifted(os:Os)(Y:os.Started)(H:Type)(enc:TypeId×Vk->H) :ReturnsInHanded {} Tryz.checked os 7 .any (Rows.poolOrderSpec.pre6 enc ZP f7 Rows.poolOrderRow.domain M) (Rows.poolOrderSpec.post enc ZP f7 M G M M):=by
 refine returnsInHanded_of_change (C:=Tryz.checked) own Y kr func7
  (ChangeSpec.witness6 (enc:=enc) (C:=Tryz.checked) M ⟨#[],#[i8 #[i6 M,T O 0 0],i8 #[R K 0,R K 0,R K 0,R K 0,R K 0,R K 0,R K 0],i6 M,T O 0 0,T O 0 0,T O 0 0],[]⟩ 8 kr kr kr kr) ?_
 intro W base args ds gs a8 X hW aB _;have Z:∀(j:Nat) t v,f7.params[j]?=E t->args[j]?=E v->Value.okWide ZP W .any base t v:=X;have ax:=hW;obtain⟨p,q,s,hV,rfl,aN,aI⟩:=hW;have hA:DataW.TrodAll enc ZP W 0 (λ_=>G) G f7.params.toList args.toList ds p:=s;rw[params7]at hA Z;obtain⟨v0,aH,d0,aX,p0,q0,aw,rfl,rfl,h0,r0⟩:=trodAll_cons hA;obtain⟨v1,aG,d1,aW,p1,q1,rfl,rfl,rfl,h1,r1⟩:=trodAll_cons r0;obtain⟨v2,aF,d2,aV,p2,q2,rfl,rfl,rfl,h2,r2⟩:=trodAll_cons r1;obtain⟨v3,aE,d3,aU,p3,q3,rfl,rfl,rfl,h3,r3⟩:=trodAll_cons r2;obtain⟨v4,aD,d4,aT,p4,q4,rfl,rfl,rfl,h4,r4⟩:=trodAll_cons r3;obtain⟨v5,aC,d5,aS,p5,q5,rfl,rfl,rfl,h5,r5⟩:=trodAll_cons r4;obtain⟨rfl,rfl,rfl⟩:=trodAll_nil r5;obtain rfl:args=#[v0,v1,v2,v3,v4,v5]:=by cases args;simp_all
 obtain⟨rfl,rfl⟩:=trodVars_none hV;have k0:=h0;have ap:∀x∈p0,x.block<W.heap.size:=by obtain⟨m,V⟩:=k0;exact DataW.trod_lt m _ _ _ V
 have k1:=h1;have ao:∀x∈p1,x.block<W.heap.size:=by obtain⟨m,V⟩:=k1;exact DataW.trod_lt m _ _ _ V
 have k2:=h2;have am:∀x∈p2,x.block<W.heap.size:=by obtain⟨m,V⟩:=k2;exact DataW.trod_lt m _ _ _ V
 have k3:=h3;have al:∀x∈p3,x.block<W.heap.size:=by obtain⟨m,V⟩:=k3;exact DataW.trod_lt m _ _ _ V
 have k4:=h4;have ak:∀x∈p4,x.block<W.heap.size:=by obtain⟨m,V⟩:=k4;exact DataW.trod_lt m _ _ _ V
 have k5:=h5;have aj:∀x∈p5,x.block<W.heap.size:=by obtain⟨m,V⟩:=k5;exact DataW.trod_lt m _ _ _ V
 obtain⟨U,a0,A,a7,J,rfl,av,aR,aM⟩:=aqZ (Z 0 24 v0 rfl rfl) h0;obtain⟨ac,aA,af,ag,ai,ae,ay,rfl⟩:=aqS (Z 1 26 v1 rfl rfl) h1;obtain⟨az,rfl⟩:=aqR (Z 2 4 v2 rfl rfl) h2;obtain⟨a3,B,a6,N,rfl,au,aQ,aL⟩:=aqV (Z 3 22 v3 rfl rfl) h3;obtain⟨a4,D,a2,ab,rfl,ar,aP,aK⟩:=aqA (Z 4 27 v4 rfl rfl) h4;obtain⟨a5,I,a1,aa,rfl,aq,aO,aJ⟩:=aqw (Z 5 49 v5 rfl rfl) h5;clear s X;refine(arU U a0 A a7 ac aA af ag ai ae ay az a3 B a6 a4 D a2 a5 I a1 J N ab aa W av au ar aq).mono λe W' ⟨he,bel⟩=>?_;subst he;exact⟨_,rfl,_,_,_,[],_,[],ax,trodAll_mk1 (shut_bool underlying4 _),(trodAll_cons_mk (Below.trod laidOut kr (Kf kr) k0 bel ap) (trodAll_cons_mk (Below.trod laidOut kr (Kf kr) k1 bel ao) (trodAll_cons_mk (Below.trod laidOut kr (Kf kr) k2 bel am) (trodAll_cons_mk (Below.trod laidOut kr (Kf kr) k3 bel al) (trodAll_cons_mk (Below.trod laidOut kr (Kf kr) k4 bel ak) (trodAll_cons_mk (Below.trod laidOut kr (Kf kr) k5 bel aj) trodAll_mk0)))))),rfl,bel.frame _,λh=>by cases h⟩
theorem facts:joinedFacts Tryz.pinned.checked.prog 7 f7 Rows.poolOrderSpec Rows.poolOrderRow=G:=by
 unfold joinedFacts
 repeat' (with_reducible refine Bool.and_eq_true_iff.2 ⟨?_,?_⟩)
 all_goals (as_aux_lemma=>kernel_rfl)
theorem over:Rows.poolOrderRow.holds Tryz.pinned (OpenSpec.ofChange Rows.poolOrderSpec):=
 OpenClaim.holds_of_wide 7 f7 rfl rfl rfl rfl rfl rfl rfl ⟨rfl,rfl,rfl,rfl,rfl⟩ rfl rfl rfl rfl rfl (by as_aux_lemma=>kernel_rfl) func7 facts
  (Kf (by as_aux_lemma=>kernel_rfl)) (by unfold Func.isWrapper;rw[Lc (of_decide_eq_false kr)];exact⟨rfl,rfl⟩)
  (λos Z H enc _=>lifted os Z H enc)
theorem proved:Rows.PoolOrderSaid:=over
#print axioms proved
end Go.Proofs.YtaamacoicojhnaaGreat.lPoolOrder
