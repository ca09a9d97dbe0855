/- The statement PoolGoesSaid: for every input the law teasel/teasellaw27.PoolGoes returns true, and each argument reads as it did. No condition. -/
import Derived.Test.YtaamacoicojhnaaGreatZH1
import Derived.Test.YtaamacoicojhnaaGreatZH5
import Derived.Test.YtaamacoicojhnaaGreatZH12
set_option linter.unusedVariables false
set_option linter.unusedSimpArgs false
set_option maxRecDepth 100000
set_option maxHeartbeats 16000000
open Go.Proofs.Tryz
open Go.Proofs.Tryz renaming prog→ZP
open Go.World(cell? frozen?)
open Option renaming some→E,none→O
open Go.Value renaming int→R,slice→T,pointer→L,bool→i6,tuple→ta,agg→i8
open Go.IntKind renaming i64→K
open Bool renaming false→M,true→G
open Go renaming World→Wa,Value→Vh
open Go.Ending renaming returned→ra
open Go.Obj renaming cells→i7
open List renaming length→lc
namespace Go.Proofs.YtaamacoicojhnaaGreat.lPoolGoes
open Go.ChangeShapes Go.WideShapes Go.ChangeAt Go.RowKit Go.Joins
theorem lifted(os:Os)(X:os.Started)(H:Type)(enc:TypeId×Vh->H) :ReturnsInHanded {} Tryz.checked os 8 .any (Rows.poolGoesSpec.pre6 enc ZP f8 Rows.poolGoesRow.domain M) (Rows.poolGoesSpec.post enc ZP f8 M G M M):=by
 refine returnsInHanded_of_change (C:=Tryz.checked) own X kr func8
  (ChangeSpec.witness6 (enc:=enc) (C:=Tryz.checked) M ⟨#[],#[i8 #[i6 M,T O 0 0],i8 #[R K 0,R K 0,R K 0,R K 0,R K 0,R K 0,R K 0],i6 M,T O 0 0,T O 0 0,T O 0 0,R K 0],[]⟩ 8 kr kr kr kr) ?_
 intro W base args ds gs a7 V hW aA _;have Z:∀(j:Nat) t v,f8.params[j]?=E t->args[j]?=E v->Value.okWide ZP W .any base t v:=V;have aw:=hW;obtain⟨p,q,y,hV,rfl,aN,aI⟩:=hW;have hA:DataW.TrodAll enc ZP W 0 (λ_=>G) G f8.params.toList args.toList ds p:=y;rw[params8]at hA Z;obtain⟨v0,aH,d0,aZ,p0,q0,av,rfl,rfl,h0,r0⟩:=trodAll_cons hA;obtain⟨v1,aG,d1,aY,p1,q1,rfl,rfl,rfl,h1,r1⟩:=trodAll_cons r0;obtain⟨v2,aF,d2,aX,p2,q2,rfl,rfl,rfl,h2,r2⟩:=trodAll_cons r1;obtain⟨v3,aE,d3,aW,p3,q3,rfl,rfl,rfl,h3,r3⟩:=trodAll_cons r2;obtain⟨v4,aD,d4,aV,p4,q4,rfl,rfl,rfl,h4,r4⟩:=trodAll_cons r3;obtain⟨v5,aC,d5,aU,p5,q5,rfl,rfl,rfl,h5,r5⟩:=trodAll_cons r4;obtain⟨v6,aB,d6,aT,p6,q6,rfl,rfl,rfl,h6,r6⟩:=trodAll_cons r5;obtain⟨rfl,rfl,rfl⟩:=trodAll_nil r6;obtain rfl:args=#[v0,v1,v2,v3,v4,v5,v6]:=by cases args;simp_all
 obtain⟨rfl,rfl⟩:=trodVars_none hV;have k0:=h0;have ao:∀x∈p0,x.block<W.heap.size:=by obtain⟨m,Y⟩:=k0;exact DataW.trod_lt m _ _ _ Y
 have k1:=h1;have am:∀x∈p1,x.block<W.heap.size:=by obtain⟨m,Y⟩:=k1;exact DataW.trod_lt m _ _ _ Y
 have k2:=h2;have al:∀x∈p2,x.block<W.heap.size:=by obtain⟨m,Y⟩:=k2;exact DataW.trod_lt m _ _ _ Y
 have k3:=h3;have ak:∀x∈p3,x.block<W.heap.size:=by obtain⟨m,Y⟩:=k3;exact DataW.trod_lt m _ _ _ Y
 have k4:=h4;have aj:∀x∈p4,x.block<W.heap.size:=by obtain⟨m,Y⟩:=k4;exact DataW.trod_lt m _ _ _ Y
 have k5:=h5;have ai:∀x∈p5,x.block<W.heap.size:=by obtain⟨m,Y⟩:=k5;exact DataW.trod_lt m _ _ _ Y
 have k6:=h6;have ag:∀x∈p6,x.block<W.heap.size:=by obtain⟨m,Y⟩:=k6;exact DataW.trod_lt m _ _ _ Y
 obtain⟨U,a0,A,a6,J,rfl,au,aR,aM⟩:=aqZ (Z 0 24 v0 rfl rfl) h0;obtain⟨ab,az,ad,ae,af,ac,ax,rfl⟩:=aqS (Z 1 26 v1 rfl rfl) h1;obtain⟨ay,rfl⟩:=aqR (Z 2 4 v2 rfl rfl) h2;obtain⟨a3,B,a2,N,rfl,ar,aQ,aL⟩:=aqV (Z 3 22 v3 rfl rfl) h3;obtain⟨a4,D,a1,aa,rfl,aq,aP,aK⟩:=aqA (Z 4 27 v4 rfl rfl) h4;obtain⟨a5,I,s,a8,rfl,ap,aO,aJ⟩:=aqw (Z 5 49 v5 rfl rfl) h5;obtain⟨n6,rfl,aS⟩:=alh (Z 6 3 v6 rfl rfl) h6;clear y V;refine(arD U a0 A a6 ab az ad ae af ac ax ay a3 B a2 a4 D a1 a5 I s n6 J N aa a8 W au ar aq ap).mono λe W' ⟨he,bel⟩=>?_;subst he;exact⟨_,rfl,_,_,_,[],_,[],aw,trodAll_mk1 (shut_bool underlying4 _),(trodAll_cons_mk (Below.trod laidOut kr (Lj kr) k0 bel ao) (trodAll_cons_mk (Below.trod laidOut kr (Lj kr) k1 bel am) (trodAll_cons_mk (Below.trod laidOut kr (Lj kr) k2 bel al) (trodAll_cons_mk (Below.trod laidOut kr (Lj kr) k3 bel ak) (trodAll_cons_mk (Below.trod laidOut kr (Lj kr) k4 bel aj) (trodAll_cons_mk (Below.trod laidOut kr (Lj kr) k5 bel ai) (trodAll_cons_mk (Below.trod laidOut kr (Lj kr) k6 bel ag) trodAll_mk0))))))),rfl,bel.frame _,λh=>by cases h⟩
theorem facts:joinedFacts Tryz.pinned.checked.prog 8 f8 Rows.poolGoesSpec Rows.poolGoesRow=G:=by
 unfold joinedFacts
 repeat' (with_reducible refine Bool.and_eq_true_iff.2 ⟨?_,?_⟩)
 all_goals (as_aux_lemma=>kernel_rfl)
theorem over:Rows.poolGoesRow.holds Tryz.pinned (OpenSpec.ofChange Rows.poolGoesSpec):=
 OpenClaim.holds_of_wide 8 f8 rfl rfl rfl rfl rfl rfl rfl ⟨rfl,rfl,rfl,rfl,rfl⟩ rfl rfl rfl rfl rfl (by as_aux_lemma=>kernel_rfl) func8 facts
  (Lj (by as_aux_lemma=>kernel_rfl)) (by unfold Func.isWrapper;rw[Lb (of_decide_eq_false kr)];exact⟨rfl,rfl⟩)
  (λos Z H enc _=>lifted os Z H enc)
theorem proved:Rows.PoolGoesSaid:=over
#print axioms proved
end Go.Proofs.YtaamacoicojhnaaGreat.lPoolGoes
