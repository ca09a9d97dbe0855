/- Proofs over the given program, part 10. -/
import Derived.Test.YtaamacoicojhnaaGreatZH9
set_option linter.unusedVariables false
set_option linter.unusedSimpArgs false
set_option maxRecDepth 100000
set_option maxHeartbeats 16000000
open Go.Proofs.Tryz
open Go.Proofs.Tryz renaming prog→ZP
open Go.World(cell? frozen?)
open Option renaming some→E,none→O
open Go.Value renaming int→R,slice→T,pointer→L,bool→i6,tuple→ta,agg→i8
open Go.IntKind renaming i64→K
open Bool renaming false→M,true→G
open Go renaming World→Wa,Value→Vh
open Go.Ending renaming returned→ra
open Go.Obj renaming cells→i7
open List renaming length→lc
namespace Go.Proofs.YtaamacoicojhnaaGreat
open Go.RowKit Go.Sort
theorem aq3(v0 v3 v4 v6 u0 u3 u4 u6:Vh)(x:VwX)(cb:Bool)(w:Wa){m m':Nat}(h:VwS w m v0 v3 v4 v6 x)(k:VwS w m' u0 u3 u4 u6 {x with canc:=cb}) :Calls ZP 36 #[i8 (vwC v0 v3 v4 v6 x),i8 (vwC u0 u3 u4 u6 {x with canc:=cb})] w λe w'=>e=ra (i6 (x.canc==cb))/\Bt w w':=by
 obtain⟨xs,nx,nu,q,rg,ou,lv,fr,sh,en,ca,re⟩:=x;obtain⟨r0,r3,r4,r6,ag,l3,l4,l6,l0⟩:=h;obtain⟨k0,k3,k4,k6,_,_⟩:=k;dsimp only[vwC]at *;obtain⟨a0,c0,rfl,_,s0⟩:=Co r0;obtain⟨a3,c3,rfl,_,s3⟩:=Co r3;obtain⟨a4,c4,rfl,_,s4⟩:=Co r4;obtain⟨a6,c6,rfl,_,s6⟩:=Co r6;obtain⟨b0,d0,rfl,_,t0⟩:=Co k0;obtain⟨b3,d3,rfl,_,t3⟩:=Co k3;obtain⟨b4,d4,rfl,_,t4⟩:=Co k4;obtain⟨b6,d6,rfl,_,t6⟩:=Co k6;have aj:lc xs<=4611686018427387904:=by omega
 obtain⟨B,aa⟩:∃n,lc xs=n:=⟨_,rfl⟩;obtain⟨C,a8⟩:∃n,lc q=n:=⟨_,rfl⟩;obtain⟨D,a7⟩:∃n,lc rg=n:=⟨_,rfl⟩;obtain⟨H,a2⟩:∃n,lc lv=n:=⟨_,rfl⟩;rw[aa]at s0 t0⊢;rw[a8]at s3 t3 l3⊢;rw[a7]at s4 t4 l4⊢;rw[a2]at s6 t6 l6⊢;obtain⟨W,hW⟩:∃W,W=(w.alloc (i7 #[T a0 B c0,R K nx,R K nu,T a3 C c3,T a4 D c4,R K ou,T a6 H c6,R K fr,i6 sh,i6 en,i6 ca,R K re] 63)).alloc (i7 #[T b0 B d0,R K nx,R K nu,T b3 C d3,T b4 D d4,R K ou,T b6 H d6,R K fr,i6 sh,i6 en,i6 cb,R K re] 63):=⟨_,rfl⟩;have hO:Bx w.heap.size [i7 #[T a0 B c0,R K nx,R K nu,T a3 C c3,T a4 D c4,R K ou,T a6 H c6,R K fr,i6 sh,i6 en,i6 ca,R K re] 63,i7 #[T b0 B d0,R K nx,R K nu,T b3 C d3,T b4 D d4,R K ou,T b6 H d6,R K fr,i6 sh,i6 en,i6 cb,R K re] 63] W:=by rw[hW];exact((Bx.nil _ w).snoc _ rfl).snoc _ sm
 have Z:Bt w W:=by rw[hW];exact(AL w _).alloc (AL w _).size _
 obtain⟨J,ai⟩:∃y,(w.alloc (i7 #[T a0 B c0,R K nx,R K nu,T a3 C c3,T a4 D c4,R K ou,T a6 H c6,R K fr,i6 sh,i6 en,i6 ca,R K re] 63)).heap.size=y:=⟨_,rfl⟩;have af:J=w.heap.size+1:=by rw[<-ai];simp
 obtain⟨I,a1⟩:∃y,w.heap.size=y:=⟨_,rfl⟩;have HC:Hid (∀V,Bt W V->(V.cell? ⟨I,0,O⟩=E (T a0 B c0)/\V.cell? ⟨I,1,O⟩=E (R K nx)/\V.cell? ⟨I,2,O⟩=E (R K nu)/\V.cell? ⟨I,3,O⟩=E (T a3 C c3)/\V.cell? ⟨I,4,O⟩=E (T a4 D c4)/\V.cell? ⟨I,5,O⟩=E (R K ou)/\V.cell? ⟨I,6,O⟩=E (T a6 H c6)/\V.cell? ⟨I,7,O⟩=E (R K fr)/\V.cell? ⟨I,8,O⟩=E (i6 sh)/\V.cell? ⟨I,9,O⟩=E (i6 en)/\V.cell? ⟨I,10,O⟩=E (i6 ca)/\V.cell? ⟨I,11,O⟩=E (R K re))/\V.cell? ⟨J,0,O⟩=E (T b0 B d0)/\V.cell? ⟨J,1,O⟩=E (R K nx)/\V.cell? ⟨J,2,O⟩=E (R K nu)/\V.cell? ⟨J,3,O⟩=E (T b3 C d3)/\V.cell? ⟨J,4,O⟩=E (T b4 D d4)/\V.cell? ⟨J,5,O⟩=E (R K ou)/\V.cell? ⟨J,6,O⟩=E (T b6 H d6)/\V.cell? ⟨J,7,O⟩=E (R K fr)/\V.cell? ⟨J,8,O⟩=E (i6 sh)/\V.cell? ⟨J,9,O⟩=E (i6 en)/\V.cell? ⟨J,10,O⟩=E (i6 cb)/\V.cell? ⟨J,11,O⟩=E (R K re)):=λV A=>by have h:=hO.below A;rw[a1]at h;rw[af,a1];exact⟨⟨h.cell (i:=0) rfl rfl,h.cell (i:=0) rfl rfl,h.cell (i:=0) rfl rfl,h.cell (i:=0) rfl rfl,h.cell (i:=0) rfl rfl,h.cell (i:=0) rfl rfl,h.cell (i:=0) rfl rfl,h.cell (i:=0) rfl rfl,h.cell (i:=0) rfl rfl,h.cell (i:=0) rfl rfl,h.cell (i:=0) rfl rfl,h.cell (i:=0) rfl rfl⟩,h.cell (i:=1) rfl rfl,h.cell (i:=1) rfl rfl,h.cell (i:=1) rfl rfl,h.cell (i:=1) rfl rfl,h.cell (i:=1) rfl rfl,h.cell (i:=1) rfl rfl,h.cell (i:=1) rfl rfl,h.cell (i:=1) rfl rfl,h.cell (i:=1) rfl rfl,h.cell (i:=1) rfl rfl,h.cell (i:=1) rfl rfl,h.cell (i:=1) rfl rfl⟩
 have I0:Hid (Calls ZP 74 #[T a0 B c0,T b0 B d0] W λe w'=>e=ra (i6 G)/\Bt W w'):=by
  have:=anw a0 b0 B c0 B d0 xs xs W (s0.below Z) (t0.below Z) (by have:=aj;omega)
  rwa[Lz rfl]at this
 have I3:Hid (∀V,Bt W V->Calls ZP 75 #[T a3 C c3,T b3 C d3] V λe w'=>e=ra (i6 G)/\Bt V w'):=λV A=>by
  have:=afE a3 b3 C c3 C d3 q q V ((s3.below Z).below A) ((t3.below Z).below A) om
  rwa[Lz rfl]at this
 have I4:Hid (∀V,Bt W V->Calls ZP 75 #[T a4 D c4,T b4 D d4] V λe w'=>e=ra (i6 G)/\Bt V w'):=λV A=>by
  have:=afE a4 b4 D c4 D d4 rg rg V ((s4.below Z).below A) ((t4.below Z).below A) om
  rwa[Lz rfl]at this
 have I6:Hid (∀V,Bt W V->Calls ZP 75 #[T a6 H c6,T b6 H d6] V λe w'=>e=ra (i6 G)/\Bt V w'):=λV A=>by
  have:=afE a6 b6 H c6 H d6 lv lv V ((s6.below Z).below A) ((t6.below Z).below A) om
  rwa[Lz rfl]at this
 have HB:=AA Z;have ak:=AA a1;obtain⟨⟨q0,q1,q2,q3,q4,q5,q6,j,s,v,X,Y⟩,p0,p1,p2,p3,p4,p5,p6,p7,p8,p9,N,U⟩:=HC.out W (AH _ _);clear r0 r3 r4 r6 ag l3 l4 l6 l0 k0 k3 k4 k6 s0 s3 s4 s6 t0 t3 t4 t6 hO Z af aa a8 a7 a2
 cases ca<;>cases cb
 all_goals
  subst hW;go_enter func36,ntmps36
  go_wp2_with fail
  refine I0.out.mono ?_;rintro e w0 ⟨rfl,ab⟩;have X0:=AA ab;clear q0 q1 q2 q3 q4 q5 q6 j s v X Y p0 p1 p2 p3 p4 p5 p6 p7 p8 p9 N U ab;obtain⟨⟨q0,q1,q2,q3,q4,q5,q6,j,s,v,X,Y⟩,p0,p1,p2,p3,p4,p5,p6,p7,p8,p9,N,U⟩:=HC.out w0 X0.out
  go_wp2_with fail
  refine(I3.out w0 X0.out).mono ?_;rintro e w1 ⟨rfl,ae⟩;have X1:=AA (X0.out.trans (ae.mono X0.out.size));clear q0 q1 q2 q3 q4 q5 q6 j s v X Y p0 p1 p2 p3 p4 p5 p6 p7 p8 p9 N U ae;obtain⟨⟨q0,q1,q2,q3,q4,q5,q6,j,s,v,X,Y⟩,p0,p1,p2,p3,p4,p5,p6,p7,p8,p9,N,U⟩:=HC.out w1 X1.out
  go_wp2_with fail
  refine(I4.out w1 X1.out).mono ?_;rintro e w2 ⟨rfl,ad⟩;have X2:=AA (X1.out.trans (ad.mono X1.out.size));clear q0 q1 q2 q3 q4 q5 q6 j s v X Y p0 p1 p2 p3 p4 p5 p6 p7 p8 p9 N U ad;obtain⟨⟨q0,q1,q2,q3,q4,q5,q6,j,s,v,X,Y⟩,p0,p1,p2,p3,p4,p5,p6,p7,p8,p9,N,U⟩:=HC.out w2 X2.out
  go_wp2_with fail
  refine(I6.out w2 X2.out).mono ?_;rintro e w3 ⟨rfl,ac⟩;have X3:=AA (X2.out.trans (ac.mono X2.out.size));clear q0 q1 q2 q3 q4 q5 q6 j s v X Y p0 p1 p2 p3 p4 p5 p6 p7 p8 p9 N U ac;obtain⟨⟨q0,q1,q2,q3,q4,q5,q6,j,s,v,X,Y⟩,p0,p1,p2,p3,p4,p5,p6,p7,p8,p9,N,U⟩:=HC.out w3 X3.out;go_wp2;go_ret;exact⟨rfl,HB.out.trans (X3.out.mono HB.out.size)⟩
section
variable {A B:PAd}{c d:CfM}{s s' t t':PlM}{o p:Nat->Nat}{F:Nat->Prop}{w w' w'':Wa}
theorem AI.far{Y:Nat->Prop}(h:AI A c o s w)(X:Chg Y w w')(V:∀k,k<w.heap.size->Y k->o k=1000000):AI A c o s w':=⟨λu U=>(h.part u U).keep X (λk hk e Z=>by have h1:o k=u:=e;have:=V k hk Z;omega) (λk hk e Z=>by have h1:o k=0:=e;have:=V k hk Z;omega),λk hk=>h.out k (AS X.size hk)⟩
def PP(o p:Nat->Nat)(F:Nat->Prop)(w:Wa):Prop:=(∀k,F k->k<w.heap.size/\o k=1000000/\p k=1000000)/\∀k,k<w.heap.size->(Oz o k->p k=1000000)/\(Oz p k->o k=1000000)
theorem PP.symm(h:PP o p F w):PP p o F w:=⟨λk hk=>let⟨a,b,c⟩:=h.1 k hk;⟨a,c,b⟩,λk hk=>(h.2 k hk).symm⟩
def Two(A B:PAd)(c d:CfM)(F:Nat->Prop)(s t:PlM)(w:Wa):Prop:=∃o p,AI A c o s w/\AI B d p t w/\PP o p F w
theorem Two.symm(h:Two A B c d F s t w):Two B A d c F t s w:=let⟨o,p,h1,h2,h3⟩:=h;⟨p,o,h2,h1,h3.symm⟩
theorem Two.more{Gd:Nat->Prop}(h:Two A B c d F s t w)(V:Bt w w')(U:∀k,Gd k->F k∨w.heap.size<=k/\k<w'.heap.size):Two A B c d Gd s t w':=by
 obtain⟨o,p,h1,h2,h3,h4⟩:=h;have X:Chg (λ_=>False) w w':=.of_same V;refine⟨o,p,h1.far X λ_ _ e=>e.elim,h2.far X λ_ _ e=>e.elim,λk hk=>?_,λk hk=>?_⟩
 ·rcases U k hk with Z|⟨Z,Y⟩
  ·exact⟨Af (h3 k Z).1 X.size,(h3 k Z).2⟩
  ·exact⟨Y,h1.out k Z,h2.out k Z⟩
 ·by_cases Y:k<w.heap.size
  ·exact h4 k Y
  ·exact⟨λe=>absurd (h1.out k om) e.2,λe=>absurd (h2.out k om) e.2⟩
theorem Two.same(h:Two A B c d F s t w)(Z:Bt w w'):Two A B c d F s t w':=h.more Z λk hk=>.inl hk
theorem AE.two(h:AE A c o s' w w')(Y:AI B d p t w)(ha:PP o p F w):Two A B c d F s' t w'/\Chg (λk=>¬F k) w w':=by
 obtain⟨V,h1,h2,h3⟩:=h;refine⟨⟨V,p,h1,Y.far h3.c λk hk e=>(ha.2 k hk).1 e,λk hk=>⟨Af (ha.1 k hk).1 h3.c.size,h3.f k (ha.1 k hk).1 (ha.1 k hk).2.1,(ha.1 k hk).2.2⟩,λk hk=>?_⟩,h3.c.mono λk _ e U=>e.2 (ha.1 k U).2.1⟩
 by_cases Z:k<w.heap.size
 ·refine⟨λe=>(ha.2 k Z).1 ⟨λX=>e.1 (h2 k X),λX=>e.2 (h3.f k Z X)⟩,λe=>h3.f k Z ((ha.2 k Z).2 e)⟩
 ·exact⟨λ_=>Y.out k om,λe=>absurd (Y.out k om) e.2⟩
theorem Two.call(h:Two A B c d F s t w){f:FuncId}{args:Array Vh}{Ra:Ending->Wa->Prop}(k:∀o,AI A c o s w->Calls ZP f args w λe w'=>Ra e w'/\AE A c o s' w w') :Calls ZP f args w λe w'=>Ra e w'/\Two A B c d F s' t w'/\Chg (λk=>¬F k) w w':=by obtain⟨o,p,h1,h2,h3⟩:=h;refine(k o h1).mono ?_;rintro e w' ⟨Z,Y⟩;exact⟨Z,Y.two h2 h3⟩
theorem Chg.belF{b:Nat}(h:Chg (λk=>¬k<b) w w')(Z:b<=w.heap.size):Below b w w':=h.below Z λk hk e=>e hk
end
theorem ar0{c:CfM}{fold:Bool}{wss Z:La}{q m S Kk:Nat}{C H I D N V:Wa}{P n0 n1 n2 n3 n4 n5 Bb Bu Bd Q QB Gd GB Ob OB:Nat}{tv:Vh}{tl:List Tk}{vs:List TVw}{sa ka:Option Addr}{sc kn kc:Nat}
  (hF:Hj q m fold wss H) (hr:An fold wss=G) (v:c.scan=scF fold wss c.S) (U:OkC c) (hq:q=C.heap.size) (a1:Bt C H) (y:Bt H D) (B:Bt D I) (J:Bt I N)
  (hk:CN (λk=>I.heap.size<=k) Kk ka kn kc (T O 0 0) c.ans [] 0 N) (hs:BY (λk=>D.heap.size<=k) S sa (lc Z) sc vs Z c.br 0 I) (hn:lc Z<=1000000) (h:GO c m S Kk N P n0 n1 n2 n3 n4 n5 Bb Bu Bd Q QB Gd GB Ob OB tv tl V) :
  ∃A o,A.P=P/\A.Kk=Kk/\AI A c o (Bn c Z) V/\∀k,k<C.heap.size->o k=1000000:=by
 have s1:=y.size;have s2:=B.size;have s3:=J.size;have s0:=a1.size;obtain⟨o0,X⟩:∃o0:Nat->Nat,o0=λk=>if k<C.heap.size then 1000000 else if k<H.heap.size then 0 else if k<I.heap.size then 2 else if k<N.heap.size then 3 else 1000000:=⟨_,rfl⟩
 have e:CN (λk=>o0 k=3) Kk ka kn kc (T O 0 0) c.ans [] 0 N:=by refine hk.wide (Y:=λk=>o0 k=3) λk hk hx=>?_;rw[X];dsimp only;rw[Lb om,Lb om,Lb om,Lc hk]
 have s:BY (λk=>o0 k=2) S sa (lc Z) sc vs Z c.br 0 N:=by refine(hs.wide (Y:=λk=>o0 k=2) λk hk hx=>?_).keep (Y:=λ_=>False) (Chg.of_same J) λ_ _ _ h=>h;rw[X];dsimp only;rw[Lb om,Lb om,Lc hk]
 have j:Fk q H N:=EF.of_below (y.trans ((B.trans (J.mono s2)).mono s1));obtain⟨g,cap,hP⟩:=ao8 h (o0:=o0) (λk hk=>by rw[X];dsimp only;rw[Lb om,Lb om,Lb om,Lb om]) s hn e (λV hV=>ap3 hF hr v U.S.2 V hV) j (λk a2 hk=>by rw[X];dsimp only;rw[Lb om,Lc hk]) U.R.1 U.Q.1 U.O.1;refine⟨_,_,rfl,rfl,hP,λk hk=>?_⟩;unfold Cp;rw[Lc om,X];exact Lc hk
theorem apT(c:CfM)(fold:Bool)(a:Option Addr)(U ca:Nat)(b:Option Addr)(n cb:Nat)(d:Option Addr)(m cd:Nat)(wss Y:La)(w:Wa)(hA:Wds w a U wss)(hR:∃vs,aph w b n vs Y)(hD:Sl1 i6 w d m c.ans)
  (hr:An fold wss=G) (al:U<=1000000) (hM:∀x∈wss,lc x<=1000000) (hT:(Ad fold wss).length<=1000000) (hL:Au wss=(c.L:Int)) (I:c.L<=32) (a6:c.scan=scF fold wss c.S) (a2:OkC c) (ac:Ce c.W c.K c.R c.Q c.O c.S c.F=G) (hn:n<=1000000) (hl:∀x∈Y,lc x<=1000000) (hm:m<=1000000) :
  Calls ZP 24 #[i8 (AM fold a U ca),i8 (Ee c.W c.K c.R c.Q c.O c.S c.F),i6 c.br,T b n cb,T d m cd] w λe w'=>∃A o,e=ra (L (E ⟨A.P,0,O⟩))/\AI A c o (Bn c Y) w'/\Bt w w'/\∀k,k<w.heap.size->o k=1000000:=by
 obtain⟨W,hW⟩:∃W,W=(w.alloc (i7 (AM fold a U ca) 24)).alloc (i7 (Ee c.W c.K c.R c.Q c.O c.S c.F) 26):=⟨_,rfl⟩;have hO:Bx w.heap.size [i7 (AM fold a U ca) 24,i7 (Ee c.W c.K c.R c.Q c.O c.S c.F) 26] W:=by rw[hW];exact((Bx.nil _ w).snoc _ rfl).snoc _ sm
 have X:Bt w W:=by rw[hW];exact(AL w _).alloc (AL w _).size _
 obtain⟨S0,ae⟩:∃x,(w.alloc (i7 (AM fold a U ca) 24)).heap.size=x:=⟨_,rfl⟩;have j:S0=w.heap.size+1:=by rw[<-ae];simp
 have HC:Hid (∀V,Bt W V->V.cell? ⟨w.heap.size,0,O⟩=E (i6 fold)/\V.cell? ⟨w.heap.size,1,O⟩=E (T a U ca)/\V.cell? ⟨w.heap.size+1,0,O⟩=E (R K c.W)/\V.cell? ⟨w.heap.size+1,1,O⟩=E (R K c.K)/\V.cell? ⟨w.heap.size+1,2,O⟩=E (R K c.R)/\V.cell? ⟨w.heap.size+1,3,O⟩=E (R K c.Q)/\V.cell? ⟨w.heap.size+1,4,O⟩=E (R K c.O)/\V.cell? ⟨w.heap.size+1,5,O⟩=E (R K c.S)/\V.cell? ⟨w.heap.size+1,6,O⟩=E (R K c.F)):=λV J=>by have h:=hO.below J;exact⟨h.cell (i:=0) rfl rfl,h.cell (i:=0) rfl rfl,h.cell (i:=1) rfl rfl,h.cell (i:=1) rfl rfl,h.cell (i:=1) rfl rfl,h.cell (i:=1) rfl rfl,h.cell (i:=1) rfl rfl,h.cell (i:=1) rfl rfl,h.cell (i:=1) rfl rfl⟩
 have k1:Hid (Calls ZP 52 #[i8 (AM fold a U ca)] W λe w'=>∃B,e=ra (ta #[L (E ⟨B,0,O⟩),R K 0])/\Hj W.heap.size B fold wss w'/\Bt W w'):=adn fold a U ca wss W (hA.below X) al hM hT hr;have k2:Hid (∀V,Bt W V->Calls ZP 53 #[T d m cd] V λe w'=>∃KB a' c',e=ra (L (E ⟨KB,0,O⟩))/\CN (λk=>V.heap.size<=k) KB a' m c' (T O 0 0) c.ans [] 0 w'/\Bt V w'):=λV J=>ajG d m cd c.ans V ((hD.below X).below J) hm;obtain⟨aj,Z⟩:=hR;have a8:lc Y=n:=by rw[<-Z.2.1];exact Z.1.1
 have k3:Hid (∀V,Bt W V->Calls ZP 55 #[i6 c.br,T b n cb] V λe w'=>∃S a' c' ak,e=ra (L (E ⟨S,0,O⟩))/\BY (λk=>V.heap.size<=k) S a' (lc Y) c' ak Y c.br 0 w'/\Bt V w'):=λV J=>
  aiT b n cb aj Y c.br V ⟨(Z.1.below X).below J,Z.2.1,λi v xs h1 h2=>((Z.2.2 i v xs h1 h2).below X).below J⟩ hn hl
 have HB:=AA X;have HR:=AA hr;have HL:=AA hL;have HK:=AA I;have HS:=AA a6;have ap:=AA a2;have HF:=AA ac;have HN:Hid (lc Y<=1000000):=by rw[Hid,a8];exact hn
 have ar:=AA j;rw[<-j]at HC;obtain⟨q0,q1,q2,q3,q4,q5,q6,q7,q8⟩:=HC.out W (AH _ _);clear hA Z hD hr hM hT hL I a6 a2 ac hl hO X a8 j;go_enter func24,ntmps24;go_upto_region 1 with fail
 rw[<-hW];clear hW ae
 go_wp2_with fail
 refine k1.out.mono ?_;rintro e w1 ⟨B,rfl,af,ad⟩;have X1:=AA ad;have ai:=AA af;clear q0 q1 q2 q3 q4 q5 q6 q7 q8 ad af k1;go_upto_region 4 with fail
 obtain⟨D,hD⟩:∃D,D=w1.drew:=⟨_,rfl⟩;have N:Hid (Bt w1 D):=by rw[Hid,hD];exact AN w1 1
 have XD:=AA (X1.out.trans (N.out.mono X1.out.size));have K3:=AA (k3.out D XD.out);clear k3;refine Vb ?_;refine Va (S:=λV=>Bt W V) kr (by rw[<-hD];exact XD.out) (λhHeld=>?_);rw[<-hD];clear hD;refine tkB 0 HC.out ?_;refine tkB 1 HC.out ?_;refine tkB 2 HC.out ?_;refine tkB 3 HC.out ?_;refine tkA 5 ?_;refine rdy 4 (λKB H=>?_);go_simp
 go_at_call 55;refine K3.out.mono ?_;rintro e w2 ⟨S,sa,sc,vs,rfl,a7,s⟩
 have a1:=AA s;have am:=AA a7;have X2:=AA (XD.out.trans (s.mono XD.out.size));clear s a7 K3;refine H.out _ _ X2.out (λh7=>?_);clear H KB
 try simp only[pq]
 have K2:=AA (k2.out w2 X2.out);clear k2;refine rdy 6 (λKB H=>?_);go_simp
 go_at_call 53;refine K2.out.mono ?_;rintro e w3 ⟨Kk,ka,kc,rfl,ab,y⟩
 have ag:=AA y;have aq:=AA ab;have X3:=AA (X2.out.trans (y.mono X2.out.size));clear y ab K2;refine H.out _ _ X3.out (λh8=>?_);clear H KB
 try simp only[pq]
 have aa:Fk W.heap.size w1 w3:=EF.of_below (N.out.trans ((a1.out.trans (ag.out.mono a1.out.size)).mono N.out.size));have K4:=AA (aiL c B S Kk W.heap.size w1 w3 HF.out HK.out (λV J=>ap2 ai.out HL.out V J) aa);clear aa;refine rdy 7 (λKB H=>?_);go_simp
 go_at_call 54;refine K4.out.mono ?_;rintro e w4 ⟨P,n0,n1,n2,n3,n4,n5,Bb,Bu,Bd,Q,QB,Gd,GB,Ob,OB,tv,tl,rfl,C⟩
 have ao:=AA C;have X4:=AA (X3.out.trans (C.below.mono X3.out.size));clear C;refine H.out _ _ X4.out (λh9=>?_);clear H KB
 try simp only[pq]
 refine tkA 8 ?_;refine tkA 9 ?_;refine tkA 10 ?_;refine tkA 11 ?_;refine tkA 12 ?_;refine Vd kr ?_ _;refine At ?_;go_wp2;go_ret;obtain⟨A,o,e1,e2,e3,e4⟩:=ar0 ai.out HR.out HS.out ap.out rfl X1.out N.out a1.out ag.out aq.out am.out HN.out ao.out;refine⟨A,o,?_,e3,HB.out.trans (X4.out.mono HB.out.size),λk hk=>e4 k (Af hk HB.out.size)⟩;rw[e1];rfl
def PD(c:CfM)(s:PlM)(d n:Int):PlM:=if d=0 then Fi c s n else if d=1 then PA c s n else LN s
def PM(c:CfM)(s:PlM)(d n:Int):Vh:=ta (if d=0 then(match EZ c s n with|none=>#[R K 0,i6 M]|some t=>#[R K (t:Int),i6 G]) else if d=1 then #[R K n,i6 (Ou c s n)] else #[R K 0,i6 (!(s.cancelled || Fd s))])
theorem aqj{A:PAd}{c:CfM}{s:PlM}{o:Nat->Nat}(w:Wa)(h:AI A c o s w)(U:OkC c)(ok:OkM c s)(d n:Int) :Calls ZP 31 #[L (E ⟨A.P,0,O⟩),i8 #[R K d,R K n]] w λe w'=>e=ra (PM c s d n)/\AE A c o (PD c s d n) w w':=by
 obtain⟨W,hW⟩:∃W,W=w.alloc (i7 #[R K d,R K n] 59):=⟨_,rfl⟩;have N:Bt w W:=by rw[hW];exact AL _ _
 have hx:W.heap[w.heap.size]?=E (i7 #[R K d,R K n] 59 (0,0)):=by rw[hW];exact AT _ _
 have X:W.cell? ⟨w.heap.size,0,O⟩=E (R K d):=by simp[cell?,hx]
 have y:W.cell? ⟨w.heap.size,1,O⟩=E (R K n):=by simp[cell?,hx]
 have hG:=h.g.bel N;obtain⟨P,hP⟩:∃P,A.P=P:=⟨_,rfl⟩;unfold PM PD;have C:=AA (ahi w W hG U ok n);have j:Hid (∀D,Bt W D->Calls ZP 44 #[L (E ⟨A.P,0,O⟩),R K n] D λe w'=>e=ra (i6 (Ou c s n))/\AE A c o (PA c s n) w w'/\w'.cell? ⟨w.heap.size,1,O⟩=E (R K n)):=λD I=>by have a1:Bt w D:=N.trans (I.mono N.size);have hl:=(AD.1 hx).1;have a6:=h.far (Y:=λ_=>False) (Chg.of_same a1) λ_ _ e=>e.elim;refine(aq2 D D a6.g U ok n).mono ?_;rintro e w' ⟨h1,h2⟩;refine⟨h1,AE.comp (λ_ h=>h) ⟨.of_same a1,λ_ _ h=>h⟩ h2,?_⟩;obtain⟨o1,_,_,h3⟩:=h2;have e1:w'.heap[w.heap.size]?=W.heap[w.heap.size]?:=(h3.c.block _ (Af hl I.size) λe=>e.2 (h.out _ (AC _))).trans (I.block _ hl);simp[cell?,e1,hx]
 have HN:=AA (apX w W hG U ok.wl);rw[hP]at C j HN⊢;clear h N hx hG U ok hP
 by_cases h0:d=0
 ·subst h0;simp only[if_true];clear j HN
  cases hp:EZ c s n with
  |none=>
   rw[hp]at C;go_enter func31,ntmps31;go_upto_region 1 with fail
   rw[<-hW];clear hW
   go_wp2_with fail
   refine C.out.mono ?_;rintro e w1 ⟨rfl,Z⟩;have B:=AA Z;clear Z X y;go_wp2;go_ret2;exact⟨rfl,B.out⟩
  |some t=>
   rw[hp]at C;go_enter func31,ntmps31;go_upto_region 1 with fail
   rw[<-hW];clear hW
   go_wp2_with fail
   refine C.out.mono ?_;rintro e w1 ⟨rfl,Z⟩;have B:=AA Z;clear Z X y;go_wp2;go_ret2;exact⟨rfl,B.out⟩
 ·rw[Lb h0,Lb h0];have e0:(d==0)=M:=by simp[h0]
  have a7:decide (d=0)=M:=by simp[h0]
  by_cases h1:d=1
  ·subst h1;simp only[if_true];clear C HN e0 a7;obtain⟨b,hb⟩:∃b,Ou c s n=b:=⟨_,rfl⟩;rw[hb]at j⊢;clear hb;go_enter func31,ntmps31;go_upto_region 1 with fail
   rw[<-hW];clear hW;go_upto_region 5 with fail
   obtain⟨D,I⟩:∃D,D=W.drew:=⟨_,rfl⟩;have H:Bt W D:=by rw[I];exact AN W 1
   have a2:D.cell? ⟨w.heap.size,1,O⟩=E (R K n):=(H.cell (p:=⟨w.heap.size,1,O⟩) (DO W _ y)).trans y;have a8:=AA (j.out D H);clear j X y H;refine Vb ?_;refine Va (S:=λV=>V.cell? ⟨w.heap.size,1,O⟩=E (R K n)) kr (by rw[<-I];exact a2) (λhHeld=>?_);rw[<-I];clear I hHeld;refine tkW 0 (v:=?_) ?_ ?_;rotate_left
   ·intro V J;have X:V.cell? ⟨w.heap.size,1,O⟩=E (R K n):=J
    first|(go_simp;done)|(go_simp;with_reducible rfl)
   try simp only[pq]
   refine tkW 1 (v:=?_) ?_ ?_;rotate_left
   ·intro V J;have X:V.cell? ⟨w.heap.size,1,O⟩=E (R K n):=J
    first|(go_simp;done)|(go_simp;with_reducible rfl)
   try simp only[pq]
   refine tkW 2 (v:=?_) ?_ ?_;rotate_left
   ·intro V J;have X:V.cell? ⟨w.heap.size,1,O⟩=E (R K n):=J
    first|(go_simp;done)|(go_simp;with_reducible rfl)
   try simp only[pq]
   refine tkW 3 (v:=?_) ?_ ?_;rotate_left
   ·intro V J;have X:V.cell? ⟨w.heap.size,1,O⟩=E (R K n):=J
    first|(go_simp;done)|(go_simp;with_reducible rfl)
   try simp only[pq]
   refine tkW 4 (v:=?_) ?_ ?_;rotate_left
   ·intro V J;have X:V.cell? ⟨w.heap.size,1,O⟩=E (R K n):=J
    first|(go_simp;done)|(go_simp;with_reducible rfl)
   try simp only[pq]
   refine rdy 5 (λKB hK=>?_);go_simp
   go_at_call 44;refine a8.out.mono ?_;rintro e w1 ⟨rfl,Z,hq⟩
   have B:=AA Z;refine hK.out _ _ hq (λh5=>?_);clear hK KB Z hq
   try simp only[pq]
   refine tkA 6 ?_;refine tkA 7 ?_;refine Vd kr ?_ _;refine At ?_;go_wp2;go_ret2;exact⟨rfl,B.out⟩
  ·rw[Lb h1,Lb h1];have e1:(d==1)=M:=by simp[h1]
   have aa:decide (d=1)=M:=by simp[h1]
   clear C j;obtain⟨b,hb⟩:∃b,(!(s.cancelled || Fd s))=b:=⟨_,rfl⟩;rw[hb]at HN⊢;clear hb;go_enter func31,ntmps31;go_upto_region 1 with fail
   rw[<-hW];clear hW
   go_wp2_with fail
   refine HN.out.mono ?_;rintro e w1 ⟨rfl,Z⟩;have B:=AA Z;clear Z X y;go_wp2;go_ret2;exact⟨rfl,B.out⟩
section
variable {A B:PAd}{c d:CfM}{s s' t t':PlM}{o p:Nat->Nat}{F:Nat->Prop}{w w' w'':Wa}
theorem Two.mk{U V N:Wa}{b:Nat}(h1:AI A c o s U)(D:b<=U.heap.size)(I:∀k,k<b->o k=1000000)(X:Bt U V)(Z:Bt V N)(h3:AI B d p t N)(J:∀k,k<V.heap.size->p k=1000000):Two A B c d (λk=>k<b) s t N:=by
 have s1:=X.size;have s2:=Z.size;refine⟨o,p,(h1.far (Y:=λ_=>False) (.of_same (X.trans (Z.mono s1))) λ_ _ e=>e.elim),h3,λk hk=>⟨by omega,I k hk,J k om⟩,λk hk=>⟨λe=>?_,λe=>?_⟩⟩
 ·refine J k (Nat.lt_of_not_le λH=>?_);exact e.2 (h1.out k om)
 ·refine h1.out k (Nat.le_of_not_lt λH=>?_);exact e.2 (J k om)
theorem Two.calm(h:Two A B c d F s t w){f:FuncId}{args:Array Vh}{Ra:Ending->Wa->Prop}(k:∀o,AI A c o s w->Calls ZP f args w λe w'=>Ra e w'/\Bt w w') :Calls ZP f args w λe w'=>Ra e w'/\Two A B c d F s t w'/\Bt w w':=by have h0:=h;obtain⟨o,p,h1,h2,h3⟩:=h;refine(k o h1).mono ?_;rintro e w' ⟨Y,Z⟩;exact⟨Y,h0.same Z,Z⟩
theorem Two.pick(h:Two A B c d F s t w)(Z:OkC c)(ok:OkM c s)(z:Int) :Calls ZP 17 #[L (E ⟨A.P,0,O⟩),R K z] w λe w'=>e=ra (ta (match EZ c s z with|none=>#[R K 0,i6 M]|some t=>#[R K (t:Int),i6 G]))/\Two A B c d F (Fi c s z) t w'/\Chg (λk=>¬F k) w w':=h.call λo h1=>ahi w w h1.g Z ok z
theorem Two.step(h:Two A B c d F s t w)(Z:OkC c)(ok:OkM c s)(z:Int) :Calls ZP 44 #[L (E ⟨A.P,0,O⟩),R K z] w λe w'=>e=ra (i6 (Ou c s z))/\Two A B c d F (PA c s z) t w'/\Chg (λk=>¬F k) w w':=h.call λo h1=>aq2 w w h1.g Z ok z
theorem Two.cancel(h:Two A B c d F s t w)(Z:OkC c)(ok:OkM c s) :Calls ZP 21 #[L (E ⟨A.P,0,O⟩)] w λe w'=>e=ra (i6 (!(s.cancelled || Fd s)))/\Two A B c d F (LN s) t w'/\Chg (λk=>¬F k) w w':=h.call λo h1=>apX w w h1.g Z ok.wl
theorem Two.over(h:Two A B c d F s t w)(Z:OkC c)(ok:OkM c s) :Calls ZP 16 #[L (E ⟨A.P,0,O⟩)] w λe w'=>e=ra (i6 (Fd s))/\Two A B c d F s t w'/\Bt w w':=h.calm λo h1=>ahx w h1 Z ok.wl
theorem Two.status(h:Two A B c d F s t w)(Z:OkC c)(ok:OkM c s) :Calls ZP 37 #[L (E ⟨A.P,0,O⟩)] w λe w'=>e=ra (i8 #[.int .u8 (Ow c s).1,R K (Ow c s).2])/\Two A B c d F s t w'/\Bt w w':=h.calm λo h1=>aq9 w w h1.g Z ok.wl
theorem Two.took(h:Two A B c d F s t w)(ok:OkM c s) :Calls ZP 41 #[L (E ⟨A.P,0,O⟩)] w λe w'=>(∃v,e=ra v/\Ax w' w.heap.size v s.took)/\Two A B c d F s t w'/\Bt w w':=h.calm λo h1=>(aqr w w h1.g ok.tol2).mono λe w' ⟨v,h2,h3,h4⟩=>⟨⟨v,h2,h3⟩,h4⟩
theorem Two.enabled(h:Two A B c d F s t w)(Y:OkC c)(ok:OkM c s) :Calls ZP 29 #[L (E ⟨A.P,0,O⟩)] w λe w'=>(∃a X,e=ra (T a (II c s).length X)/\Sl1 (R K) w' a (II c s).length (enF c s (c.W+3)))/\Two A B c d F s t w'/\Bt w w':=
 h.calm λo h1=>(adu w h1 Y ok).mono λe w' ⟨v,h2,h3,h4⟩=>by
  obtain⟨a,X,rfl,_,V⟩:=Co (enc:=R K) h3;have Z:(enF c s (c.W+3)).length=(II c s).length:=by rw[ak5,BP]
  rw[Z]at h2 V;exact⟨⟨a,X,h2,V⟩,h4⟩
theorem Two.view(h:Two A B c d F s t w)(Y:OkC c)(ok:OkM c s)(X:EE c s) :Calls ZP 34 #[L (E ⟨A.P,0,O⟩)] w λe w'=>(∃v0 v3 v4 Z,e=ra (i8 (vwC v0 v3 v4 Z (Br c s)))/\VwS w' w.heap.size v0 v3 v4 Z (Br c s))/\Two A B c d F s t w'/\Bt w w':=h.calm λo h1=>(aqY w h1 Y ok X).mono λe w' ⟨v0,v3,v4,Z,h2,h3,h4⟩=>⟨⟨v0,v3,v4,Z,h2,h3⟩,h4⟩
end
structure TwW(A B:PAd)(F:Nat->Prop)(i j:Nat)(V:World):Prop where
 o:Two A B (cW false []) (cW true [false]) F (sP i) (sQ j) V
structure TwE(A B:PAd)(F:Nat->Prop)(j:Nat)(V:World):Prop where
 o:Two A B (cW false []) (cW true [false]) F (sP 200) (sE j) V
section
variable {A B:PAd}{F:Nat->Prop}{i j:Nat}{w w':Wa}
theorem TwW.same(h:TwW A B F i j w)(Z:Bt w w'):TwW A B F i j w':=⟨h.o.same Z⟩
theorem TwE.more{Gd:Nat->Prop}(h:TwE A B F j w)(Z:Bt w w')(Y:∀k,Gd k->F k∨w.heap.size<=k/\k<w'.heap.size):TwE A B Gd j w':=⟨h.o.more Z Y⟩
theorem TwE.same(h:TwE A B F j w)(Z:Bt w w'):TwE A B F j w':=⟨h.o.same Z⟩
def PU(e:Ending):Prop:=∃x y,e=ra (ta #[R K x,i6 y])
theorem Pd(c:CfM)(s:PlM)(z:Int):PU (ra (ta (match EZ c s z with|none=>#[R K 0,i6 M]|some t=>#[R K (t:Int),i6 G]))):=by cases EZ c s z<;>exact⟨_,_,rfl⟩
theorem TwW.pickA(h:TwW A B F i j w)(Z:i<300):Calls ZP 17 #[L (E ⟨A.P,0,O⟩),R K (i:Int)] w λe w'=>PU e/\TwW A B F (i+1) j w'/\Chg (λk=>¬F k) w w':=by refine(h.o.pick Ov (okW (PG i) om) i).mono ?_;rintro e w' ⟨rfl,h1,h2⟩;exact⟨Pd _ _ _,⟨by rw[ard];exact h1⟩,h2⟩
theorem TwW.pickB(h:TwW A B F i j w)(Z:j<300):Calls ZP 17 #[L (E ⟨B.P,0,O⟩),R K (j:Int)] w λe w'=>PU e/\TwW A B F i (j+1) w'/\Chg (λk=>¬F k) w w':=by refine(h.o.symm.pick Ov (okW (PC j) om) j).mono ?_;rintro e w' ⟨rfl,h1,h2⟩;exact⟨Pd _ _ _,⟨by rw[arb];exact h1.symm⟩,h2⟩
theorem TwE.pickB(h:TwE A B F j w)(Z:j<300):Calls ZP 17 #[L (E ⟨B.P,0,O⟩),R K 0] w λe w'=>PU e/\TwE A B F (j+1) w'/\Chg (λk=>¬F k) w w':=by refine(h.o.symm.pick Ov (okW (PL j) om) 0).mono ?_;rintro e w' ⟨rfl,h1,h2⟩;exact⟨Pd _ _ _,⟨by rw[ar7];exact h1.symm⟩,h2⟩
theorem TwW.viewB(h:TwW A B F i j w)(v:j<300):Calls ZP 34 #[L (E ⟨B.P,0,O⟩)] w λe w'=>(∃v0 v3 v4 X V Y C D H I J N U Z,e=ra (i8 #[v0,R K I,R K J,v3,v4,R K N,T X V Y,R K U,i6 C,i6 D,i6 H,R K Z])/\V<=2)/\TwW A B F i j w'/\Bt w w':=by refine(h.o.symm.view Ov (okW (PC j) om) (PC j).p).mono ?_;rintro e w' ⟨⟨v0,v3,v4,y,rfl,h0⟩,h1,h2⟩;obtain⟨X,Y,rfl,_,_⟩:=Co h0.r6;refine⟨⟨v0,v3,v4,X,_,Y,_,_,_,_,_,_,_,_,rfl,?_⟩,⟨h1.symm⟩,h2⟩;exact AS (PN (sQ j).us (sQ j).us.length) (by rw[(PC j).p.b.ul];decide)
theorem TwW.statB(h:TwW A B F 200 200 w):Calls ZP 37 #[L (E ⟨B.P,0,O⟩)] w λe w'=>e=ra (i8 #[.int .u8 1,R K 0])/\TwW A B F 200 200 w'/\Bt w w':=by
 refine(h.o.symm.status Ov (okW (PC 200) om)).mono ?_;rintro e w' ⟨rfl,h1,h2⟩;have Z:Ow (cW G [M]) (sQ 200)=(1,0):=by unfold Ow;rw[PK.1];rfl
 exact⟨by rw[Z],⟨h1.symm⟩,h2⟩
theorem TwW.overB(h:TwW A B F 200 200 w):Calls ZP 16 #[L (E ⟨B.P,0,O⟩)] w λe w'=>e=ra (i6 M)/\TwW A B F 200 200 w'/\Bt w w':=by refine(h.o.symm.over Ov (okW (PC 200) om)).mono ?_;rintro e w' ⟨rfl,h1,h2⟩;exact⟨by rw[PK.1],⟨h1.symm⟩,h2⟩
theorem TwW.tookB(h:TwW A B F 200 200 w):Calls ZP 41 #[L (E ⟨B.P,0,O⟩)] w λe w'=>(∃a Z,e=ra (T a 0 Z))/\TwW A B F 200 200 w'/\Bt w w':=by refine(h.o.symm.took (okW (PC 200) om)).mono ?_;rintro e w' ⟨⟨v,rfl,h0⟩,h1,h2⟩;rw[PK.2.1]at h0;obtain⟨a,Z,rfl,_,_⟩:=Gy h0;exact⟨⟨a,Z,rfl⟩,⟨h1.symm⟩,h2⟩
theorem TwW.enB(h:TwW A B F 200 200 w):Calls ZP 29 #[L (E ⟨B.P,0,O⟩)] w λe w'=>(∃a Z,e=ra (T a 1 Z))/\TwW A B F 200 200 w'/\Bt w w':=by refine(h.o.symm.enabled Ov (okW (PC 200) om)).mono ?_;rintro e w' ⟨⟨a,Z,rfl,_⟩,h1,h2⟩;exact⟨⟨a,Z,by rw[PK.2.2.1]⟩,⟨h1.symm⟩,h2⟩
theorem TwW.canB(h:TwW A B F 200 200 w):Calls ZP 21 #[L (E ⟨B.P,0,O⟩)] w λe w'=>e=ra (i6 G)/\TwE A B F 0 w'/\Chg (λk=>¬F k) w w':=by refine(h.o.symm.cancel Ov (okW (PC 200) om)).mono ?_;rintro e w' ⟨rfl,h1,h2⟩;exact⟨by rw[PK.1,PK.2.2.2];rfl,⟨h1.symm⟩,h2⟩
theorem TwE.canB(h:TwE A B F 0 w):Calls ZP 21 #[L (E ⟨B.P,0,O⟩)] w λe w'=>e=ra (i6 M)/\TwE A B F 0 w'/\Chg (λk=>¬F k) w w':=by
 have Z:(sE 0).cancelled=G:=by decide+kernel
 refine(h.o.symm.cancel Ov (okW (PL 0) om)).mono ?_;rintro e w' ⟨rfl,h1,h2⟩;have Y:LN (sE 0)=sE 0:=by unfold LN;rw[Z];rfl
 rw[Y]at h1;exact⟨by rw[Z];rfl,⟨h1.symm⟩,h2⟩
theorem TwE.viewB(h:TwE A B F 60 w):Calls ZP 34 #[L (E ⟨B.P,0,O⟩)] w λe w'=>(∃v0 v3 v4 Z,e=ra (i8 (vwC v0 v3 v4 Z (vwE G)))/\VwS w' w.heap.size v0 v3 v4 Z (vwE G))/\TwE A B F 60 w'/\Bt w w':=by refine(h.o.symm.view Ov (okW (PL 60) om) (PL 60).p).mono ?_;rintro e w' ⟨h0,h1,h2⟩;rw[ark]at h0;exact⟨h0,⟨h1.symm⟩,h2⟩
theorem TwE.statB(h:TwE A B F 60 w):Calls ZP 37 #[L (E ⟨B.P,0,O⟩)] w λe w'=>e=ra (i8 #[.int .u8 3,R K 0])/\TwE A B F 60 w'/\Bt w w':=by
 refine(h.o.symm.status Ov (okW (PL 60) om)).mono ?_;rintro e w' ⟨rfl,h1,h2⟩;have Z:Ow (cW G [M]) (sE 60)=(3,0):=by unfold Ow;rw[PZ.1,PZ.2.1];rfl
 exact⟨by rw[Z],⟨h1.symm⟩,h2⟩
theorem TwE.enB(h:TwE A B F 60 w):Calls ZP 29 #[L (E ⟨B.P,0,O⟩)] w λe w'=>(∃a Z,e=ra (T a 0 Z))/\TwE A B F 60 w'/\Bt w w':=by refine(h.o.symm.enabled Ov (okW (PL 60) om)).mono ?_;rintro e w' ⟨⟨a,Z,rfl,_⟩,h1,h2⟩;exact⟨⟨a,Z,by rw[PZ.2.2]⟩,⟨h1.symm⟩,h2⟩
theorem TwE.tookA(h:TwE A B F 60 w):Calls ZP 41 #[L (E ⟨A.P,0,O⟩)] w λe w'=>(∃a Z,e=ra (T a 3 Z)/\Hts w' a 3 [(4,1),(4,0),(5,2)])/\TwE A B F 60 w'/\Bt w w':=by refine(h.o.took (okW (PG 200) om)).mono ?_;rintro e w' ⟨⟨v,rfl,h0⟩,h1,h2⟩;rw[PH.2.1]at h0;obtain⟨a,Z,rfl,_,Y,_⟩:=Gy h0;exact⟨⟨a,Z,rfl,Y,by unfold I64;decide⟩,⟨h1⟩,h2⟩
theorem TwE.statA(h:TwE A B F 60 w):Calls ZP 37 #[L (E ⟨A.P,0,O⟩)] w λe w'=>e=ra (i8 #[.int .u8 2,R K 0])/\TwE A B F 60 w'/\Bt w w':=by
 refine(h.o.status Ov (okW (PG 200) om)).mono ?_;rintro e w' ⟨rfl,h1,h2⟩;have Z:Ow (cW M []) (sP 200)=(2,0):=by unfold Ow;rw[PH.1,PH.2.2.1];rfl
 exact⟨by rw[Z],⟨h1⟩,h2⟩
theorem TwE.overA(h:TwE A B F 60 w):Calls ZP 16 #[L (E ⟨A.P,0,O⟩)] w λe w'=>e=ra (i6 G)/\TwE A B F 60 w'/\Bt w w':=by refine(h.o.over Ov (okW (PG 200) om)).mono ?_;rintro e w' ⟨rfl,h1,h2⟩;exact⟨by rw[PH.1],⟨h1⟩,h2⟩
theorem TwE.canA(h:TwE A B F 60 w):Calls ZP 21 #[L (E ⟨A.P,0,O⟩)] w λe w'=>e=ra (i6 M)/\TwE A B F 60 w'/\Chg (λk=>¬F k) w w':=by
 refine(h.o.cancel Ov (okW (PG 200) om)).mono ?_;rintro e w' ⟨rfl,h1,h2⟩;have Z:LN (sP 200)=sP 200:=by unfold LN;rw[PH.1,Bool.or_true];rfl
 rw[Z]at h1;exact⟨by rw[PH.1,Bool.or_true];rfl,⟨h1⟩,h2⟩
theorem TwE.stepA(h:TwE A B F 60 w):Calls ZP 44 #[L (E ⟨A.P,0,O⟩),R K 0] w λe w'=>e=ra (i6 M)/\TwE A B F 60 w'/\Chg (λk=>¬F k) w w':=by
 have Z:Ou (cW M []) (sP 200) 0=M:=by unfold Ou;rw[show(0:Int).toNat=0 from rfl,PH.2.2.2,Bool.and_false]
 refine(h.o.step Ov (okW (PG 200) om) 0).mono ?_;rintro e w' ⟨rfl,h1,h2⟩;have e2:PA (cW M []) (sP 200) 0=sP 200:=by unfold PA;rw[Z];rfl
 rw[e2]at h1;exact⟨by rw[Z],⟨h1⟩,h2⟩
theorem TwE.viewA(h:TwE A B F 60 w):Calls ZP 34 #[L (E ⟨A.P,0,O⟩)] w λe w'=>(∃v0 v3 v4 Z,e=ra (i8 (vwC v0 v3 v4 Z (vwE M)))/\VwS w' w.heap.size v0 v3 v4 Z (vwE M))/\TwE A B F 60 w'/\Bt w w':=by refine(h.o.view Ov (okW (PG 200) om) (PG 200).p).mono ?_;rintro e w' ⟨h0,h1,h2⟩;rw[arj]at h0;exact⟨h0,⟨h1⟩,h2⟩
end
theorem PW(w:Wa):Calls ZP 60 #[] w λe w'=>∃a,e=ra (i8 (AM M (E a) 3 3))/\Wds w' (E a) 3 heW/\Bt w w':=by
 have kc:=aql;go_enter func60,ntmps60;go_wp2;obtain⟨H,V⟩:∃H,H=w.alloc (i7 #[i6 M,T (E ⟨w.heap.size+1+1+1+1,0,O⟩) 3 3] 24):=⟨_,rfl⟩;rw[<-V];have s:H.heap.size=w.heap.size+1:=by rw[V];simp
 have n1:H.heap[w.heap.size]?=E (i7 #[i6 M,T (E ⟨w.heap.size+1+1+1+1,0,O⟩) 3 3] 24 (0,0)):=by rw[V];exact AT _ _
 have B1:Bt w H:=by rw[V];exact AL _ _
 clear V;obtain⟨I,X⟩:∃I,I=H.alloc (i7 #[.int .u8 104,.int .u8 101] 5 (2,3)):=⟨_,rfl⟩;rw[<-X];have y:I.heap.size=w.heap.size+1+1:=by rw[X];simp[s]
 have y1:Bys I (E ⟨w.heap.size+1,0,O⟩) 2 [104,101]:=by rw[X];exact PO [104,101] sm _ _ s
 have j:Bt H I:=by rw[X];exact AL _ _
 clear X;obtain⟨J,Y⟩:∃J,J=I.alloc (i7 #[.int .u8 115,.int .u8 104,.int .u8 101] 5 (3,4)):=⟨_,rfl⟩;rw[<-Y];have z3:J.heap.size=w.heap.size+1+1+1:=by rw[Y];simp[y]
 have y2:Bys J (E ⟨w.heap.size+1+1,0,O⟩) 3 [115,104,101]:=by rw[Y];exact PO [115,104,101] sm _ _ y
 have A:Bt I J:=by rw[Y];exact AL _ _
 clear Y;obtain⟨N,Z⟩:∃N,N=J.alloc (i7 #[.int .u8 104,.int .u8 101,.int .u8 114] 5 (3,4)):=⟨_,rfl⟩;rw[<-Z];have z4:N.heap.size=w.heap.size+1+1+1+1:=by rw[Z];simp[z3]
 have y3:Bys N (E ⟨w.heap.size+1+1+1,0,O⟩) 3 [104,101,114]:=by rw[Z];exact PO [104,101,114] sm _ _ z3
 have B:Bt J N:=by rw[Z];exact AL _ _
 clear Z;obtain⟨C,U⟩:∃C,C=N.alloc (i7 #[T (E ⟨w.heap.size+1,0,O⟩) 2 2,T (E ⟨w.heap.size+1+1,0,O⟩) 3 3,T (E ⟨w.heap.size+1+1+1,0,O⟩) 3 3] 32):=⟨_,rfl⟩;rw[<-U];have y4:Sl1 (λv:Option Addr×Nat×Nat=>T v.1 v.2.1 v.2.2) C (E ⟨w.heap.size+1+1+1+1,0,O⟩) 3 [(E ⟨w.heap.size+1,0,O⟩,2,2),(E ⟨w.heap.size+1+1,0,O⟩,3,3),(E ⟨w.heap.size+1+1+1,0,O⟩,3,3)]:=by rw[U];exact Sl1.lay (α:=Option Addr×Nat×Nat) _ N [(E ⟨w.heap.size+1,0,O⟩,2,2),(E ⟨w.heap.size+1+1,0,O⟩,3,3),(E ⟨w.heap.size+1+1+1,0,O⟩,3,3)] _ _ z4
 have D:Bt N C:=by rw[U];exact AL _ _
 clear U;have n5:C.heap[w.heap.size]?=_:=(D.block _ om).trans ((B.block _ om).trans ((A.block _ om).trans ((j.block _ om).trans n1)));refine Vf (results_cell_row rfl _ _ w.heap.size _ _ _ _ rfl n5 underlying24 rfl kr) rfl ⟨_,rfl,?_,?_⟩
 ·exact arl y4 (((y1.below A).below B).below D) ((y2.below B).below D) (y3.below D) (AC _) (AC _) (AC _)
 ·exact B1.trans ((j.trans ((A.trans ((B.trans (D.mono om)).mono om)).mono om)).mono om)
theorem aqT(w:Wa):Calls ZP 54 #[L O,i8 (Ee 0 0 0 0 0 0 0),L O,L O] w λe w'=>e=ra (ta #[L O,R K 2])/\Bt w w':=by have Z:=AA (AL w (i7 (Ee 0 0 0 0 0 0 0) 26));go_enter func54,ntmps54;go_wp2;go_ret2;exact⟨rfl,Z.out⟩
theorem aqp(m:Nat)(w:Wa):Calls ZP 54 #[L (E ⟨m,0,O⟩),i8 (Ee 0 0 0 0 0 0 0),L O,L O] w λe w'=>e=ra (ta #[L O,R K 270])/\Bt w w':=by
 obtain⟨W,hW⟩:∃W,W=w.alloc (i7 (Ee 0 0 0 0 0 0 0) 26):=⟨_,rfl⟩;have X:=AA (AL w (i7 (Ee 0 0 0 0 0 0 0) 26));rw[<-hW]at X;have Z:W.heap[w.heap.size]?=E (i7 (Ee 0 0 0 0 0 0 0) 26 (0,0)):=by rw[hW];exact AT _ _
 have A:W.cell? ⟨w.heap.size,0,O⟩=E (R K 0):=by simp[cell?,Z]
 have B:W.cell? ⟨w.heap.size,1,O⟩=E (R K 0):=by simp[cell?,Z]
 have C:W.cell? ⟨w.heap.size,2,O⟩=E (R K 0):=by simp[cell?,Z]
 have D:W.cell? ⟨w.heap.size,3,O⟩=E (R K 0):=by simp[cell?,Z]
 have H:W.cell? ⟨w.heap.size,4,O⟩=E (R K 0):=by simp[cell?,Z]
 have I:W.cell? ⟨w.heap.size,5,O⟩=E (R K 0):=by simp[cell?,Z]
 have J:W.cell? ⟨w.heap.size,6,O⟩=E (R K 0):=by simp[cell?,Z]
 have U:=NG 0 0 0 0 0 0 0 W;have N:Ce 0 0 0 0 0 0 0=M:=by decide
 rw[N]at U;have V:=AA U;clear U N Z;go_enter func54,ntmps54;go_upto_region 1 with fail
 rw[<-hW];clear hW
 go_wp2_with fail
 refine V.out.mono ?_;rintro e v ⟨rfl,Y⟩;have y:=AA (X.out.trans (Y.mono X.out.size));clear Y A B C D H I J;go_wp2;go_ret2;exact⟨rfl,y.out⟩
theorem aq7(w:Wa):Calls ZP 29 #[L O] w λe w'=>e=ra (T O 0 0)/\Bt w w':=by have Z:=AA (AH w.heap.size w);go_enter func29,ntmps29;go_wp2;go_ret;exact⟨rfl,Z.out⟩
theorem aqu(w:Wa):Calls ZP 16 #[L O] w λe w'=>e=ra (i6 M)/\Bt w w':=by have Z:=AA (AH w.heap.size w);go_enter func16,ntmps16;go_wp2;go_ret;exact⟨rfl,Z.out⟩
theorem aqt(n:Int)(w:Wa):Calls ZP 17 #[L O,R K n] w λe w'=>e=ra (ta #[R K 0,i6 M])/\Bt w w':=by
 have X:=AA (aq7 w);go_enter func17,ntmps17
 go_wp2_with (first|(go_at_call 29;refine X.out.mono ?_;rintro e U ⟨rfl,Z⟩;have Y:=AA Z;clear Z)|(go_at_call 43;refine(acE n O 0 0 [] _ ⟨rfl,.inl rfl⟩ om).mono ?_;rintro e V ⟨rfl,rfl⟩))
 go_ret2;exact⟨rfl,Y.out⟩
theorem PV(w:Wa):Calls ZP 23 #[] w λe w'=>e=ra (i6 G)/\Bt w w':=by
 have kc:=aql;have cw:=AA (AH w.heap.size w);go_enter func23,ntmps23;go_upto_region 3 with fail
 obtain⟨A1,aI⟩:∃X,X=w.alloc (i7 #[R K 2,R K 3,R K 2,R K 1,R K 1,R K 2,R K 0] 26):=⟨_,rfl⟩;rw[<-aI];have z1:A1.heap.size=w.heap.size+1:=by rw[aI];simp
 have n1:A1.heap[w.heap.size]?=E (i7 #[R K 2,R K 3,R K 2,R K 1,R K 1,R K 2,R K 0] 26 (0,0)):=by rw[aI];exact AT _ _
 have B1:Bt w A1:=by rw[aI];exact AL _ _
 clear aI;obtain⟨A2,aH⟩:∃X,X=A1.alloc (i7 #[.int .u8 117,.int .u8 115,.int .u8 104] 5 (3,4)):=⟨_,rfl⟩;rw[<-aH];have z2:A2.heap.size=w.heap.size+1+1:=by rw[aH];simp[z1]
 have y1:Bys A2 (E ⟨w.heap.size+1,0,O⟩) 3 [117,115,104]:=by rw[aH];exact PO [117,115,104] sm _ _ z1
 have B2:Bt A1 A2:=by rw[aH];exact AL _ _
 clear aH;obtain⟨A3,aG⟩:∃X,X=A2.alloc (i7 #[.int .u8 101,.int .u8 114,.int .u8 115] 5 (3,4)):=⟨_,rfl⟩;rw[<-aG];have z3:A3.heap.size=w.heap.size+1+1+1:=by rw[aG];simp[z2]
 have y2:Bys A3 (E ⟨w.heap.size+1+1,0,O⟩) 3 [101,114,115]:=by rw[aG];exact PO [101,114,115] sm _ _ z2
 have B3:Bt A2 A3:=by rw[aG];exact AL _ _
 clear aG;obtain⟨J,aR⟩:∃X,X=A3.alloc (i7 #[T (E ⟨w.heap.size+1,0,O⟩) 3 3,T O 0 0,T (E ⟨w.heap.size+1+1,0,O⟩) 3 3] 32):=⟨_,rfl⟩;rw[<-aR];have y3:Sl1 (λv:Option Addr×Nat×Nat=>T v.1 v.2.1 v.2.2) J (E ⟨w.heap.size+1+1+1,0,O⟩) 3 [(E ⟨w.heap.size+1,0,O⟩,3,3),(O,0,0),(E ⟨w.heap.size+1+1,0,O⟩,3,3)]:=by rw[aR];exact Sl1.lay (α:=Option Addr×Nat×Nat) _ A3 [(E ⟨w.heap.size+1,0,O⟩,3,3),(O,0,0),(E ⟨w.heap.size+1+1,0,O⟩,3,3)] _ _ z3
 have B4:Bt A3 J:=by rw[aR];exact AL _ _
 clear aR;have bN:=B3.trans (B4.mono B3.size);have aW:Hid (aph J (E ⟨w.heap.size+1+1+1,0,O⟩) 3 [(E ⟨w.heap.size+1,0,O⟩,3,3),(O,0,0),(E ⟨w.heap.size+1+1,0,O⟩,3,3)] rW):=by
  refine⟨y3,rfl,λi v xs hv hx=>?_⟩
  match i,hv,hx with
  |0,hv,hx=>cases hv;cases hx;exact y1.below bN
  |1,hv,hx=>cases hv;cases hx;exact Bys.nil _ _
  |2,hv,hx=>cases hv;cases hx;exact y2.below B4
 have bO:Bt A1 J:=B2.trans (bN.mono B2.size);have cl:Hid (Bt w J):=B1.trans (bO.mono B1.size);have bI:Hid (J.heap[w.heap.size]?=E (i7 #[R K 2,R K 3,R K 2,R K 1,R K 1,R K 2,R K 0] 26 (0,0))):=(bO.block _ (AD.1 n1).1).trans n1;clear y1 y2 y3 B1 B2 B3 B4 bN bO n1 z1 z2 z3;obtain⟨cb,bv⟩:∃x,w.heap.size=x:=⟨_,rfl⟩;obtain⟨rb,bV⟩:∃x,w.heap.size+1+1+1=x:=⟨_,rfl⟩;rw[bV]at aW⊢;rw[bv]at bI⊢;have cF:=AA bv;clear bV bv;have aN:Hid (∀V,Bt J V->V.cell? ⟨cb,0,O⟩=E (R K 2)/\V.cell? ⟨cb,1,O⟩=E (R K 3)/\V.cell? ⟨cb,2,O⟩=E (R K 2)/\V.cell? ⟨cb,3,O⟩=E (R K 1)/\V.cell? ⟨cb,4,O⟩=E (R K 1)/\V.cell? ⟨cb,5,O⟩=E (R K 2)/\V.cell? ⟨cb,6,O⟩=E (R K 0)):=λV N=>by have h:=(N.block _ (AD.1 bI.out).1).trans bI.out;exact⟨by simp[cell?,h],by simp[cell?,h],by simp[cell?,h],by simp[cell?,h],by simp[cell?,h],by simp[cell?,h],by simp[cell?,h]⟩
 have bs:∀V,Bt J V->∃vs,aph V (E ⟨rb,0,O⟩) 3 vs rW:=λV N=>⟨_,aW.out.1.below N,aW.out.2.1,λi v xs h1 h2=>(aW.out.2.2 i v xs h1 h2).below N⟩;have K1:Hid (∀V,Bt J V->∀a,Wds V (E a) 3 heW->Calls ZP 24 #[i8 (AM M (E a) 3 3),i8 #[R K 2,R K 3,R K 2,R K 1,R K 1,R K 2,R K 0],i6 M,T (E ⟨rb,0,O⟩) 3 3,T O 0 0] V λe w'=>∃A o,e=ra (L (E ⟨A.P,0,O⟩))/\AI A (cW M []) o (sP 0) w'/\Bt V w'/\∀k,k<V.heap.size->o k=1000000):=λV N a hw=>
  apT (cW M []) M (E a) 3 3 (E ⟨rb,0,O⟩) 3 3 O 0 0 heW rW V hw (bs V N) ⟨rfl,.inl rfl⟩ (by decide+kernel) (by decide) aqI aqJ (by decide+kernel) (by decide) rfl Ov (by decide) (by decide) (by decide) (by decide)
 have K2:Hid (∀V,Bt J V->∀a g,Wds V (E a) 3 heW->V.heap[g]?=E (i7 #[i6 M] 4 (0,0))->Calls ZP 24 #[i8 (AM M (E a) 3 3),i8 #[R K 2,R K 3,R K 2,R K 1,R K 1,R K 2,R K 0],i6 G,T (E ⟨rb,0,O⟩) 3 3,T (E ⟨g,0,O⟩) 1 1] V λe w'=>∃A o,e=ra (L (E ⟨A.P,0,O⟩))/\AI A (cW G [M]) o (sQ 0) w'/\Bt V w'/\∀k,k<V.heap.size->o k=1000000):=λV N a g hw hg=>
  apT (cW G [M]) M (E a) 3 3 (E ⟨rb,0,O⟩) 3 3 (E ⟨g,0,O⟩) 1 1 heW rW V hw (bs V N) ⟨rfl,.inr ⟨g,0,rfl,(AD.1 hg).1,λi x hx=>by
   match i,hx with
   |0,hx=>cases hx;simp[cell?,hg]⟩⟩ (by decide+kernel) (by decide) aqI aqJ (by decide+kernel) (by decide) rfl Ov (by decide) (by decide) (by decide) (by decide)
 clear bs;obtain⟨D,hD⟩:∃D,D=J.drew:=⟨_,rfl⟩;have ag:Bt J D:=by rw[hD];exact AN J 1
 refine Vb ?_;refine Va (S:=Bt J) kr (by rw[<-hD];exact ag) (λhHeld=>?_);rw[<-hD];clear hD hHeld;refine tkB 1 aN.out ?_;refine tkB 2 aN.out ?_;refine tkB 5 aN.out ?_;refine tkB 6 aN.out ?_;refine apJ 7 (λv V=>∃g,v=T (E ⟨g,0,O⟩) 1 1/\V.heap[g]?=E (i7 #[i6 M] 4 (0,0))) ?_ ?_ (λF=>?_)
 ·rintro _ V V' ⟨g,rfl,h⟩ U;exact⟨g,rfl,(U.block _ (AD.1 h).1).trans h⟩
 ·intro f V N _ KB Z;go_simp;exact Z _ _ (N.alloc N.size _) ⟨_,rfl,AT _ _⟩ (AL _ _)
 refine Oo F 0 (λv V=>∃a,v=i8 (AM M (E a) 3 3)/\Wds V (E a) 3 heW) ?_ ?_
 ·rintro f (rfl|⟨vk,rfl⟩) V N-KB Z<;>(try simp only[pq]at Z⊢)<;>go_simp<;>(go_at_call 60;refine(PW V).mono ?_;rintro e V2 ⟨a,rfl,hw,Y⟩;exact Z _ _ (N.trans (Y.mono N.size)) ⟨a,rfl,hw⟩ Y)
 rintro _ u1 bD-⟨a,rfl,bT⟩
 try simp only[pq]
 refine Oo F 3 (λv V=>∃(A:PAd)(o:Nat->Nat),v=L (E ⟨A.P,0,O⟩)/\AI A (cW M []) o (sP 0) V/\J.heap.size<=V.heap.size/\∀k,k<J.heap.size->o k=1000000) ?_ ?_
 ·rintro f (rfl|⟨vk,rfl⟩) V N hu KB Z<;>(try simp only[pq]at Z⊢)<;>go_simp<;>(go_at_call 24;refine(K1.out V N a (bT.below hu)).mono ?_;rintro e V2 ⟨A,o,rfl,hp,Y,hz⟩;exact Z _ _ (N.trans (Y.mono N.size)) ⟨A,o,rfl,hp,AS N.size Y.size,λk hk=>hz k (Af hk N.size)⟩ Y)
 rintro _ u2 aQ-⟨A,o,rfl,hp,bW,hz⟩
 try simp only[pq]
 refine Oo F 4 (λv V=>∃a,v=i8 (AM M (E a) 3 3)/\Wds V (E a) 3 heW) ?_ ?_
 ·rintro f (rfl|⟨vk,rfl⟩) V N-KB Z<;>(try simp only[pq]at Z⊢)<;>go_simp<;>(go_at_call 60;refine(PW V).mono ?_;rintro e V2 ⟨a,rfl,hw,Y⟩;exact Z _ _ (N.trans (Y.mono N.size)) ⟨a,rfl,hw⟩ Y)
 rintro _ u3 aD aA ⟨a2,rfl,bS⟩
 try simp only[pq]
 refine apI F ?_;rintro _ u4 ad ay-⟨g,rfl,hg⟩
 try simp only[pq]
 have aZ:=aA.trans (ay.mono aA.size);have K3:=AA (K2.out u4 ad a2 g (bS.below ay) hg);refine rdy 8 (λKB Z=>?_);go_simp
 go_at_call 24;refine K3.out.mono ?_;rintro e u5 ⟨B,p,rfl,hq,ax,bQ⟩
 have HT:Hid (TwW A B (λk=>k<J.heap.size) 0 0 u5):=⟨Two.mk hp bW hz aZ ax hq bQ⟩;have aX:Hid (Bt J u5):=ad.trans (ax.mono ad.size);refine Z.out _ _ aX.out (λh8=>?_);clear Z KB F K1 K2 K3 hp bW hz aZ ax hq bQ aA ay bT bS hg bD aQ aD ad h8 ag
 try simp only[pq]
 refine tkA 9 ?_;refine tkA 10 ?_;refine Vd kr ?_ _;refine At ?_;go_upto_region 5 with(first|(go_at_call 60;refine(PW _).mono ?_;rintro e u6 ⟨a6,rfl,bR,aw⟩;have cf:=AA bR;have bM:=AA aw;clear bR aw)|(go_at_call 52;refine(adn M (E a6) 3 3 heW _ cf.out (by decide) aqI aqJ (by decide+kernel)).mono ?_;rintro e u7 ⟨MB,rfl,_,av⟩;have bL:=AA av;clear av))
 go_upto_region 6 with(go_at_call 54;refine(aqp MB _).mono ?_;rintro e u8 ⟨rfl,ac⟩;have bK:=AA ac;clear ac)
 go_upto_region 7 with(go_at_call 54;refine(aqT _).mono ?_;rintro e u9 ⟨rfl,ai⟩;have bJ:=AA ai;clear ai)
 have aL:=AA ((((HT.out.same bM.out).same bL.out).same bK.out).same bJ.out);have ck:Hid (Bt J u9):=by have h6:=aX.out.trans (bM.out.mono aX.out.size);have h7:=h6.trans (bL.out.mono h6.size);have h8:=h7.trans (bK.out.mono h7.size);exact h8.trans (bJ.out.mono h8.size)
 clear HT aX bM bL bK bJ cf;go_upto_region 10 with fail
 go_loopw[11] (λbq wr=>∃i:Nat,i<=200/\bq=R K i/\Hid (TwW A B (λk=>k<J.heap.size) i i wr)/\Hid (Bt J wr)) (λbq _=>200-(intOf bq).toNat)
 case atStart=>exact⟨0,AR _,rfl,aL,ck⟩
 case round=>
  clear aL ck;obtain⟨i,hi,rfl,HT,HL⟩:=hrel
  by_cases cD:i<200
  ·have hd:decide ((i:Int)<200)=G:=by simp;omega
   go_upto_region 13 with(go_at_call 17;refine(HT.out.pickA om).mono ?_;rintro e x1 ⟨⟨y1,y2,rfl⟩,ab,aC⟩;have aV:=AA ab;have aj:=AA (HL.out.trans (aC.belF HL.out.size));clear ab aC)
   go_upto_region 14 with(go_at_call 17;refine(aV.out.pickB om).mono ?_;rintro e x2 ⟨⟨y3,y4,rfl⟩,s,Y⟩;have aU:=AA s;have C:=AA (aj.out.trans (Y.belF aj.out.size));clear s Y)
   go_wp2_with fail
   refine(aU.out.viewB om).mono ?_;rintro e x3 ⟨⟨v0,v3,v4,a6,n6,c6,b0,b1,b2,n1,n2,n5,n7,cA,rfl,cB⟩,y,az⟩;have aT:=AA y;have aK:=AA (C.out.trans (az.mono C.out.size));have g1:decide ((2:Int)<(n6:Int))=M:=by simp;omega
   have g2:decide (2<n6)=M:=by simp;omega
   clear y az;go_wp2
   rename_i cq
   go_simp;refine cq _ _ ?_;go_wp2
   go_roundw
   case rel=>exact⟨i+1,by omega,by go_num,aT,aK⟩
   case measure=>simp[intOf];omega
  ·obtain rfl:i=200:=by omega
   have hd:decide ((200:Int)<200)=M:=by decide
   go_upto_region 17 with (first
    |(go_at_call 37;refine HT.out.statB.mono ?_;rintro e x1 ⟨rfl,ab,aC⟩;have aV:=AA ab;have aj:=AA (HL.out.trans (aC.mono HL.out.size));clear ab aC)
    |(go_at_call 16;refine aV.out.overB.mono ?_;rintro e x2 ⟨rfl,s,Y⟩;have aU:=AA s;have C:=AA (aj.out.trans (Y.mono aj.out.size));clear s Y)
    |(go_at_call 41;refine aU.out.tookB.mono ?_;rintro e x3 ⟨⟨a3,c3,rfl⟩,y,az⟩;have aT:=AA y;have aK:=AA (C.out.trans (az.mono C.out.size));clear y az)
    |(go_at_call 29;refine aT.out.enB.mono ?_;rintro e x4 ⟨⟨a4,c4,rfl⟩,au,ca⟩;have cj:=AA au;have bG:=AA (aK.out.trans (ca.mono aK.out.size));clear au ca))
   go_wp2_with fail
   refine cj.out.canB.mono ?_;rintro e x5 ⟨rfl,ar,c9⟩;have ci:=AA ar;have bF:=AA (bG.out.trans (c9.belF bG.out.size));clear ar c9
   go_wp2_with fail
   refine ci.out.canB.mono ?_;rintro e x6 ⟨rfl,aq,aw⟩;have ch:=AA aq;have ce:=AA (bF.out.trans (aw.belF bF.out.size));clear aq aw HT aV aU aT cj ci aj C aK bG bF HL;go_upto_region 19 with fail
   go_loopw[15] (λbp wr=>∃j:Nat,j<=60/\bp=R K j/\Hid (TwE A B (λk=>k<J.heap.size) j wr)/\Hid (Bt J wr)) (λbp _=>60-(intOf bp).toNat)
   case atStart=>exact⟨0,AR _,rfl,ch,ce⟩
   case round=>
    clear ch ce;obtain⟨j,hj,rfl,HT,HL⟩:=hrel
    by_cases cC:j<60
    ·have hd:decide ((j:Int)<60)=G:=by simp;omega
     go_wp2_with fail
     refine(HT.out.pickB om).mono ?_;rintro e x7 ⟨⟨y1,y2,rfl⟩,ap,av⟩;have cv:=AA ap;have ct:=AA (HL.out.trans (av.belF HL.out.size));clear ap av;go_wp2
     go_roundw
     case rel=>exact⟨j+1,by omega,by go_num,cv,ct⟩
     case measure=>simp[intOf];omega
    ·obtain rfl:j=60:=by omega
     have hd:decide ((60:Int)<60)=M:=by decide
     clear hd;go_upto_region 23 with(go_at_call 34;refine HT.out.viewB.mono ?_;rintro e x8 ⟨⟨v0,v3,v4,v6,rfl,hv⟩,ao,ac⟩;obtain⟨a0,c0,rfl,_,_⟩:=Co hv.r0;obtain⟨a3,c3,rfl,_,_⟩:=Co hv.r3;obtain⟨a4,c4,rfl,_,_⟩:=Co hv.r4;obtain⟨a6,c6,rfl,_,_⟩:=Co hv.r6;have HV:=AA hv;have cu:=AA ao;have cr:=AA (HL.out.trans (ac.mono HL.out.size));clear hv ao)
     obtain⟨H,aO⟩:∃X,X=x8.alloc (i7 (vwC (T a0 (vwE G).ph.length c0) (T a3 (vwE G).q.length c3) (T a4 (vwE G).rg.length c4) (T a6 (vwE G).live.length c6) (vwE G)) 63):=⟨_,rfl⟩;obtain⟨g8,aP⟩:∃g,x8.heap.size=g:=⟨_,rfl⟩;have ai:Bt x8 H:=by rw[aO];exact AL _ _
     have bw:Bt wr H:=ac.trans (ai.mono ac.size);have bt:H.heap[g8]?=E (i7 (vwC (T a0 (vwE G).ph.length c0) (T a3 (vwE G).q.length c3) (T a4 (vwE G).rg.length c4) (T a6 (vwE G).live.length c6) (vwE G)) 63 (0,0)):=by rw[aO,<-aP];exact AT _ _
     have bu:=(AD.1 bt).1;have bZ:wr.heap.size<=g8:=by rw[<-aP];exact ac.size
     rw[<-aO,aP];obtain⟨F2,aF⟩:∃F:Nat->Prop,F=λk=>k<J.heap.size∨wr.heap.size<=k/\k<H.heap.size:=⟨_,rfl⟩;have aL:Hid (TwE A B F2 60 H):=HT.out.more bw λk hk=>by rw[aF]at hk;exact hk
     have aM:Hid (∀V,Chg (λk=>¬F2 k) H V->V.cell? ⟨g8,0,O⟩=E (T a0 5 c0)/\V.cell? ⟨g8,1,O⟩=E (R K 2)/\V.cell? ⟨g8,2,O⟩=E (R K 2)/\V.cell? ⟨g8,3,O⟩=E (T a3 0 c3)/\V.cell? ⟨g8,4,O⟩=E (T a4 0 c4)/\V.cell? ⟨g8,5,O⟩=E (R K 0)/\V.cell? ⟨g8,6,O⟩=E (T a6 0 c6)/\V.cell? ⟨g8,7,O⟩=E (R K 2)/\V.cell? ⟨g8,8,O⟩=E (i6 G)/\V.cell? ⟨g8,9,O⟩=E (i6 G)/\V.cell? ⟨g8,10,O⟩=E (i6 G)/\V.cell? ⟨g8,11,O⟩=E (R K 6)):=λV N=>by have h:V.heap[g8]?=_:=(N.block _ bu λe=>e (by rw[aF];exact .inr ⟨bZ,bu⟩)).trans bt;exact⟨by simp[cell?,h,vwE],by simp[cell?,h,vwE],by simp[cell?,h,vwE],by simp[cell?,h,vwE],by simp[cell?,h,vwE],by simp[cell?,h,vwE],by simp[cell?,h,vwE],by simp[cell?,h,vwE],by simp[cell?,h,vwE],by simp[cell?,h,vwE],by simp[cell?,h,vwE],by simp[cell?,h,vwE]⟩
     have bH:=HL.out.trans (bw.mono HL.out.size);have cm:Hid (∀V,Chg (λk=>¬F2 k) H V->Bt J V):=λV N=>bH.trans (N.below bH.size λk hk e=>e (by rw[aF];exact .inl hk));have aS:Hid (∀V,Chg (λk=>¬F2 k) H V->VwS V wr.heap.size (T a0 (vwE G).ph.length c0) (T a3 (vwE G).q.length c3) (T a4 (vwE G).rg.length c4) (T a6 (vwE G).live.length c6) (vwE G)):=λV N=>(HV.out.below ai).keep N λk h1 h2 e=>e (by rw[aF];exact .inr ⟨h1,h2⟩);have bE:Hid (Chg (λk=>¬F2 k) H H):=.refl _ _;have cE:Hid (∀V W',Chg (λk=>¬F2 k) H V->Chg (λk=>¬F2 k) V W'->Chg (λk=>¬F2 k) H W'):=λV W' h1 h2=>h1.then h2;clear aO aP ac ai bw bt bu bZ aF bH HL HT cu HV cr;obtain⟨bo,bm,bl,bk,bj,bi,bh,bg,bf,be,am,al⟩:=aM.out H bE.out
     go_wp2_with fail
     refine(aL.out.statB).mono ?_;rintro e bP ⟨rfl,aa,b4⟩;have bb:=AA aa;have aJ:Hid (Chg (λk=>¬F2 k) H bP):=bE.out.same b4;clear b4 aa;clear bo bm bl bk bj bi bh bg bf be am al;obtain⟨bo,bm,bl,bk,bj,bi,bh,bg,bf,be,am,al⟩:=aM.out bP aJ.out
     go_wp2_with fail
     refine(bb.out.enB).mono ?_;rintro e cn ⟨⟨a7,c7,rfl⟩,a1,b3⟩;have b9:=AA a1;have b7:Hid (Chg (λk=>¬F2 k) H cn):=aJ.out.same b3;clear b3 a1;clear bo bm bl bk bj bi bh bg bf be am al aL bb bE aJ
     go_wp2_with fail
     refine(aqt 0 _).mono ?_;rintro e ak ⟨rfl,aB⟩;have bd:=AA aB;have b6:Hid (Chg (λk=>¬F2 k) H ak):=b7.out.same aB;clear aB;have b8:=AA (b9.out.same bd.out);have M1:Hid (∀V,Chg (λk=>¬F2 k) H V->Calls ZP 36 #[i8 #[T a0 5 c0,R K 2,R K 2,T a3 0 c3,T a4 0 c4,R K 0,T a6 0 c6,R K 2,i6 G,i6 G,i6 G,R K 6],i8 #[T a0 5 c0,R K 2,R K 2,T a3 0 c3,T a4 0 c4,R K 0,T a6 0 c6,R K 2,i6 G,i6 G,i6 G,R K 6]] V λe w'=>e=ra (i6 G)/\Bt V w'):=λV N=>aq3 _ _ _ _ _ _ _ _ (vwE G) G V (aS.out V N) (aS.out V N);have M2:Hid (∀V,Chg (λk=>¬F2 k) H V->∀(w0 w3 w4 w6:Vh)(m:Nat),VwS V m w0 w3 w4 w6 (vwE M)->Calls ZP 36 #[i8 #[T a0 5 c0,R K 2,R K 2,T a3 0 c3,T a4 0 c4,R K 0,T a6 0 c6,R K 2,i6 G,i6 G,i6 G,R K 6],i8 (vwC w0 w3 w4 w6 (vwE M))] V λe w'=>e=ra (i6 M)/\Bt V w'):=λV N w0 w3 w4 w6 m hw=>aq3 _ _ _ _ _ _ _ _ (vwE G) M V (aS.out V N) hw;have R1:Hid (∀V,Calls ZP 26 #[i8 #[R K 2,R K 3,R K 2,R K 1,R K 1,R K 2,R K 0]] V λe w'=>e=ra (i6 G)/\Bt V w'):=λV=>by
      have:=NG 2 3 2 1 1 2 0 V
      rwa[show Ce 2 3 2 1 1 2 0=G by decide]at this
     have R2:Hid (∀V,Calls ZP 26 #[i8 #[R K 0,R K 0,R K 0,R K 0,R K 0,R K 0,R K 0]] V λe w'=>e=ra (i6 M)/\Bt V w'):=λV=>by
      have:=NG 0 0 0 0 0 0 0 V
      rwa[show Ce 0 0 0 0 0 0 0=M by decide]at this
     clear b9 b7 aS;go_upto_region 26 with fail
     simp only[List.append_eq,CT,Av];obtain⟨D,hD⟩:∃D,D=ak.drew:=⟨_,rfl⟩;have ag:Bt ak D:=by rw[hD];exact AN ak 1
     have cg:=AA (b8.out.same ag);have cd:=b6.out.same ag;clear b8 b6 ag bd;refine Vb ?_;refine Va (S:=λV=>Chg (λk=>¬F2 k) H V) kr (by rw[<-hD];exact cd) (λhHeld=>?_);rw[<-hD];clear hD hHeld;refine tkA 0 ?_;refine tkA 2 ?_;refine tkA 3 ?_;refine tkA 4 ?_;refine arh 5 (λv V=>∃g,v=T (E ⟨g,0,O⟩) 3 3/\Hts V (E ⟨g,0,O⟩) 3 [(4,1),(4,0),(5,2)]) (λf=>f.tmps[161]?.getD undef=i8 #[R K 4,R K 1]/\f.tmps[162]?.getD undef=i8 #[R K 4,R K 0]/\f.tmps[163]?.getD undef=i8 #[R K 5,R K 2]) ?_ ?_ (λF=>?_)
     ·rintro _ V V' ⟨g,rfl,h⟩ U;exact⟨g,rfl,h.below U⟩
     ·intro f V ⟨g1,g2,g3⟩ N _ KB Z;go_simp;exact Z _ _ (N.same (AL _ _)) ⟨_,rfl,aqH [(4,1),(4,0),(5,2)] (by unfold I64;decide) rfl⟩ (AL _ _)
     refine Oo F 1 (λv V=>∃a cc,v=T a 3 cc/\Hts V a 3 [(4,1),(4,0),(5,2)]/\TwE A B F2 60 V) ?_ ?_
     ·rintro f (rfl|⟨vk,rfl⟩) V N hu KB Z<;>(try simp only[pq]at Z⊢)<;>go_simp<;>(go_at_call 41;refine(cg.out.same hu).tookA.mono ?_;rintro e V2 ⟨⟨a,cc,rfl,hh⟩,ht,Y⟩;exact Z _ _ (N.same Y) ⟨a,cc,rfl,hh,ht⟩ Y)
     rintro _ u1 bD-⟨a8,c8,rfl,bY,ab⟩
     try simp only[pq]
     refine apI F ?_;rintro _ u2 aQ Y-⟨g9,rfl,bX⟩
     try simp only[pq]
     have C:=AA (aqd a8 (E ⟨g9,0,O⟩) 3 c8 3 3 [(4,1),(4,0),(5,2)] [(4,1),(4,0),(5,2)] u2 (bY.below Y) bX (by decide));have s:=ab.same Y;clear F bY bX Y ab bD cg cd;refine rdy 6 (λKB Z=>?_);go_simp
     go_at_call 40;refine C.out.mono ?_;rintro e u3 ⟨rfl,U⟩;simp only[decide_true]
     have aD:=aQ.same U;have y:=s.same U;refine Z.out _ _ aD (λI=>?_);clear Z KB I U C aQ s
     try simp only[pq]
     refine tkA 7 ?_;refine tkA 8 ?_;refine tkA 10 ?_;refine rdy 9 (λKB Z=>?_);go_simp
     go_at_call 37;refine(y.statA).mono ?_;rintro e u4 ⟨rfl,au,U⟩
     have ad:=aD.same U;refine Z.out _ _ ad (λI=>?_);clear Z KB I U aD y
     try simp only[pq]
     refine tkA 11 ?_;refine tkA 12 ?_;refine tkA 13 ?_;refine tkA 14 ?_;refine rdy 15 (λKB Z=>?_);go_simp
     go_at_call 16;refine(au.overA).mono ?_;rintro e u5 ⟨rfl,ar,U⟩
     have bC:=ad.same U;refine Z.out _ _ bC (λI=>?_);clear Z KB I U ad au
     try simp only[pq]
     refine tkA 16 ?_;refine tkA 17 ?_;refine tkA 18 ?_;refine rdy 19 (λKB Z=>?_);go_simp
     go_at_call 21;refine(ar.canA).mono ?_;rintro e u6 ⟨rfl,aq,U⟩
     have bB:=bC.then U;refine Z.out _ _ bB (λI=>?_);clear Z KB I U bC ar
     try simp only[pq]
     refine tkA 20 ?_;refine tkA 21 ?_;refine tkA 22 ?_;refine tkA 23 ?_;refine rdy 24 (λKB Z=>?_);go_simp
     go_at_call 44;refine(aq.stepA).mono ?_;rintro e u7 ⟨rfl,ap,U⟩
     have bA:=bB.then U;refine Z.out _ _ bA (λI=>?_);clear Z KB I U bB aq
     try simp only[pq]
     refine tkA 25 ?_;refine tkA 26 ?_;refine tkA 27 ?_;refine tkA 28 ?_;refine tkA 29 ?_;refine tkA 30 ?_;refine tkA 31 ?_;refine tkA 32 ?_;refine tkA 33 ?_;refine tkA 34 ?_;refine tkA 35 ?_;refine tkA 36 ?_;refine tkA 37 ?_;refine tkA 38 ?_;refine tkA 39 ?_;refine tkA 40 ?_;refine tkA 41 ?_;refine tkA 42 ?_;refine tkA 43 ?_;refine tkA 44 ?_;refine tkA 45 ?_;refine rdy 46 (λKB Z=>?_);go_simp
     go_at_call 16;refine(aqu u7).mono ?_;rintro e u8 ⟨rfl,U⟩
     have bz:=bA.same U;have ao:=ap.same U;refine Z.out _ _ bz (λI=>?_);clear Z KB I U bA ap
     try simp only[pq]
     refine tkA 47 ?_;refine tkA 48 ?_;refine tkA 49 ?_;refine tkW 50 (v:=?_) ?_ ?_;rotate_left
     ·intro V N;obtain⟨q0,q1,q2,q3,q4,q5,q6⟩:=aN.out V (cm.out V N)
      first|(go_simp;done)|(go_simp;with_reducible rfl)
     try simp only[pq]
     refine rdy 51 (λKB Z=>?_);go_simp
     go_at_call 26;refine(R1.out u8).mono ?_;rintro e u9 ⟨rfl,U⟩
     have bx:=bz.same U;have bU:=ao.same U;refine Z.out _ _ bx (λI=>?_);clear Z KB I U bz ao
     try simp only[pq]
     refine tkA 52 ?_;refine tkA 53 ?_;refine tkA 54 ?_;refine rdy 55 (λKB Z=>?_);go_simp
     go_at_call 26;refine(R2.out u9).mono ?_;rintro e cp ⟨rfl,U⟩
     have af:=bx.same U;have aa:=bU.same U;refine Z.out _ _ af (λI=>?_);clear Z KB I U bx bU
     try simp only[pq]
     refine tkA 56 ?_;refine tkA 57 ?_;refine tkA 58 ?_;refine tkB 59 aM.out ?_;refine tkB 60 aM.out ?_;refine rdy 61 (λKB Z=>?_);go_simp
     go_at_call 36;refine(M1.out cp af).mono ?_;rintro e cz ⟨rfl,U⟩
     have aE:=af.same U;have a1:=aa.same U;refine Z.out _ _ aE (λI=>?_);clear Z KB I U af aa
     try simp only[pq]
     refine tkA 62 ?_;refine tkA 63 ?_;refine tkB 64 aM.out ?_;refine tkA 65 ?_;refine rdy 66 (λKB Z=>?_);go_simp
     go_at_call 34;refine(a1.viewA).mono ?_;rintro e co ⟨⟨w0,w3,w4,w6,rfl,hw⟩,aY,U⟩
     have ae:=aE.same U;have HW:=AA hw;clear hw;refine Z.out _ _ ae (λI=>?_);clear Z KB I U aE a1
     try simp only[pq]
     refine rdy 67 (λKB Z=>?_);go_simp
     go_at_call 36;refine(M2.out co ae w0 w3 w4 w6 _ HW.out).mono ?_;rintro e cy ⟨rfl,U⟩
     have b5:=ae.same U;have cx:=aY.same U;refine Z.out _ _ b5 (λI=>?_);clear Z KB I U ae aY
     try simp only[pq]
     refine tkA 68 ?_;refine tkA 69 ?_;refine tkA 70 ?_;refine Vd kr ?_ _;refine At ?_;go_wp2;go_ret;exact⟨rfl,cw.out.trans ((cl.out.trans ((cm.out _ b5).mono cl.out.size)))⟩
def Ox(Z:La):Nat:=(Z.map λx=>min (lc x) 200).sum
theorem aq8{Z:La}{i:Nat}{x:List Int}(h:Z[i]?=E x):Ox (Z.take (i+1))=Ox (Z.take i)+min (lc x) 200:=by unfold Ox;rw[LH,h];simp
theorem PX(Z:La):∀i,Ox (Z.take i)<=200*i
 |0=>by simp[Ox]
 |i+1=>by
  have:=PX Z i
  cases h:Z[i]? with
  |none=>rw[LH,h];simp;omega
  |some x=>rw[aq8 h];omega
def PE(fold:Bool)(wss Z:La)(m k:Nat):Bool:=!Ev wss&&Fw fold wss&&decide (lc Z<=40)&&decide (Ox (Z.take 41)<=120)&&decide (m<=20)&&decide (k<=300)
theorem apU{fold:Bool}{wss Z:La}{m k:Nat}(h:PE fold wss Z m k=G):Ev wss=M/\Fw fold wss=G/\lc Z<=40/\lc Z.flatten<=120/\m<=20/\k<=300/\∀x∈Z,lc x<=120:=by
 unfold PE at h;simp only[Bq,Bool.not_eq_true',decide_eq_true_eq]at h;obtain⟨⟨⟨⟨⟨h1,h2⟩,h3⟩,h4⟩,h5⟩,h6⟩:=h;rw[Ap om]at h4;have X:∀l:La,Ox l<=120->lc l.flatten<=Ox l/\∀x∈l,lc x<=120:=by
  intro l
  induction l with
  |nil=>intro _;exact⟨AC _,λx Y=>by cases Y⟩
  |cons y l ih=>
   intro U;have e:Ox (y::l)=min (lc y) 200+Ox l:=by unfold Ox;rw[BO,List.sum_cons]
   rw[e]at U;obtain⟨N,V⟩:=ih om;refine⟨?_,λx Y=>?_⟩
   ·rw[e,List.flatten_cons,List.length_append];omega
   ·rcases CR.1 Y with rfl|Y
    ·omega
    ·exact V x Y
 obtain⟨N,V⟩:=X Z h4;exact⟨h1,h2,h3,by omega,h5,h6,V⟩
theorem apZ(fold:Bool)(a:Option Addr)(U J:Nat)(b:Option Addr)(n cb:Nat)(d:Option Addr)(m cd:Nat)(f:Option Addr)(k cf:Nat)(wss X:La)(w:Wa)(hA:Wds w a U wss)(hB:Wds w b n X) :Calls ZP 22 #[i8 (AM fold a U J),T b n cb,T d m cd,T f k cf] w λe w'=>e=ra (i6 (PE fold wss X m k))/\Bt w w':=by
 obtain⟨W,hW⟩:∃W,W=w.alloc (i7 (AM fold a U J) 24):=⟨_,rfl⟩;have N:Bt w W:=by rw[hW];exact AL _ _
 have hO:Bx w.heap.size [i7 (AM fold a U J) 24] W:=by rw[hW];exact(Bx.nil _ w).snoc _ rfl
 have HC:Hid (∀V,Bt W V->V.cell? ⟨w.heap.size,0,O⟩=E (i6 fold)/\V.cell? ⟨w.heap.size,1,O⟩=E (T a U J)):=λV I=>by have h:=hO.below I;exact⟨h.cell (i:=0) rfl rfl,h.cell (i:=0) rfl rfl⟩
 have hn:lc X=n:=hB.len;have C:=hA.below N;have a8:=hB.below N;have k1:Hid (∀V,Bt W V->Calls ZP 45 #[i8 (AM fold a U J)] V λe w'=>e=ra (i6 (Ev wss))/\Bt V w'):=λV I=>ai3 fold a U J wss V (C.below I);have k2:Hid (Ev wss=M->∀V,Bt W V->Calls ZP 46 #[i8 (AM fold a U J)] V λe w'=>e=ra (i6 (Fw fold wss))/\Bt V w'):=λhg V I=>by obtain⟨b1,b2,_⟩:=ako hg fold;have hl:=hA.len;exact acH fold a U J wss V (C.below I) om (λx hx=>AS (b2 x hx) om)
 have k3:Hid (∀V,Bt W V->∀i,i<n->∃q A a' l c' xs,b=E ⟨q,A,O⟩/\V.cell? ⟨q,A+i,O⟩=E (T a' l c')/\X[i]?=E xs/\lc xs=l):=λV I i hi=>by obtain⟨q,A,a',l,c',xs,e,_,h1,h2,h3,_⟩:=(a8.below I).at_ hi;exact⟨q,A,a',l,c',xs,e,h1,h2,h3.1.1⟩
 unfold PE;rw[hn];obtain⟨Gd,hG⟩:∃Gd,Ev wss=Gd:=⟨_,rfl⟩;obtain⟨Ra,hR⟩:∃Gd,Fw fold wss=Gd:=⟨_,rfl⟩;rw[hG]at k1 k2⊢;rw[hR]at k2⊢;obtain⟨D3,H⟩:∃D,decide (m<=20)=D:=⟨_,rfl⟩;obtain⟨D4,a2⟩:∃D,decide (k<=300)=D:=⟨_,rfl⟩;have d3:decide ((m:Int)<=20)=D3:=by rw[<-H,decide_eq_decide];omega
 have d4:decide ((k:Int)<=300)=D4:=by rw[<-a2,decide_eq_decide];omega
 have hm:decide (m<=20)=D3:=H;rw[H,a2];have HB:=AA N;obtain⟨Ta,hT⟩:∃Ta,Ox (X.take 41)=Ta:=⟨_,rfl⟩;have ap:Ta<=8200:=by rw[<-hT];have:=PX X 41;omega
 have ae:Hid (∀i,n<=i∨41<=i->i<=n->i<=41->Ox (X.take i)=Ta):=λi h1 h2 h3=>by
  rw[<-hT]
  rcases h1 with h1|h1
  ·rw[Ap om,Ap om]
  ·rw[show i=41 by omega]
 obtain⟨D1,a7⟩:∃D,decide (n<=40)=D:=⟨_,rfl⟩;obtain⟨D2,a6⟩:∃D,decide (Ta<=120)=D:=⟨_,rfl⟩;have d1:decide ((n:Int)<=40)=D1:=by rw[<-a7,decide_eq_decide];omega
 have d2:decide ((Ta:Int)<=120)=D2:=by rw[<-a6,decide_eq_decide];omega
 rw[hT,a7,a6];clear hT;clear hA hB hO N hn C a8 hG hR;go_enter func22,ntmps22;go_upto_region 1 with fail
 rw[<-hW];clear hW;go_upto_region 3 with fail
 go_loopw[9,10] (λs9 aa wr=>∃i:Nat,i<=n/\i<=41/\s9=R K (Ox (X.take i):Nat)/\aa=R K i/\Hid (Bt W wr)) (λ_ s _=>41-(intOf s).toNat)
 case atStart=>exact⟨0,AR _,by omega,rfl,rfl,AH _ _⟩
 case round=>
  obtain⟨i,ab,v,rfl,rfl,B⟩:=hrel
  by_cases hc:i<n/\i<41
  ·obtain⟨Z,hZ⟩:∃Z,Ox (X.take i)=Z:=⟨_,rfl⟩;have am:Z<=8200:=by rw[<-hZ];have:=PX X i;omega
   obtain⟨ad,al⟩:=hc;obtain⟨q,A,a',l,c',xs,rfl,ac,hx,y⟩:=k3.out wr B.out i ad;have HZ:Hid (Ox (X.take (i+1))=Z+min l 200):=by rw[Hid,aq8 hx,hZ,y]
   have hd:decide ((i:Int)<(n:Int))=G:=by simp;omega
   have ak:decide ((i:Int)<=40)=G:=by simp;omega
   have aj:decide (i<=40)=G:=by simp;omega
   have ai:decide (i<n)=G:=by simp;omega
   have i1:(0:Int)<=(i:Int):=by omega
   have i2:(i:Int)<(n:Int):=by omega
   obtain⟨Y,hY⟩:∃Y,min l 200=Y:=⟨_,rfl⟩;have ag:min (l:Int) 200=(Y:Int):=by omega
   have ao:Y<=200:=by omega
   have af:IntKind.i64.wrap ((Z:Int)+(Y:Int))=(Z:Int)+(Y:Int):=by rw[BK];omega
   rw[hY]at HZ;rw[hZ];clear y hx hZ hY;go_wp2
   go_roundw
   case rel=>exact⟨i+1,by omega,by omega,by rw[HZ.out];simp,by simp,B⟩
   case measure=>simp[intOf];omega
  ·have HZ:=ae.out i om ab v;rw[HZ];clear HZ k3;obtain⟨q0,q1⟩:=HC.out _ B.out
   go_wp2_with fail
   all_goals
    refine(k1.out _ B.out).mono ?_;rintro e w1 ⟨rfl,a1⟩;have X1:=AA (B.out.trans (a1.mono B.out.size));clear a1 q0 q1;obtain⟨q0,q1⟩:=HC.out _ X1.out
    cases Gd with
    |true=>
     go_wp2;go_ret;exact⟨rfl,HB.out.trans (X1.out.mono HB.out.size)⟩
    |false=>
     have K2:=AA (k2.out rfl w1 X1.out)
     go_wp2_with fail
     refine K2.out.mono ?_;rintro e w2 ⟨rfl,j⟩;have X2:=AA (X1.out.trans (j.mono X1.out.size));clear j K2
     cases Ra<;>cases D1<;>cases D2<;>cases D3<;>cases D4<;>(go_wp2;go_ret;exact⟨rfl,HB.out.trans (X2.out.mono HB.out.size)⟩)
section
variable {c:CfM}{s t:PlM}{i:Nat}{x:WkM}
theorem EE.held(h:EE c s):lc s.fr+(lc s.q+(if s.rd.ph=2∨s.rd.ph=3 then 1 else 0)+(s.wk.map λx=>(if x.ph=2∨x.ph=3 then 1 else 0)).sum)=c.R:=by
 have h1:=h.b.perm.length_eq;rw[List.length_append,List.length_range]at h1;have h2:(rdB s.rd).length=if s.rd.ph=2∨s.rd.ph=3 then 1 else 0:=by
  unfold rdB
  by_cases e:s.rd.holds=G
  ·rw[Lc e,Lc (h.a.r.ho.1 e)];rfl
  ·rw[Lb e,Lb λe2=>e (h.a.r.ho.2 e2)];rfl
 have h3:∀l:List WkM,(l.flatMap hW).length=(l.map λx=>(if x.ph=2∨x.ph=3 then 1 else 0)).sum:=by
  intro l
  induction l with
  |nil=>rfl
  |cons x l ih=>
   rw[List.flatMap_cons,List.length_append,BO,List.sum_cons,ih];congr 1;unfold hW
   split<;>rfl
 unfold Cu If at h1;rw[List.length_append,BP,List.length_append,h2,h3]at h1;omega
theorem arS(l:List WkM):(l.map muW).sum<=lc l+(l.map λx=>(if x.ph=2∨x.ph=3 then 1 else 0)).sum+(l.map λx=>(if x.ph=1∨x.ph=2∨x.ph=3∨x.ph=4 then 0 else 1)).sum:=by
 induction l with
 |nil=>exact AC _
 |cons x l ih=>
  simp only[BO,List.sum_cons,Ao];have:muW x<=1+(if x.ph=2∨x.ph=3 then 1 else 0)+(if x.ph=1∨x.ph=2∨x.ph=3∨x.ph=4 then 0 else 1):=by
   unfold muW
   split
   ·omega
   ·split
    ·omega
    ·split
     ·omega
     ·split<;>omega
  omega
theorem EE.mu(h:EE c s):muM s<=c.W+c.R+4:=by
 have h1:=h.held;have h2:=arS s.wk;have h3:(s.wk.map λx=>(if x.ph=1∨x.ph=2∨x.ph=3∨x.ph=4 then 0 else 1)).sum=0:=by
  have:∀l:List WkM,(∀x∈l,1<=x.ph/\x.ph<=4)->(l.map λx=>(if x.ph=1∨x.ph=2∨x.ph=3∨x.ph=4 then 0 else 1)).sum=0:=by
   intro l Z
   induction l with
   |nil=>rfl
   |cons x l ih=>
    rw[BO,List.sum_cons,ih λy Y=>Z y (MT _ Y),Lc (by have:=Z x List.mem_cons_self;omega)]
  refine this _ λx X=>?_;obtain⟨i,V⟩:=List.mem_iff_getElem?.1 X;exact h.a.r.wp i x V
 have h4:=h.a.f.wl;unfold muM;have J:(if s.rd.ph=5 then 0 else 1)<=1:=by split<;>omega
 have e2:(if s.mph=3 then 0 else 1)<=1:=by split<;>omega
 have N:(if s.eph=2 then 0 else 1)<=1:=by split<;>omega
 have U:(if s.out=[] then 0 else 1)<=1:=by split<;>omega
 omega
end
def dtB(KB wm:Nat)(text:List Int)(j:Nat):List Int:=(text.take (j*KB+KB)).drop (j*KB-min wm (j*KB))
structure GQ(c:CfM)(text:List Int)(b:Bc):Prop where
 st:b.start=c.F+b.num*c.K
 wm:b.warm=min c.wm (b.num*c.K)
 dt:b.data=dtB c.K c.wm text b.num
 lt:b.num*c.K<text.length
structure RdX(c:CfM)(text:List Int)(s:PlM):Prop where
 rs:text.drop s.read=s.rs.flatten
 le:s.read<=text.length
 tl:s.rd.tail=(text.take s.read).drop (s.read-min c.wm s.read)
 p1:s.rd.ph=1->s.read=s.number*c.K/\s.rd.ended=false
 ah:s.rd.ph=2∨s.rd.ph=3->s.rd.ahead=s.number*c.K/\s.read=s.rd.ahead+s.rd.own/\s.rd.warm=min c.wm s.rd.ahead/\s.rd.buf<s.ds.length/\s.ds.getD s.rd.buf []=(text.take s.read).drop (s.rd.ahead-s.rd.warm)
 p2:s.rd.ph=2->s.rd.own<c.K/\s.rd.ended=false
 p3:s.rd.ph=3->1<=s.rd.own/\(s.rd.ended=false/\s.rd.own=c.K∨s.rd.ended=true/\s.rs=[]/\s.rd.own<=c.K)
 p4:s.rd.ph=4∨s.rd.ph=5->s.rs=[]/\text.length<=s.number*c.K
section
variable {c:CfM}{s t:PlM}{text:List Int}{i:Nat}{x:WkM}
theorem ae0{α:Type}{l:List α}{n:Nat}(h:n<lc l)(a d:α):(l.set n a).getD n d=a:=by rw[DZ,FU h];rfl
theorem akr{α:Type}{l:List α}{n m:Nat}(h:n≠m)(a d:α):(l.set n a).getD m d=l.getD m d:=by rw[DZ,DZ,FH h]
theorem RdX.same(h:RdX c text s)(h1:t.rs=s.rs)(h2:t.read=s.read)(h3:t.rd=s.rd)(h4:t.number=s.number)(h5:lc t.ds=lc s.ds)(h6:s.rd.ph=2∨s.rd.ph=3->t.ds.getD s.rd.buf []=s.ds.getD s.rd.buf []):RdX c text t:=by
 refine⟨?_,?_,?_,?_,λZ=>?_,?_,?_,?_⟩
 ·rw[h1,h2];exact h.rs
 ·rw[h2];exact h.le
 ·rw[h2,h3];exact h.tl
 ·rw[h2,h3,h4];exact h.p1
 ·rw[h3]at Z;obtain⟨N,U,V,X,Y⟩:=h.ah Z;rw[h2,h3,h4,h5,h6 Z];exact⟨N,U,V,X,Y⟩
 ·rw[h3];exact h.p2
 ·rw[h1,h3];exact h.p3
 ·rw[h1,h3,h4];exact h.p4
theorem aiu(s:PlM)(n m:Nat)(h:n≠m):(Bv s n).ds.getD m []=s.ds.getD m []/\(Bv s n).ds.length=lc s.ds:=by
 unfold Bv;dsimp only
 split
 ·exact⟨akr h _ _,BG⟩
 ·exact⟨rfl,rfl⟩
theorem RdX.takeR(h:RdX c text s)(Y:s.rd.ph=1)(hB:s.fr.getLast?.getD 0<lc s.ds)(X:1<=c.K):RdX c text (takeR s):=by
 obtain⟨h1,h2⟩:=h.p1 Y;have Z:lc s.rd.tail=min c.wm s.read:=by rw[h.tl,List.length_drop,Ag];have:=h.le;omega
 refine⟨h.rs,h.le,h.tl,(λe=>by cases e),λ_=>⟨h1,by show s.read=s.read+0;rfl,Z,?_,?_⟩,λ_=>⟨?_,h2⟩,(λe=>by cases e),(λe=>by rcases e with e|e<;>cases e)⟩
 ·show s.fr.getLast?.getD 0<(((s.ds.set _ []).set _ s.rd.tail)).length;rw[BG,BG];exact hB
 ·show((s.ds.set (s.fr.getLast?.getD 0) []).set (s.fr.getLast?.getD 0) s.rd.tail).getD (s.fr.getLast?.getD 0) []=(text.take s.read).drop (s.read-(lc s.rd.tail));rw[ae0 (by rw[BG];exact hB),Z];exact h.tl
 ·show 0<c.K;omega
theorem aeq{Z:Int}{x:List Int}{l:La}(X:1<=Z):BR Z (x::l)++(EB Z (x::l)).flatten=(x::l).flatten/\((BR Z (x::l)).length:Int)<=Z/\((BR Z (x::l)).length=Z∨EB Z (x::l)=l)/\(EB Z (x::l)).length<=lc l+1:=by
 unfold BR EB;dsimp only;rw[Lb om,Lb om];unfold Dg GX
 by_cases Y:(lc x:Int)<=Z
 ·rw[Lc Y,Lc Y];exact⟨rfl,Y,.inr rfl,by omega⟩
 ·rw[Lb Y,Lb Y];refine⟨?_,?_,.inl ?_,by simp⟩
  ·rw[List.flatten_cons,List.flatten_cons,<-CE,Dx]
  ·rw[Ag];omega
  ·rw[Ag];omega
theorem ajn{A B D:List Int}{k:Nat}(h:A.drop k=B++D)(hk:k<=lc A):A.drop (k+lc B)=D/\A.take (k+lc B)=A.take k++B/\k+lc B<=lc A:=by
 have e:A=A.take k++(B++D):=by rw[<-h,Dx]
 have Y:(A.take k).length=k:=by rw[Ag];omega
 have Z:=congrArg List.length h;rw[List.length_drop,List.length_append]at Z;refine⟨?_,?_,by omega⟩
 ·rw[<-List.drop_drop,h,List.drop_left'];rfl
 ·rw[List.take_add,h,List.take_left'];rfl
theorem akX{A b:List Int}{wm:Nat}:(A.drop (lc A-min wm (lc A))++b).drop ((A.drop (lc A-min wm (lc A))++b).length-wm)=(A++b).drop ((A++b).length-min wm (A++b).length):=by
 have e:A.drop (lc A-min wm (lc A))++b=(A++b).drop (lc A-min wm (lc A)):=by rw[List.drop_append_of_le_length om]
 rw[e,List.drop_drop];congr 1;rw[List.length_drop,List.length_append];omega
theorem RdX.readR(h:RdX c text s)(U:s.rd.ph=2):RdX c text (readR c s):=by
 obtain⟨C,a2,a3,a4,a5⟩:=h.ah (.inl U);obtain⟨b1,D⟩:=h.p2 U;unfold Proofs.YtaamacoicojhnaaGreat.readR
 rcases(show s.rs=[]∨∃x l,s.rs=x::l by cases s.rs with|nil=>exact .inl rfl|cons x l=>exact .inr ⟨x,l,rfl⟩)with Y|⟨x,l,Y⟩
 ·have h0:=h.rs;rw[Y,List.flatten_nil,List.drop_eq_nil_iff]at h0;rw[Lc (show s.rs.isEmpty=G by rw[Y];rfl)]
  by_cases ho:0<s.rd.own
  ·rw[Lc ho];exact⟨by show text.drop s.read=s.rs.flatten;exact h.rs,h.le,h.tl,(λe=>by cases e),λ_=>⟨C,a2,a3,a4,a5⟩,(λe=>by cases e),λ_=>⟨ho,.inr ⟨rfl,Y,by show s.rd.own<=c.K;omega⟩⟩,(λe=>by rcases e with e|e<;>cases e)⟩
  ·rw[Lb ho];refine⟨by show text.drop s.read=s.rs.flatten;exact h.rs,h.le,h.tl,(λe=>by cases e),(λe=>by rcases e with e|e<;>cases e),(λe=>by cases e),(λe=>by cases e),λ_=>⟨Y,?_⟩⟩;show lc text<=s.number*c.K;omega
 ·rw[Lb (show ¬s.rs.isEmpty=G by rw[Y];simp)];have B:(1:Int)<=(c.K:Int)-s.rd.own:=by omega
  obtain⟨N,I,n3,j⟩:=aeq (x:=x) (l:=l) B;rw[<-Y]at N I;obtain⟨b,J⟩:∃b,BR ((c.K:Int)-s.rd.own) s.rs=b:=⟨_,rfl⟩;obtain⟨r,V⟩:∃r,EB ((c.K:Int)-s.rd.own) s.rs=r:=⟨_,rfl⟩;rw[J,V]at N;rw[J]at I;rw[J,V];have h0:=h.rs;rw[<-N]at h0;obtain⟨v,H,y⟩:=ajn h0 h.le;have Z:(text.take s.read).length=s.read:=by rw[Ag];have:=h.le;omega
  have X:(text.take (s.read+lc b)).length=s.read+lc b:=by rw[Ag];omega
  refine⟨v,y,?_,λe=>?_,λ_=>⟨C,?_,a3,?_,?_⟩,λe=>⟨?_,D⟩,λe=>?_,λe=>?_⟩
  ·show(s.rd.tail++b).drop ((s.rd.tail++b).length-c.wm)=(text.take (s.read+lc b)).drop (s.read+lc b-min c.wm (s.read+lc b));have e:=akX (A:=text.take s.read) (b:=b) (wm:=c.wm);rw[<-H,Z,X,<-h.tl]at e;exact e
  ·have e:(if s.rd.own+lc b=c.K then 3 else s.rd.ph)=1:=e;rw[U]at e
   split at e<;>cases e
  ·show s.read+lc b=s.rd.ahead+(s.rd.own+lc b);omega
  ·show s.rd.buf<(s.ds.set _ _).length;rw[BG];exact a4
  ·show(s.ds.set s.rd.buf (s.ds.getD s.rd.buf []++b)).getD s.rd.buf []=(text.take (s.read+lc b)).drop (s.rd.ahead-s.rd.warm);rw[ae0 a4,a5,H,List.drop_append_of_le_length (by rw[Z];omega)]
  ·have e:(if s.rd.own+lc b=c.K then 3 else s.rd.ph)=2:=e;show s.rd.own+lc b<c.K
   split at e
   ·cases e
   ·omega
  ·have e:(if s.rd.own+lc b=c.K then 3 else s.rd.ph)=3:=e;rw[U]at e;show 1<=s.rd.own+lc b/\_
   split at e
   ·rename_i hk
    exact⟨by omega,.inl ⟨D,hk⟩⟩
   ·cases e
  ·have e:(if s.rd.own+lc b=c.K then 3 else s.rd.ph)=4∨(if s.rd.own+lc b=c.K then 3 else s.rd.ph)=5:=e;rw[U]at e
   split at e<;>(rcases e with e|e<;>cases e)
theorem RdX.putR(h:RdX c text s)(I:s.rd.ph=3):RdX c text (putR c s)/\GQ c text ⟨s.number,c.F+s.rd.ahead,s.rd.warm,s.ds.getD s.rd.buf [],s.rd.buf⟩:=by
 obtain⟨V,a2,a3,a4,a5⟩:=h.ah (.inr I);obtain⟨D,N⟩:=h.p3 I;have H:=h.le;have U:s.number*c.K<lc text:=by omega
 have X:=h.rs
 constructor
 ·refine⟨h.rs,h.le,h.tl,λe=>?_,λe=>?_,λe=>?_,λe=>?_,λe=>?_⟩
  ·have e:(if s.rd.ended then 4 else 1)=1:=e
   rcases N with⟨Y,Z⟩|⟨Y,Z,J⟩
   ·refine⟨?_,Y⟩;show s.read=(s.number+1)*c.K;rw[Nat.succ_mul];omega
   ·rw[Y]at e;cases e
  ·have e:(if s.rd.ended then 4 else 1)=2∨(if s.rd.ended then 4 else 1)=3:=e
   split at e<;>(rcases e with e|e<;>cases e)
  ·have e:(if s.rd.ended then 4 else 1)=2:=e
   split at e<;>cases e
  ·have e:(if s.rd.ended then 4 else 1)=3:=e
   split at e<;>cases e
  ·have e:(if s.rd.ended then 4 else 1)=4∨(if s.rd.ended then 4 else 1)=5:=e
   rcases N with⟨Y,Z⟩|⟨Y,Z,J⟩
   ·rw[Y]at e;rcases e with e|e<;>cases e
   ·refine⟨Z,?_⟩;show lc text<=(s.number+1)*c.K;rw[Z,List.flatten_nil,List.drop_eq_nil_iff]at X;rw[Nat.succ_mul];omega
 ·refine⟨by rw[V],by rw[a3,V],?_,U⟩;show s.ds.getD s.rd.buf []=dtB c.K c.wm text s.number;rw[a5,a3,V];unfold dtB;congr 1
  rcases N with⟨Y,Z⟩|⟨Y,Z,J⟩
  ·rw[a2,V,Z]
  ·rw[Z,List.flatten_nil,List.drop_eq_nil_iff]at X;rw[Ap X,Ap om]
theorem RdX.shutR(h:RdX c text s)(Z:s.rd.ph=4):RdX c text (shutR s):=⟨h.rs,h.le,h.tl,(λe=>by cases e),(λe=>by rcases e with e|e<;>cases e),(λe=>by cases e),(λe=>by cases e),λ_=>h.p4 (.inl Z)⟩
theorem akN(rs:La)(c:CfM):RdX c rs.flatten (Bn c rs):=⟨rfl,AR _,by show([]:List Int)=_;simp[Bn],λ_=>⟨by show 0=0*c.K;rw[Nat.zero_mul],rfl⟩,(λe=>by rcases e with e|e<;>cases e),(λe=>by cases e),(λe=>by cases e),(λe=>by rcases e with e|e<;>cases e)⟩
end
section
variable {fold:Bool}{wss:La}
theorem aiO(Y:An fold wss=G):∃My:Nat,Au wss=(My:Int)/\(∀y∈wss,lc y<=My)/\1<=My/\My<=32:=by obtain⟨My,h1,h2,h3⟩:=acs wss;refine⟨My,h1,h2,?_,h3 32 (λv Z=>((EI Y).2.2.1 v Z).2)⟩;obtain⟨_,h4,h5,_⟩:=EI Y;obtain⟨v,Z⟩:=List.exists_mem_of_ne_nil _ h4;have:=(h5 v Z).1;have:=h2 v Z;omega
end
structure Cg(c:CfM)(fold:Bool)(wss:La)(text:List Int):Prop where
 right:An fold wss=true
 scan:c.scan=scF fold wss c.S
 lon:Au wss=(c.L:Int)
 mx:∀y∈wss,y.length<=c.L
 L:1<=c.L
 K:1<=c.K/\c.K<=256
 S:1<=c.S/\c.S<=256
 F:c.F<=4611686018427387904
 len:text.length<=200
def hB(c:CfM)(fold:Bool)(wss:La)(text:List Int)(j:Nat):List AF:=Dj ((c.F+j*c.K:Nat):Int) (BQ fold wss 0 (((c.F+j*c.K:Nat):Int)-((min c.wm (j*c.K):Nat):Int)) (dtB c.K c.wm text j))
structure WkB(c:CfM)(fold:Bool)(wss:La)(text:List Int)(x:WkM):Prop where
 b:GQ c text x.blk
 d:x.done<=x.blk.data.length
 z:x.node=Bp fold wss 0 (x.blk.data.take x.done)
 h:x.hits=Dj (x.blk.start:Int) (BQ fold wss 0 ((x.blk.start:Int)-x.blk.warm) (x.blk.data.take x.done))
 p2:x.ph=2->x.done<x.blk.data.length/\∃k,x.done=k*c.S
 p3:x.ph=3->x.done=x.blk.data.length
def WkX(c:CfM)(fold:Bool)(wss:La)(text:List Int)(x:WkM):Prop:=(x.ph=1->x.node=0/\x.done=0/\x.hits=[])/\(x.ph=2∨x.ph=3->WkB c fold wss text x)
section
variable {c:CfM}{fold:Bool}{wss:La}{text:List Int}{x:WkM}{b:Bc}
theorem afl(KB wm j:Nat)(text:List Int):(dtB KB wm text j).length=min (j*KB+KB) (lc text)-(j*KB-min wm (j*KB)):=by unfold dtB;rw[List.length_drop,Ag]
theorem GQ.len(h:GQ c text b)(Z:Cg c fold wss text):lc b.data=min (b.num*c.K+c.K) (lc text)-(b.num*c.K-min c.wm (b.num*c.K))/\b.warm<lc b.data/\lc b.data<=b.warm+c.K/\b.warm<=c.wm:=by have e:=afl c.K c.wm b.num text;rw[<-h.dt]at e;have:=h.lt;have:=h.wm;have:=Z.K;omega
theorem GQ.prb(h:GQ c text b)(Z:Cg c fold wss text)(z d:Nat)(Y:z<(AB wss).length)(X:d<=lc b.data):DI fold wss b.start b.warm (lc b.data) z d=G:=by
 obtain⟨h1,h2,h3,h4⟩:=h.len Z;have C:=h.st;have D:=h.wm;have H:=h.lt;have I:=Z.F;have J:=Z.len;have N:=Z.L;have U:=Z.K;have V:c.wm=c.L-1:=rfl;unfold DI KA Dh;rw[Z.right,Z.lon,Lz (show((0:Int)<=(z:Int)/\(z:Int)<((AB wss).length:Int))/\(0:Int)<=0/\(0:Int)<=4611686020574871551 by omega),Lz (show 0<=(b.start:Int)/\(b.start:Int)<=4611686020574871551/\0<=(b.warm:Int)/\(b.warm:Int)<=(c.L:Int)-1/\(b.warm:Int)<=(b.start:Int)/\1<=(lc b.data:Int)-(b.warm:Int)/\(lc b.data:Int)-(b.warm:Int)<=256 by omega),Lz (show 0<=(d:Int)/\(d:Int)<=(lc b.data:Int) by omega)]
 rfl
theorem adP(h:GQ c text b)(Y:Cg c fold wss text)(d:Nat)(V:d<=lc b.data) :c.scan b.start b.warm b.data (Bp fold wss 0 (b.data.take d)) d=(Bp fold wss 0 (b.data.take (d+Am (lc b.data) d c.S)),d+Am (lc b.data) d c.S,Dj (b.start:Int) (BQ fold wss (Bp fold wss 0 (b.data.take d)) ((b.start:Int)-b.warm+d) ((b.data.drop d).take (Am (lc b.data) d c.S))),decide (d+Am (lc b.data) d c.S=lc b.data)):=by
 have X:0<(AB wss).length:=(AP.1 (CM wss)).1;have Z:=h.prb Y (Bp fold wss 0 (b.data.take d)) d (JY X _) V;rw[Y.scan];unfold scF slZ slD slH slO;rw[Lc Z,Lc Z,Lc Z,Lc Z];unfold Fs CU;simp only[Aa];rw[List.take_add,No];have U:((d:Int)+((Am (lc b.data) d c.S:Nat):Int)).toNat=d+Am (lc b.data) d c.S:=by omega
 have e2:decide ((d:Int)+((Am (lc b.data) d c.S:Nat):Int)=(lc b.data:Int))=decide (d+Am (lc b.data) d c.S=lc b.data):=by rw[Db,decide_eq_true_eq,decide_eq_true_eq];omega
 rw[U,e2]
theorem apc(h:GQ c text b):Dj (b.start:Int) (BQ fold wss 0 ((b.start:Int)-b.warm) b.data)=hB c fold wss text b.num:=by unfold hB;rw[h.st,h.wm,h.dt]
theorem WkB.scan(h:WkB c fold wss text x)(V:Cg c fold wss text)(X:x.ph=2):WkB c fold wss text {x with node:=(c.scan x.blk.start x.blk.warm x.blk.data x.node x.done).1,done:=(c.scan x.blk.start x.blk.warm x.blk.data x.node x.done).2.1,hits:=x.hits++(c.scan x.blk.start x.blk.warm x.blk.data x.node x.done).2.2.1,ph:=if(c.scan x.blk.start x.blk.warm x.blk.data x.node x.done).2.2.2 then 3 else x.ph}:=by
 obtain⟨p1,k,p2⟩:=h.p2 X;rw[h.z,adP h.b V x.done h.d];have Y:=Jw (n:=lc x.blk.data) (d:=(x.done:Int)) (m:=(c.S:Int)) om (by have:=h.d;omega);rw[Aa]at Y;refine⟨h.b,Y,rfl,?_,λe=>?_,λe=>?_⟩
 ·show x.hits++_=_;dsimp only;rw[List.take_add,JE,aa5,<-h.h,Ag,Nat.min_eq_left h.d]
 ·dsimp only at e⊢;rw[X]at e
  by_cases Z:x.done+Am (lc x.blk.data) x.done c.S=lc x.blk.data
  ·rw[Lc (Lz Z)]at e;cases e
  ·refine⟨by omega,k+1,?_⟩;rw[Nat.succ_mul,<-p2];unfold Am at Z Y⊢;omega
 ·dsimp only at e⊢;rw[X]at e
  by_cases Z:x.done+Am (lc x.blk.data) x.done c.S=lc x.blk.data
  ·exact Z
  ·rw[Lb (by simp[Z])]at e;cases e
theorem WkX.take(h:WkX c fold wss text x)(X:x.ph=1)(Z:GQ c text b)(Y:Cg c fold wss text):WkX c fold wss text {x with ph:=2,blk:=b}:=by
 obtain⟨h1,h2,h3⟩:=h.1 X;obtain⟨J,N,U,V⟩:=Z.len Y;refine⟨(λe=>by cases e),λ_=>⟨Z,?_,?_,?_,λ_=>⟨?_,0,?_⟩,(λe=>by cases e)⟩⟩
 ·show x.done<=lc b.data;omega
 ·show x.node=Bp fold wss 0 (b.data.take x.done);rw[h1,h2];rfl
 ·show x.hits=Dj (b.start:Int) (BQ fold wss 0 _ (b.data.take x.done));rw[h2,h3];rfl
 ·show x.done<lc b.data;omega
 ·show x.done=0*c.S;rw[h2,Nat.zero_mul]
theorem WkB.done(h:WkB c fold wss text x)(Z:x.ph=3):x.hits=hB c fold wss text x.blk.num:=by have:=h.h;rw[h.p3 Z,Hl]at this;rw[this,apc h.b]
theorem apf(p:Nat)(Z:p=1∨p=4):WkX c fold wss text (wk0 p):=⟨λ_=>⟨rfl,rfl,rfl⟩,λe=>by have e:p=2∨p=3:=e;omega⟩
end
structure CQ(c:CfM)(fold:Bool)(wss:La)(text:List Int)(s:PlM):Prop where
 rd:RdX c text s
 q:∀b∈s.q,GQ c text b
 w:∀(i:Nat)(x:WkM),s.wk[i]?=some x->WkX c fold wss text x
 g:∀(i:Nat)(h:List AF),s.rg[i]?=some (some h)->h=hB c fold wss text (s.next+i)/\(s.next+i)*c.K<text.length
 m:s.took++s.out++s.left=(List.range s.next).flatMap (hB c fold wss text)
 w4:∀(i:Nat)(x:WkM),s.wk[i]?=some x->x.ph=4->s.rd.ph=5/\s.q=[]
 m3:s.mph=3->s.rd.ph=5/\s.next=s.number
 e2:s.eph=2->s.mph=3/\s.out=[]
 m1:s.mph≠2->s.left=[]
 nb:s.number=0∨(s.number-1)*c.K<text.length
section
variable {c:CfM}{fold:Bool}{wss:La}{text:List Int}{s t:PlM}{i k:Nat}{x:WkM}
theorem CQ.rdr(h:CQ c fold wss text s)(h5:s.rd.ph≠5)(V:RdX c text t)(h1:∀b∈t.q,GQ c text b)(h2:t.wk=s.wk)(h3:t.rg=s.rg)(h4:t.next=s.next)(J:t.took=s.took)(e2:t.out=s.out)(X:t.left=s.left)(Z:t.mph=s.mph)(N:t.eph=s.eph)(h6:t.number=0∨(t.number-1)*c.K<lc text):CQ c fold wss text t:=⟨V,h1,by rw[h2];exact h.w,by rw[h3,h4];exact h.g,by rw[J,e2,X,h4];exact h.m,λi x Y U=>by rw[h2]at Y;exact absurd (h.w4 i x Y U).1 h5,λe=>by rw[Z]at e;exact absurd (h.m3 e).1 h5,by rw[N,Z,e2];exact h.e2,by rw[Z,X];exact h.m1,h6⟩
theorem CQ.stepR(h:CQ c fold wss text s)(D:Cg c fold wss text)(Y:EE c s)(J:s.cancelled=M)(X:Ck c s=G):CQ c fold wss text (stepR c s):=by
 have h5:s.rd.ph≠5:=λe=>by unfold Ck at X;rw[Lc e]at X;cases X
 have U:¬s.cancelled=G:=by rw[J];decide
 have C:=Y.a.r.ph;unfold Proofs.YtaamacoicojhnaaGreat.stepR;rw[Lb U]
 split
 ·rename_i h1
  have ha:Du s.next c.R s.number=G:=by unfold Ck at X;rw[Lb h5,Lb U,Lc h1]at X;exact X
  have V:=Y.b.free (Y.n J) Y.a.r h1 ha;have hB:s.fr.getLast?.getD 0<lc s.ds:=by rw[MV V];have:=(AP.1 (Y.b.uf _ (List.getLast_mem V))).1;rw[Y.b.dl,<-Y.b.ul];exact this
  exact h.rdr h5 (h.rd.takeR h1 hB D.K.1) h.q rfl rfl rfl rfl rfl rfl rfl rfl h.nb
 ·split
  ·rename_i H h2
   have N:=h.rd.readR (c:=c) h2;refine h.rdr h5 N ?_ ?_ ?_ ?_ ?_ ?_ ?_ ?_ ?_ ?_
   all_goals
    unfold readR;dsimp only
    split
    ·split
     ·first|rfl|exact h.q|exact h.nb
     ·first|rfl|exact h.q|exact h.nb
    ·first|rfl|exact h.q|exact h.nb
  ·split
   ·rename_i H A h3
    obtain⟨B,I⟩:=h.rd.putR h3;refine h.rdr h5 B (λb Z=>?_) rfl rfl rfl rfl rfl rfl rfl rfl (.inr ?_)
    ·have Z:b∈s.q++[_]:=Z
     rcases Bf.1 Z with Z|Z
     ·exact h.q b Z
     ·rw[Fq]at Z;rw[Z];exact I
    ·show(s.number+1-1)*c.K<lc text;exact I.lt
   ·have h4:s.rd.ph=4:=by omega
    exact h.rdr h5 (h.rd.shutR h4) h.q rfl rfl rfl rfl rfl rfl rfl rfl h.nb
theorem CQ.wkr(h:CQ c fold wss text s)(U:s.wk[i]?=E x)(f:WkM->WkM)(C:WkX c fold wss text (f x))(h4:(f x).ph=4->s.rd.ph=5/\t.q=[])(H:RdX c text t)(h1:∀b∈t.q,b∈s.q)(h2:t.wk=s.wk.modify i f)(h3:∀(i:Nat)(h:List AF),t.rg[i]?=E (E h)->h=hB c fold wss text (s.next+i)/\(s.next+i)*c.K<lc text)(V:t.next=s.next)(e1:t.took=s.took)(e2:t.out=s.out)(I:t.left=s.left)(X:t.mph=s.mph)(e:t.eph=s.eph)(J:t.rd=s.rd)(N:t.number=s.number):CQ c fold wss text t:=by
 refine⟨H,λb B=>h.q b (h1 b B),λj y Z=>?_,by rw[V];exact h3,by rw[e1,e2,I,V];exact h.m,λj y Z Y=>?_,by rw[X,J,V,N];exact h.m3,by rw[e,X,e2];exact h.e2,by rw[X,I];exact h.m1,by rw[N];exact h.nb⟩
 ·rw[h2]at Z;exact Ju h.w U C j y Z
 ·rw[h2]at Z;rw[J];refine Ju (p:=λy=>y.ph=4->s.rd.ph=5/\t.q=[]) (λj y Z Y=>?_) U h4 j y Z Y;obtain⟨v,A⟩:=h.w4 j y Z Y;refine⟨v,?_⟩
  cases D:t.q with
  |nil=>rfl
  |cons b l=>have:=h1 b (by rw[D];exact List.mem_cons_self ..);rw[A]at this;cases this
theorem CQ.stepW(h:CQ c fold wss text s)(D:Cg c fold wss text)(N:EE c s)(C:s.cancelled=M)(Y:s.wk[i]?=E x)(X:Er s i=G):CQ c fold wss text (stepW c s i):=by
 have H:¬s.cancelled=G:=by rw[C];decide
 have hp:=N.a.r.wp _ x Y;have hW:=h.w i x Y;have h4:x.ph≠4:=λe=>by unfold Er at X;rw[Y]at X;dsimp only at X;rw[Lc e]at X;cases X
 unfold Proofs.YtaamacoicojhnaaGreat.stepW;rw[Lb H,Fc Y]
 split
 ·rename_i h1
  unfold takeW
  cases J:s.q with
  |nil=>
   have B:s.rd.ph=5:=by unfold Er at X;rw[Y]at X;dsimp only at X;rw[Lb h4,Lc h1]at X;unfold Ep at X;rw[J,N.a.f.shu]at X;exact Lj (by simpa using X)
   refine h.wkr Y (λw=>{w with ph:=4}) ⟨(λe=>by cases e),(λe=>by rcases e with e|e<;>cases e)⟩ (λ_=>⟨B,J⟩) (h.rd.same rfl rfl rfl rfl rfl λ_=>rfl) (λb V=>V) rfl h.g rfl rfl rfl rfl rfl rfl rfl rfl
  |cons b l=>
   refine h.wkr Y (λw=>{w with ph:=2,blk:=b}) (hW.take h1 (h.q b (by rw[J];exact List.mem_cons_self ..)) D) (λe=>by cases e) (h.rd.same rfl rfl rfl rfl rfl λ_=>rfl) (λb' V=>by rw[J];exact MT _ V) rfl h.g rfl rfl rfl rfl rfl rfl rfl rfl
 ·rename_i v
  split
  ·rename_i h2
   have A:=(hW.2 (.inl h2)).scan D h2;unfold scanW;refine h.wkr Y _ ⟨λe=>?_,λ_=>A⟩ (λe=>?_) (h.rd.same rfl rfl rfl rfl rfl λ_=>rfl) (λb V=>V) rfl h.g rfl rfl rfl rfl rfl rfl rfl rfl
   ·dsimp only at e;rw[h2]at e
    split at e<;>cases e
   ·dsimp only at e;rw[h2]at e
    split at e<;>cases e
  ·rename_i y
   have h3:x.ph=3:=by omega
   have hB:=hW.2 (.inr h3);obtain⟨p1,p2,p3,p4⟩:=(N.n C).place N.a.f.gl Y (.inr h3);unfold putWM;rw[Y];dsimp only;rw[Ly (s:={s with rg:=s.rg.set (x.blk.num-s.next) (E x.hits)}) Y];have I:s.rd.ph=2∨s.rd.ph=3->x.blk.buf≠s.rd.buf:=λe e2=>by
    have Z:=N.b.cnt s.rd.buf;unfold Cu rdB at Z;rw[Lc (N.a.r.ho.2 e),En]at Z;have h6:0<((If s).map Bc.buf).count s.rd.buf:=by refine Iv.2 (Be.2 ⟨x.blk,?_,e2⟩);unfold If;refine List.mem_append_right _ (Ir.2 ⟨x,List.mem_of_getElem? Y,?_⟩);unfold Proofs.YtaamacoicojhnaaGreat.hW;rw[Lc (.inr h3)];exact List.mem_singleton_self _
    have h7:([s.rd.buf]:List Nat).count s.rd.buf=1:=by simp
    rw[h7]at Z
    split at Z<;>omega
   refine h.wkr Y (λ_=>wk0 1) (apf 1 (.inl rfl)) (λe=>by cases e) (h.rd.same rfl rfl rfl rfl ?_ λe=>?_) (λb V=>V) rfl (λj l U=>?_) rfl rfl rfl rfl rfl rfl rfl rfl
   ·exact(aiu {s with rg:=s.rg.set (x.blk.num-s.next) (E x.hits)} x.blk.buf (x.blk.buf+1) om).2
   ·exact(aiu {s with rg:=s.rg.set (x.blk.num-s.next) (E x.hits)} x.blk.buf s.rd.buf (I e)).1
   ·have U:(s.rg.set (x.blk.num-s.next) (E x.hits))[j]?=E (E l):=U
    by_cases e:x.blk.num-s.next=j
    ·subst e;rw[FU (AP.1 p4).1]at U
     cases AK (AK U)
     rw[show s.next+(x.blk.num-s.next)=x.blk.num by omega];exact⟨hB.done h3,hB.b.lt⟩
    ·rw[FH e]at U;exact h.g j l U
theorem CQ.stepMg(h:CQ c fold wss text s)(j:EE c s)(hc:s.cancelled=M)(Z:EX c s=G):CQ c fold wss text (stepMg s):=by
 have D:¬s.cancelled=G:=by rw[hc];decide
 have a2:=j.a.r.mp;have h3:s.mph≠3:=λe=>by unfold EX at Z;rw[Lc e]at Z;cases Z
 have Y:s.eph≠2:=λe=>h3 (h.e2 e).1;unfold Proofs.YtaamacoicojhnaaGreat.stepMg;rw[Lb D]
 split
 ·rename_i h1
  have U:=h.m1 om;have N:=h.m;rw[U,Cx]at N;unfold takeM
  split
  ·rename_i J r C
   have g0:=h.g 0 J (by rw[C];rfl);rw[DQ]at g0;have y:(List.range (s.next+1)).flatMap (hB c fold wss text)=s.took++s.out++J:=by rw[El,List.flatMap_append,List.flatMap_cons,List.flatMap_nil,Cx,<-N,<-g0.1]
   have I:∀(i:Nat)(l:List AF),(r++[O])[i]?=E (E l)->l=hB c fold wss text (s.next+1+i)/\(s.next+1+i)*c.K<lc text:=λi l X=>by
    have A:i<lc r:=Md λa1=>by
     rw[DY om]at X
     cases v:i-(lc r) with
     |zero=>rw[v]at X;cases X
     |succ n=>rw[v]at X;cases X
    rw[By A]at X;have:=h.g (i+1) l (by rw[C];exact X);rw[show s.next+(i+1)=s.next+1+i by omega]at this;exact this
   split
   ·rename_i V
    have H:J=[]:=by cases J with
     |nil=>rfl
     |cons a b=>cases V
    refine⟨h.rd.same rfl rfl rfl rfl rfl λ_=>rfl,h.q,h.w,I,?_,h.w4,λe=>absurd e h3,λe=>absurd e Y,h.m1,h.nb⟩;show s.took++s.out++s.left=_;rw[y,U,H]
   ·refine⟨h.rd.same rfl rfl rfl rfl rfl λ_=>rfl,h.q,h.w,I,?_,h.w4,(λe=>by cases e),λe=>absurd e Y,λe=>absurd rfl e,h.nb⟩;show s.took++s.out++J=_;rw[y]
  ·rename_i B
   have hs:s.rd.ph=5/\s.next=s.number:=by
    unfold EX at Z;rw[Lb h3,Lb D,Lc h1]at Z;unfold Gt at Z
    split at Z
    ·rename_i a b C;exact absurd C (B a b)
    ·rw[Bool.false_or,Bq,decide_eq_true_eq,decide_eq_true_eq]at Z;exact Z
   exact⟨h.rd.same rfl rfl rfl rfl rfl λ_=>rfl,h.q,h.w,h.g,h.m,h.w4,λ_=>hs,λe=>absurd e Y,λ_=>U,h.nb⟩
 ·rename_i n1
  have h2:s.mph=2:=by omega
  unfold flushM
  cases U:s.left with
  |nil=>exact absurd U (j.a.f.ml h2)
  |cons a l=>
   have N:=h.m;rw[U]at N;refine⟨h.rd.same rfl rfl rfl rfl rfl λ_=>rfl,h.q,h.w,h.g,?_,h.w4,λe=>?_,λe=>absurd e Y,λe=>?_,h.nb⟩
   ·show s.took++(s.out++[a])++l=_;rw[<-N];simp
   ·have e:(if l.isEmpty then 1 else s.mph)=3:=e
    split at e
    ·cases e
    ·exact absurd e h3
   ·have e:(if l.isEmpty then 1 else s.mph)≠2:=e;show l=[]
    split at e
    ·rename_i V
     cases l with
     |nil=>rfl
     |cons a b=>cases V
    ·exact absurd h2 e
theorem CQ.offerE(h:CQ c fold wss text s)(X:EE c s)(Z:Fx s=G):CQ c fold wss text (offerE c s):=by
 have h2:s.eph≠2:=λe=>by unfold Fx at Z;rw[Lc e]at Z;cases Z
 unfold Proofs.YtaamacoicojhnaaGreat.offerE
 split
 ·rename_i ho
  have Y:s.mph=3:=by unfold Fx at Z;rw[Lb h2]at Z;unfold IV at Z;rw[ho,X.a.f.en]at Z;exact Lj (by simpa using Z)
  exact⟨h.rd.same rfl rfl rfl rfl rfl λ_=>rfl,h.q,h.w,h.g,h.m,h.w4,h.m3,λ_=>⟨Y,ho⟩,h.m1,h.nb⟩
 ·rename_i a l ho
  have Y:=h.m;rw[ho]at Y
  split
  ·refine⟨h.rd.same rfl rfl rfl rfl rfl λ_=>rfl,h.q,h.w,h.g,?_,h.w4,h.m3,λe=>absurd e h2,h.m1,h.nb⟩;show s.took++[a]++l++s.left=_;rw[<-Y];simp
  ·exact⟨h.rd.same rfl rfl rfl rfl rfl λ_=>rfl,h.q,h.w,h.g,h.m,h.w4,h.m3,λe=>absurd e h2,h.m1,h.nb⟩
theorem CQ.step(h:CQ c fold wss text s)(U:Cg c fold wss text)(X:EE c s)(Y:s.cancelled=M)(Z:Bj c s k=G):CQ c fold wss text (Bi c s k):=by
 have V:¬s.cancelled=G:=by rw[Y];decide
 unfold Bj at Z;unfold Bi
 split at Z
 ·rw[Lc (by assumption)];exact h.stepR U X Y Z
 ·rw[Lb (by assumption)]
  split at Z
  ·rw[Lc (by assumption)];obtain⟨x,N,h4⟩:=JH Z;exact h.stepW U X Y N Z
  ·rw[Lb (by assumption)]
   split at Z
   ·rw[Lc (by assumption)];exact h.stepMg X Y Z
   ·rw[Lb (by assumption)]
    split at Z
    ·unfold stepE;rw[Lb V];exact h.offerE X Z
    ·cases Z
theorem aj3(rs:La):CQ c fold wss rs.flatten (Bn c rs):=by
 refine⟨akN rs c,(λb V=>by cases V),λi x Z=>?_,λi h X=>?_,rfl,λi x Z Y=>?_,(λe=>by cases e),(λe=>by cases e),λ_=>rfl,.inl rfl⟩
 ·have:=Ho (List.mem_of_getElem? (show(List.replicate c.W (wk0 1))[i]?=E x from Z));rw[this];exact apf 1 (.inl rfl)
 ·have:=Ho (List.mem_of_getElem? (show(List.replicate c.R O)[i]?=E (E h) from X))
  cases this
 ·have:=Ho (List.mem_of_getElem? (show(List.replicate c.W (wk0 1))[i]?=E x from Z));rw[this]at Y
  cases Y
end
section
variable (c:CfM)(fold:Bool)(wss:La)(text:List Int)
end
section
variable {c:CfM}{fold:Bool}{wss:La}{text:List Int}{s t:PlM}{i k:Nat}{x:WkM}
theorem acY:∀(n m:Nat)(l:List (Option (List AF))),n<m->(Cj m l).count n=0
 |n,m,[],_=>rfl
 |n,m,O::l,h=>acY n (m+1) l om
 |n,m,E a::l,h=>by show(m::Cj (m+1) l).count n=0;rw[Ib,acY n (m+1) l om,Lb om]
theorem aoB(h:CQ c fold wss text s)(j:EE c s)(hc:s.cancelled=M)(V:OkC c)(he:II c s=[]):Fd s=G:=by
 have aa:¬s.cancelled=G:=by rw[hc];decide
 have hW:=V.W;have a2:=j.a.f.wl;have J:∀t,t<c.W+3->Bj c s t=M:=λt ht=>by
  unfold II at he;rw[List.filter_eq_nil_iff]at he;have:=he t (List.mem_range.2 ht)
  cases hh:Bj c s t with
  |false=>rfl
  |true=>exact absurd hh this
 have hN:=j.n hc;have r0:Ck c s=M:=by have:=J 0 om;unfold Bj at this;rw[Lc rfl]at this;exact this
 have a1:∀i,i<c.W->Er s i=M:=λi hi=>by have:=J (i+1) om;unfold Bj at this;rw[Lb om,Lc om,Jl]at this;exact this
 have y:EX c s=M:=by have:=J (c.W+1) om;unfold Bj at this;rw[Lb om,Lb om,Lc rfl]at this;exact this
 have D:Fx s=M:=by have:=J (c.W+2) om;unfold Bj at this;rw[Lb om,Lb om,Lb om,Lc rfl]at this;exact this
 have hE:s.eph=2∨s.out=[]/\s.ended=M:=by
  unfold Fx at D
  split at D
  ·exact .inl (by assumption)
  ·unfold IV at D;rw[Bool.or_eq_false_iff]at D;refine .inr ⟨?_,D.2⟩
   cases ho:s.out with
   |nil=>rfl
   |cons a l=>rw[ho]at D;cases D.1
 have hM:s.mph=3∨s.mph=1/\Gt s=M:=by
  have ab:=j.a.r.mp;unfold EX at y
  split at y
  ·exact .inl (by assumption)
  ·split at y
   ·exact .inr ⟨by assumption,y⟩
   ·have Y:=of_decide_eq_false y
    exfalso
    have ho:s.out=[]:=hE.elim (λe=>(h.e2 e).2) λe=>e.1;rw[ho]at Y;have hO:=V.O;simp at Y;omega
 have C:∀(i:Nat)(x:WkM),s.wk[i]?=E x->x.ph=4∨x.ph=1/\Ep s=M:=λi x I=>by
  have:=a1 i (by rw[<-a2];exact(AP.1 I).1);unfold Er at this;rw[I]at this;dsimp only at this
  split at this
  ·exact .inl (by assumption)
  ·split at this
   ·exact .inr ⟨by assumption,this⟩
   ·cases this
 obtain⟨x0,U⟩:∃x,s.wk[0]?=E x:=⟨s.wk[0]'om,by simp⟩;have B:s.wk.flatMap Proofs.YtaamacoicojhnaaGreat.hW=[]:=by
  rw[List.flatMap_eq_nil_iff];intro x I;obtain⟨i,hi⟩:=DR I;unfold Proofs.YtaamacoicojhnaaGreat.hW;rw[Lb]
  rcases C i x hi with e|e<;>omega
 have X:s.q=[]->s.next<s.number->∃a l,s.rg=E a::l:=λA Y=>by
  have:=hN.cnt s.next;rw[Ea,A,B,Lc ⟨AC _,Y⟩]at this;simp only[DE,Iw,DD]at this
  cases v:s.rg with
  |nil=>rw[v]at this;cases this
  |cons o l=>
   cases o with
   |some a=>exact⟨a,l,rfl⟩
   |none=>
    rw[v]at this;have e:(Cj s.next (O::l)).count s.next=0:=acY s.next (s.next+1) l om;omega
 have Z:∀a l,s.rg=E a::l->Gt s=G:=λa l e=>by unfold Gt;rw[e];rfl
 by_cases h5:s.rd.ph=5
 ·have a6:Ep s=G:=by unfold Ep;rw[j.a.f.shu,Lz h5,Bool.or_true]
  have H:∀(i:Nat)(x:WkM),s.wk[i]?=E x->x.ph=4:=λi x I=>(C i x I).elim id λe=>by rw[a6]at e;cases e.2
  have A:=(h.w4 0 x0 U (H 0 x0 U)).2;have h3:s.mph=3:=hM.elim id λe=>by
   exfalso
   by_cases Y:s.next<s.number
   ·obtain⟨a,l,hg⟩:=X A Y;rw[Z a l hg]at e
    cases e.2
   ·have:=hN.le;have e2:=e.2;unfold Gt at e2;rw[Lz h5,Lz (show s.next=s.number by omega)]at e2;simp at e2
  have h2:s.eph=2:=hE.elim id λe=>by
   have:=j.a.f.en;rw[e.2,Lz h3]at this
   cases this
  unfold Fd;rw[Lz h5,Lz h3,Lz h2,Bool.and_true,Bool.and_true,FJ,List.all_eq_true];intro x I;obtain⟨i,hi⟩:=DR I;exact Lz (H i x hi)
 ·exfalso
  have N:Ep s=M:=(C 0 x0 U).elim (λe=>absurd (h.w4 0 x0 U e).1 h5) λe=>e.2;have A:s.q=[]:=by
   unfold Ep at N;rw[Bool.or_eq_false_iff]at N
   cases a7:s.q with
   |nil=>rfl
   |cons a l=>rw[a7]at N;cases N.1
  unfold Ck at r0;rw[Lb h5,Lb aa]at r0
  split at r0
  ·unfold Du at r0;have a8:=hN.le;rw[Lz a8.1,FJ]at r0;have:=of_decide_eq_false r0;have hR:=V.R;obtain⟨a,l,hg⟩:=X A om
   rcases hM with e|e
   ·exact h5 (h.m3 e).1
   ·rw[Z a l hg]at e
    cases e.2
  ·split at r0
   ·have h9:=of_decide_eq_false r0;rw[A]at h9;have hQ:=V.Q;simp at h9;omega
   ·cases r0
end
theorem Ph:∀(n:Nat)(l:List (Option (List AF))) (x:Option (List AF)),Cj n (l++[x])=Cj n l++(match x with|some _=>[n+lc l]|_=>[])
 |n,[],O=>rfl
 |n,[],E _=>rfl
 |n,O::t,x=>by show Cj (n+1) (t++[x])=Cj (n+1) t++_;rw[Ph,Ao,show n+1+lc t=n+(lc t+1) by omega]
 |n,E _::t,x=>by
  show n::Cj (n+1) (t++[x])=n::Cj (n+1) t++_;rw[Ph,Ao,show n+1+lc t=n+(lc t+1) by omega]
  rfl
theorem arp(n:Nat)(rg:List (Option (List AF))):∀j,j<=lc rg->Ga n rg j=Cj n (rg.take j)
 |0,_=>by simp[Ga,Cj]
 |j+1,h=>by
  have Z:rg[j]?=E rg[j]:=Ar om;have e:rg.take (j+1)=rg.take j++[rg[j]]:=(List.take_append_getElem om).symm;unfold Ga;rw[arp n rg j om,e,Ph,Z,Ag,Nat.min_eq_left om]
  cases rg[j]<;>rfl
theorem ars(us:List Bool):∀j,Oy us j=((List.range j).filter λi=>us.getD i M).map λx:Nat=>(x:Int)
 |0=>rfl
 |j+1=>by
  unfold Oy;rw[ars us j,El,List.filter_append,Aj];congr 1;rw[List.filter_cons,List.filter_nil]
  split<;>rfl
structure Pj(c:CfM)(s:PlM):Prop where
 w4:∀(i:Nat)(x:WkM),s.wk[i]?=some x->x.ph=4->s.rd.ph=5/\s.q=[]
 m3:s.mph=3->∀y,(Cj s.next s.rg).count y=0
 e2:s.eph=2->s.mph=3/\s.out=[]
section
variable {c:CfM}{fold:Bool}{wss:La}{text:List Int}{s t:PlM}{i:Nat}{x:WkM}
theorem EE.live(h:EE c s):(Oy s.us (lc s.us)).length+lc s.fr=c.R:=by
 have h1:=h.b.perm.filter λi=>s.us.getD i M;have h2:=h.b.perm.length_eq;have h3:s.fr.filter (λi=>s.us.getD i M)=[]:=List.filter_eq_nil_iff.2 λx Z=>by rw[DZ,h.b.uf x Z];decide
 have h4:(Cu s).filter (λi=>s.us.getD i M)=Cu s:=List.filter_eq_self.2 λx Z=>by rw[DZ,h.b.ut x Z];rfl
 rw[List.filter_append,h3,h4,Av]at h1;have h5:=h1.length_eq;rw[ars,BP,h.b.ul,<-h5];rw[List.length_append,List.length_range]at h2;omega
theorem Pj.of(h:CQ c fold wss text s)(Z:Ba c s):Pj c s:=⟨h.w4,λe y=>by have h1:=Z.cnt y;have h2:=(h.m3 e).2;rw[Ea,Lb om]at h1;omega,h.e2⟩
theorem Pj.wkr(h:Pj c s){f:WkM->WkM}(X:s.wk[i]?=E x)(h1:t.wk=s.wk.modify i f)(h2:t.rd=s.rd)(h3:t.q=s.q)(V:(f x).ph=4->s.rd.ph=5/\s.q=[])(h4:t.mph=s.mph)(h5:t.next=s.next)(h6:t.rg=s.rg)(h7:t.eph=s.eph)(h8:t.out=s.out):Pj c t:=by
 refine⟨λj y Z h=>?_,by rw[h4,h5,h6];exact h.m3,by rw[h4,h7,h8];exact h.e2⟩;rw[h2,h3];rw[h1,GS]at Z
 by_cases Y:i=j
 ·subst Y;rw[X]at Z;have Z:E (f x)=E y:=by simpa using Z
  cases Z
  exact V h
 ·exact ‹Pj c s›.w4 j y (by simpa[Y]using Z) h
theorem Pj.step(h:Pj c s)(C:EE c s)(D:s.cancelled=G){k:Nat}(Z:Bj c s k=G):Pj c (Bi c s k):=by
 unfold Bj at Z;unfold Bi
 split at Z
 ·rw[Lc (by assumption)];unfold stepR stopR shutR;rw[Lc D]
  split
  ·exact⟨λj y Y U=>⟨rfl,(h.w4 j y Y U).2⟩,h.m3,h.e2⟩
  ·exact⟨λj y Y U=>⟨rfl,(h.w4 j y Y U).2⟩,h.m3,h.e2⟩
 ·rw[Lb (by assumption)]
  split at Z
  ·rw[Lc (by assumption)];obtain⟨x,X,h4⟩:=JH Z;unfold stepW;rw[Lc D];unfold stopW;rw[Fc X];dsimp only
   by_cases h1:x.ph=1
   ·rw[Lc h1];have V:Ep s=G:=by unfold Er at Z;rw[X]at Z;dsimp only at Z;rw[Lb h4,Lc h1]at Z;exact Z
    cases J:s.q with
    |nil=>
     have H:takeW s (k-1)=setW s (k-1) λw=>{w with ph:=4}:=by unfold takeW;rw[J]
     have e:(takeW s (k-1)).wk[k-1]?=E {x with ph:=4}:=by rw[H];exact KW X _
     rw[Fc e,Lc rfl,H];have N:s.shut=G:=by unfold Ep at V;rw[J]at V;exact V
     refine h.wkr X rfl rfl rfl (λ_=>⟨?_,J⟩) rfl rfl rfl rfl rfl;rw[C.a.f.shu]at N;exact Lj N
    |cons b q=>
     have H:takeW s (k-1)={setW s (k-1) (λw=>{w with ph:=2,blk:=b})with q:=q}:=by unfold takeW;rw[J]
     have e:(takeW s (k-1)).wk[k-1]?=E {x with ph:=2,blk:=b}:=by rw[H];exact KW X _
     rw[Fc e,Lb (show ¬(2=4) by decide),Ly e,H];refine⟨λj y Y U=>?_,h.m3,h.e2⟩
     exfalso
     have Y:((s.wk.modify (k-1) λw=>{w with ph:=2,blk:=b}).modify (k-1) λ_=>wk0 1)[j]?=E y:=Y;rw[GS]at Y
     by_cases I:k-1=j
     ·subst I;rw[KW X]at Y;have Y:E (wk0 1)=E y:=by simpa using Y
      cases Y
      cases U
     ·rw[GS]at Y;simp[I]at Y;have:=(h.w4 j y Y U).2;rw[J]at this
      cases this
   ·rw[Lb h1,Fc X,Lb h4,Ly X];exact h.wkr X rfl rfl rfl (λe=>by cases e) rfl rfl rfl rfl rfl
  ·rw[Lb (by assumption)]
   split at Z
   ·rw[Lc (by assumption)];unfold stepMg Hr;rw[Lc D];exact⟨h.w4,λ_ y=>by rw[acz];rfl,λe=>⟨rfl,(h.e2 e).2⟩⟩
   ·rw[Lb (by assumption)]
    split at Z
    ·unfold Fx at Z;have h2:s.eph≠2:=λe=>by rw[Lc e]at Z;cases Z
     rw[Lb h2]at Z;unfold stepE Fr;rw[Lc D]
     cases ho:s.out with
     |nil=>
      refine⟨h.w4,h.m3,λ_=>⟨?_,rfl⟩⟩;unfold IV at Z;rw[ho,C.a.f.en]at Z;exact Lj Z
     |cons a l=>exact⟨h.w4,h.m3,λe=>absurd e h2⟩
    ·cases Z
theorem arP(h:Pj c s)(Y:EE c s)(hW:1<=c.W)(ho:Fd s=G):s.q=[]/\s.out=[]/\Cj s.next s.rg=[]/\s.shut=G/\s.ended=G/\lc s.fr=c.R:=by
 unfold Fd at ho;simp only[Bq,decide_eq_true_eq,List.all_eq_true]at ho;obtain⟨⟨⟨h1,h2⟩,h3⟩,h4⟩:=ho;have J:=Y.a.f.wl;have X:s.wk[0]?=E (s.wk[0]'om):=Ar om;have V:=(h.w4 0 _ X (h2 _ (List.getElem_mem _))).2;have U:=Y.held;have I:∀l:List WkM,(∀x∈l,x.ph=4)->(l.map λx=>(if x.ph=2∨x.ph=3 then 1 else 0)).sum=0:=by
  intro l Z
  induction l with
  |nil=>rfl
  |cons x l ih=>rw[BO,List.sum_cons,ih λy N=>Z y (MT _ N),Lb (by have:=Z x List.mem_cons_self;omega)]
 rw[V,I _ h2,Lb om]at U;refine⟨V,(h.e2 h4).2,?_,by rw[Y.a.f.shu,h1];rfl,by rw[Y.a.f.en,h3];rfl,by simpa using U⟩
 cases Z:Cj s.next s.rg with
 |nil=>rfl
 |cons y l=>
  have:=h.m3 h3 y;rw[Z,List.count_cons_self]at this;omega
end
structure Pi(c:CfM)(fold:Bool)(wss:La)(text:List Int)(D L i:Nat)(s:PlM):Prop where
 t:FC c 400 D L i s
 z:Pj c s
 x:s.cancelled=false->CQ c fold wss text s
section
variable {c:CfM}{fold:Bool}{wss:La}{text:List Int}{s:PlM}{D LO i:Nat}
theorem Pi.new(hW:1<=c.W)(rs:La)(Z:rs.flatten=text)(X:∀r∈rs,FS r/\lc r<=LO):Pi c fold wss text D LO 0 (Bn c rs):=by subst Z;have Z:=FC.new (H:=400) (D:=D) hW rs X;have Y:=aj3 (c:=c) (fold:=fold) (wss:=wss) rs;exact⟨Z,Pj.of Y (Z.p.n rfl),λ_=>Y⟩
theorem Pi.up(h:Pi c fold wss text D LO i s):Pi c fold wss text D LO (i+1) s:=⟨h.t.up,h.z,h.x⟩
theorem Pi.step(h:Pi c fold wss text D LO i s)(V:Cg c fold wss text)(U:ML c 400 D){k:Nat}(X:Bj c s k=G):Pi c fold wss text D LO (i+1) (Bi c s k):=by
 have Y:=h.t.step V.K.2 U X
 cases Z:s.cancelled with
 |true=>exact⟨Y,h.z.step h.t.p Z X,λe=>by rw[ae3,Z]at e;cases e⟩
 |false=>
  have h2:=(h.x Z).step V h.t.p Z X;exact⟨Y,Pj.of h2 (Y.p.n (by rw[ae3];exact Z)),λ_=>h2⟩
theorem Pi.pick(h:Pi c fold wss text D LO i s)(Z:Cg c fold wss text)(X:ML c 400 D)(z:Int):Pi c fold wss text D LO (i+1) (Fi c s z):=by
 unfold Fi
 cases Y:EZ c s z with
 |none=>exact h.up
 |some k=>exact h.step Z X (aaO Y).2
theorem Pi.cancel(h:Pi c fold wss text D LO i s):Pi c fold wss text D LO i (LN s):=by
 have Z:=h.t.cancel;unfold LN at Z⊢
 split
 ·exact h
 ·rename_i e
  rw[Lb e]at Z;exact⟨Z,⟨h.z.w4,h.z.m3,h.z.e2⟩,λe=>by cases e⟩
theorem Pi.mov(h:Pi c fold wss text D LO i s)(Z:Cg c fold wss text)(X:ML c 400 D)(d z:Int):Pi c fold wss text D LO (i+1) (PD c s d z):=by
 unfold PD
 split
 ·exact h.pick Z X z
 ·split
  ·unfold PA
   split
   ·rename_i Y
    unfold Ou at Y;exact h.step Z X (Bool.and_eq_true_iff.1 Y).2
   ·exact h.up
  ·exact h.cancel.up
theorem Pi.goes(h:Pi c fold wss text D LO i s)(Z:OkC c):II c s=[]↔Fd s=G:=by
 refine⟨λX=>?_,arA h.t.p.a.f.wl⟩
 cases Y:s.cancelled with
 |true=>
  cases ho:Fd s with
  |true=>rfl
  |false=>exact absurd X (arR h.t.p.a.f Y ho)
 |false=>exact aoB (h.x Y) h.t.p Y Z X
theorem Pi.far(h:Pi c fold wss text D LO i s)(Y:s.cancelled=G){n j:Nat}(Z:Fd s=G∨muM s+j<=n)(z:Int):Fd (Fi c s z)=G∨muM (Fi c s z)+(j+1)<=n:=by
 cases ho:Fd s with
 |true=>rw[arI h.t.p.a.f.wl ho];exact .inl ho
 |false=>
  have Z:muM s+j<=n:=Z.resolve_left (by rw[ho];decide);obtain⟨k,hk⟩:=apO (arR h.t.p.a.f Y ho) z;have e:Fi c s z=Bi c s k:=by unfold Fi;rw[hk]
  have:=arJ h.t.p.a.f.wl Y (aaO hk).2;rw[e];exact .inr om
theorem Pi.end(h:Pi c fold wss text D LO i s)(Y:s.cancelled=G){n:Nat}(Z:Fd s=G∨muM s+n<=n):Fd s=G:=by
 cases ho:Fd s with
 |true=>rfl
 |false=>
  have Z:muM s+n<=n:=Z.resolve_left (by rw[ho];decide);obtain⟨k,hk⟩:=apO (arR h.t.p.a.f Y ho) 0;have:=arJ h.t.p.a.f.wl Y (aaO hk).2;omega
theorem arK(z:Int):(Fi c s z).cancelled=s.cancelled:=by
 unfold Fi
 split
 ·rfl
 ·exact ae3 _
theorem Pm(n:Int):Ou c s n=G↔n∈enF c s (c.W+3):=by
 rw[ak5,Be];unfold Ou;simp only[Bq,decide_eq_true_eq]
 constructor
 ·rintro⟨⟨h1,h2⟩,h3⟩;exact⟨n.toNat,List.mem_filter.2 ⟨List.mem_range.2 om,h3⟩,by omega⟩
 ·rintro⟨k,hk,rfl⟩;obtain⟨h1,h2⟩:=List.mem_filter.1 hk;have:=List.mem_range.1 h1;exact⟨⟨by omega,by omega⟩,by rwa[Aa]⟩
theorem arE(d z:Int)(h:(if d=0 then(EZ c s z).isSome else if d=1 then Ou c s z else !(s.cancelled || Fd s))=M):PD c s d z=s:=by
 unfold PD
 split at h
 ·rename_i h0
  rw[Lc h0];unfold Fi
  cases Z:EZ c s z with
  |none=>rfl
  |some k=>rw[Z]at h;cases h
 ·rename_i h0
  rw[Lb h0]
  split at h
  ·rename_i h1
   rw[Lc h1];unfold PA;rw[Lb (by rw[h];decide)]
  ·rename_i h1
   rw[Lb h1];unfold LN;rw[Lc (by
    cases Y:(s.cancelled || Fd s)with
    |true=>rfl
    |false=>rw[Y]at h;cases h)]
end
section
variable {A:PAd}{c:CfM}{s s':PlM}{o:Nat->Nat}{F:Nat->Prop}{w w':Wa}
def One(A:PAd)(c:CfM)(F:Nat->Prop)(s:PlM)(w:Wa):Prop:=∃o,AI A c o s w/\∀k,F k->k<w.heap.size/\o k=1000000
theorem One.more{Gd:Nat->Prop}(h:One A c F s w)(V:Bt w w')(U:∀k,Gd k->F k∨w.heap.size<=k/\k<w'.heap.size):One A c Gd s w':=by
 obtain⟨o,h1,h3⟩:=h;have Y:Chg (λ_=>False) w w':=.of_same V;refine⟨o,h1.far Y λ_ _ e=>e.elim,λk hk=>?_⟩
 rcases U k hk with Z|⟨Z,X⟩
 ·exact⟨Af (h3 k Z).1 Y.size,(h3 k Z).2⟩
 ·exact⟨X,h1.out k Z⟩
theorem One.same(h:One A c F s w)(Z:Bt w w'):One A c F s w':=h.more Z λk hk=>.inl hk
theorem One.mk{b:Nat}(h1:AI A c o s w)(Y:b<=w.heap.size)(Z:∀k,k<b->o k=1000000):One A c (λk=>k<b) s w:=⟨o,h1,λk hk=>⟨Af hk Y,Z k hk⟩⟩
theorem AE.one(h:AE A c o s' w w')(ha:∀k,F k->k<w.heap.size/\o k=1000000):One A c F s' w'/\Chg (λk=>¬F k) w w':=by obtain⟨Z,h1,h2,h3⟩:=h;exact⟨⟨Z,h1,λk hk=>⟨Af (ha k hk).1 h3.c.size,h3.f k (ha k hk).1 (ha k hk).2⟩⟩,h3.c.mono λk _ e Y=>e.2 (ha k Y).2⟩
theorem One.call(h:One A c F s w){f:FuncId}{args:Array Vh}{Ra:Ending->Wa->Prop}(k:∀o,AI A c o s w->Calls ZP f args w λe w'=>Ra e w'/\AE A c o s' w w') :Calls ZP f args w λe w'=>Ra e w'/\One A c F s' w'/\Chg (λk=>¬F k) w w':=by obtain⟨o,h1,h3⟩:=h;refine(k o h1).mono ?_;rintro e w' ⟨Z,Y⟩;exact⟨Z,Y.one h3⟩
theorem One.calm(h:One A c F s w){f:FuncId}{args:Array Vh}{Ra:Ending->Wa->Prop}(k:∀o,AI A c o s w->Calls ZP f args w λe w'=>Ra e w'/\Bt w w') :Calls ZP f args w λe w'=>Ra e w'/\One A c F s w'/\Bt w w':=by have h0:=h;obtain⟨o,h1,h3⟩:=h;refine(k o h1).mono ?_;rintro e w' ⟨Y,Z⟩;exact⟨Y,h0.same Z,Z⟩
theorem One.pick(h:One A c F s w)(Z:OkC c)(ok:OkM c s)(z:Int) :Calls ZP 17 #[L (E ⟨A.P,0,O⟩),R K z] w λe w'=>e=ra (ta (match EZ c s z with|none=>#[R K 0,i6 M]|some t=>#[R K (t:Int),i6 G]))/\One A c F (Fi c s z) w'/\Chg (λk=>¬F k) w w':=h.call λo h1=>ahi w w h1.g Z ok z
theorem One.cancel(h:One A c F s w)(Z:OkC c)(ok:OkM c s) :Calls ZP 21 #[L (E ⟨A.P,0,O⟩)] w λe w'=>e=ra (i6 (!(s.cancelled || Fd s)))/\One A c F (LN s) w'/\Chg (λk=>¬F k) w w':=h.call λo h1=>apX w w h1.g Z ok.wl
theorem One.moves(h:One A c F s w)(Z:OkC c)(ok:OkM c s)(x y:Int) :Calls ZP 31 #[L (E ⟨A.P,0,O⟩),i8 #[R K x,R K y]] w λe w'=>e=ra (PM c s x y)/\One A c F (PD c s x y) w'/\Chg (λk=>¬F k) w w':=h.call λo h1=>aqj w h1 Z ok x y
theorem One.over(h:One A c F s w)(Z:OkC c)(ok:OkM c s) :Calls ZP 16 #[L (E ⟨A.P,0,O⟩)] w λe w'=>e=ra (i6 (Fd s))/\One A c F s w'/\Bt w w':=h.calm λo h1=>ahx w h1 Z ok.wl
theorem One.view(h:One A c F s w)(Y:OkC c)(ok:OkM c s)(X:EE c s) :Calls ZP 34 #[L (E ⟨A.P,0,O⟩)] w λe w'=>(∃v0 v3 v4 Z,e=ra (i8 (vwC v0 v3 v4 Z (Br c s)))/\VwS w' w.heap.size v0 v3 v4 Z (Br c s))/\One A c F s w'/\Bt w w':=h.calm λo h1=>(aqY w h1 Y ok X).mono λe w' ⟨v0,v3,v4,Z,h2,h3,h4⟩=>⟨⟨v0,v3,v4,Z,h2,h3⟩,h4⟩
end
end Go.Proofs.YtaamacoicojhnaaGreat
