/- Proofs over the given program, part 21. -/
import Derived.Test.YtaamacoicojhnaaGreatZB20
set_option linter.unusedVariables false
set_option linter.unusedSimpArgs false
set_option maxRecDepth 100000
set_option maxHeartbeats 16000000
open Go.Proofs.Tryz
open Go.Proofs.Tryz renaming prog→ZP
namespace Go.Proofs.YtaamacoicojhnaaGreat
open Go.RowKit Go.Sort
theorem agJ {fold:Bool}{wss Z:List (List Int)}{wk bl rg X V Y fr:Int}{m:Nat}(h:adu fold wss wk bl rg X V Y fr Z m=true):aca wss=false/\aan fold wss=true/\ac2 wk bl rg X V Y fr=true/\Z.length<=20/\Z.flatten.length<=60/\m<=12:=by
 unfold adu at h;simp only [ayz,decide_eq_true_eq,Bool.not_eq_true'] at h;obtain⟨⟨⟨⟨⟨⟨h1,h2⟩,h3⟩,h4⟩,h5⟩,h6⟩,h7⟩:=h;exact⟨h1,by rw [ajx];exact h2,h3,h4,h6,h7⟩
theorem apo {Z:List (List Int)}{N:Nat}(h:Z.flatten.length<=N):∀x∈Z,x.length<=N:=fun x Y=>by
 induction Z with
 | nil=>cases Y
 | cons y l ih=>
  rw [List.flatten_cons,List.length_append] at h
  rcases axG.1 Y with rfl | Y
  · omega
  · exact ih (by omega) Y
theorem ase {wk bl rg Y X Z fr:Int}(h:ac2 wk bl rg Y X Z fr=true):∃W K R Q O S F:Nat,wk=W/\bl=K/\rg=R/\Y=Q/\X=O/\Z=S/\fr=F:=by
 have h:=abE.1 h;exact⟨wk.toNat,bl.toNat,rg.toNat,Y.toNat,X.toNat,Z.toNat,fr.toNat,by omega,by omega,by omega,by omega,by omega,by omega,by omega⟩
theorem avT {c:CfM}(h:ac2 c.W c.K c.R c.Q c.O c.S c.F=true)(Z:c.L<=32):OkC c:=by
 have h:=abE.1 h;exact⟨by omega,by omega,by omega,by omega,by omega,by omega,by omega,by unfold CfM.wm;omega⟩
theorem ahC (c:CfM)(fold:Bool)(a:Option Addr)(la ca:Nat)(b:Option Addr)(n cb:Nat)(d:Option Addr)(m cd:Nat)(pa:Option Addr)(pn pc:Nat)(ah:Int)(wss Y:List (List Int))(l:List Int)(w:World)(hA:Wds w a la wss)(hR:Wds w b n Y)(hD:Sl1 Value.bool w d m c.ans)(hP:Sl1 (Value.int .i64) w pa pn l)
  (ab:adu fold wss c.W c.K c.R c.Q c.O c.S c.F Y m=true) (hL:aaY wss=(c.L:Int)) (a7:c.L<=32) (ac:c.scan=scF fold wss c.S) (aP:pn<=30) (aT:ah<=300) :
  Calls ZP 5 #[.agg (alq fold a la ca c.W c.K c.R c.Q c.O c.S c.F c.br b n cb d m cd),.slice pa pn pc,.int .i64 ah] w fun e w'=>e=.returned (.bool true)/\Below w.heap.size w w':=by
 obtain⟨W,hW⟩:∃W,W=w.alloc (.cells (alq fold a la ca c.W c.K c.R c.Q c.O c.S c.F c.br b n cb d m cd) 29):=⟨_,rfl⟩;have X:Below w.heap.size w W:=by rw [hW];exact (axf _ _).alloc (axe _) _
 have hO:Bx w.heap.size [.cells (alq fold a la ca c.W c.K c.R c.Q c.O c.S c.F c.br b n cb d m cd) 29] W:=by rw [hW];exact (Bx.nil _ w).snoc _ rfl
 have HC:Hid (∀V,RowKit.Below W.heap.size W V->V.cell? ⟨w.heap.size,0,none⟩=some (.bool fold)/\V.cell? ⟨w.heap.size,1,none⟩=some (.slice a la ca)/\V.cell? ⟨w.heap.size,2,none⟩=some (.int .i64 c.W)/\V.cell? ⟨w.heap.size,3,none⟩=some (.int .i64 c.K)/\V.cell? ⟨w.heap.size,4,none⟩=some (.int .i64 c.R)/\V.cell? ⟨w.heap.size,5,none⟩=some (.int .i64 c.Q)/\V.cell? ⟨w.heap.size,6,none⟩=some (.int .i64 c.O)/\V.cell? ⟨w.heap.size,7,none⟩=some (.int .i64 c.S)/\V.cell? ⟨w.heap.size,8,none⟩=some (.int .i64 c.F)/\V.cell? ⟨w.heap.size,9,none⟩=some (.bool c.br)/\V.cell? ⟨w.heap.size,10,none⟩=some (.slice b n cb)/\V.cell? ⟨w.heap.size,11,none⟩=some (.slice d m cd)):=fun V U=>by
  have h:=hO.below U;exact⟨h.cell (i:=0) rfl rfl,h.cell (i:=0) rfl rfl,h.cell (i:=0) rfl rfl,h.cell (i:=0) rfl rfl,h.cell (i:=0) rfl rfl,h.cell (i:=0) rfl rfl,h.cell (i:=0) rfl rfl,h.cell (i:=0) rfl rfl,h.cell (i:=0) rfl rfl,h.cell (i:=0) rfl rfl,h.cell (i:=0) rfl rfl,h.cell (i:=0) rfl rfl⟩
 obtain⟨p1,p2,p3,p4,p5,p6⟩:=agJ ab;have Z:=avT p3 a7;obtain⟨g1,g2,g3⟩:=arp p1 fold;have aG:=hA.len;have aE:=hR.len;have ad:=apo p5;have ae:=auN ac (afO (ab6.2 ⟨abq p2,rfl,rfl⟩));have aF:(aa0 wss).length<=400:=afO (ab6.2 ⟨abq p2,rfl,rfl⟩);have aw:400*(c.K+c.wm)<=1000000:=by
  have h1:=Z.K;have h2:c.wm<=31:=by unfold CfM.wm;omega
  omega
 have ar:∀x∈Y,afs x/\x.length<=60:=fun x hx=>⟨fun y hy=>hR.bytes x hx y hy,ad x hx⟩;have aj:ag8 c 400 (c.K+c.wm) 60 0 (ajI c Y):=ag8.new Z.W.1 Y ar;have a6:auA c.W c.K c.R c.Q c.O c.S c.F=((2*c.W+c.Q+4:Nat):Int)/\aux c.W c.K c.R c.Q c.O c.S c.F=0:=by
  unfold auA aux;rw [if_pos p3,if_pos p3];exact⟨by omega,rfl⟩
 have k1:Hid (Calls ZP 11 #[.agg (alq fold a la ca c.W c.K c.R c.Q c.O c.S c.F c.br b n cb d m cd)] W fun e w'=>e=.returned (.bool true)/\RowKit.Below W.heap.size W w'):=by
  have:=ahm fold a la ca c.W c.K c.R c.Q c.O c.S c.F c.br b n cb d m cd wss Y W (hA.below X) (hR.below X);rw [ab] at this;exact this
 have k2:Hid (∀V,RowKit.Below W.heap.size W V->Calls ZP 14 #[.agg (alq fold a la ca c.W c.K c.R c.Q c.O c.S c.F c.br b n cb d m cd)] V fun e w'=>∃A o,e=.returned (.tuple #[.pointer (some ⟨A.P,0,none⟩),.pointer (some ⟨A.Kk,0,none⟩)])/\aa8 A c o (ajI c Y) w'/\RowKit.Below V.heap.size V w'/\∀k,k<V.heap.size->o k=0):=fun V U=>
  anQ c fold a la ca b n cb d m cd wss Y V ((hA.below X).below U) ((hR.below X).below U) ((hD.below X).below U) p2 (by omega) (fun x hx=>by have:=g2 x hx;omega) (by omega) hL a7 ac Z p3 (by omega) (fun x hx=>by have:=ad x hx;omega) (by omega)
 have k3:Hid (∀V,Calls ZP 20 #[.agg (ae4 c.W c.K c.R c.Q c.O c.S c.F)] V fun e w'=>e=.returned (.tuple #[.int .i64 ((2*c.W+c.Q+4:Nat):Int),.int .i64 0])/\RowKit.Below V.heap.size V w'):=fun V=>by
  have:=agY c.W c.K c.R c.Q c.O c.S c.F V;rw [a6.1,a6.2] at this;exact this
 have k4:Hid (∀V,RowKit.Below W.heap.size W V->∀t,t<=1000->Calls ZP 18 #[.slice pa pn pc,.int .i64 ((t:Nat):Int)] V fun e w'=>e=.returned (.int .i64 (aeq l t))/\V=w'):=fun V U t ht=>alh pa pn pc l t V ((hP.below X).below U) (by omega) (by omega);have k5:Hid (∀(A:PAd) (o:Nat->Nat) (s:PlM) (J V:World) (i:Nat),aa3 A c o s J V->ag8 c 400 (c.K+c.wm) 60 i s->i<=3900->∀z:Int,Calls ZP 17 #[.pointer (some ⟨A.P,0,none⟩),.int .i64 z] V fun e w'=>e=.returned (.tuple (match aeC c s z with | none=>#[.int .i64 0,.bool false] | some t=>#[.int .i64 (t:Int),.bool true]))/\aa3 A c o (act c s z) J w'/\ag8 c 400 (c.K+c.wm) 60 (i+1) (act c s z)):=fun A o s J V i hg hi hl z=>
  (anz J V hg Z (hi.ok Z hl aw (by omega) ae) z).mono fun e w' ⟨h1,h2⟩=>⟨h1,h2,hi.pick Z.K.2 ae z⟩
 have k6:Hid (∀(A:PAd) (o:Nat->Nat) (s:PlM) (J V:World) (i:Nat),aa3 A c o s J V->ag8 c 400 (c.K+c.wm) 60 i s->Calls ZP 16 #[.pointer (some ⟨A.P,0,none⟩)] V fun e w'=>e=.returned (.bool (ac1 s))/\aa3 A c o s J w'):=fun A o s J V i hg hi=>
  hg.low fun o1 h1=>(aiq V h1 Z hi.p.a.f.wl).mono fun e w' ⟨h2,h3⟩=>⟨h2,hg.bel h3⟩
 have k7:Hid (∀(A:PAd) (o:Nat->Nat) (s:PlM) (J V:World) (i:Nat),aa3 A c o s J V->ag8 c 400 (c.K+c.wm) 60 i s->Calls ZP 21 #[.pointer (some ⟨A.P,0,none⟩)] V fun e w'=>(∃x,e=.returned (.bool x))/\aa3 A c o (aaE s) J w'/\ag8 c 400 (c.K+c.wm) 60 i (aaE s)):=fun A o s J V i hg hi=>
  (akY J V hg Z hi.p.a.f.wl).mono fun e w' ⟨h2,h3⟩=>⟨⟨_,h2⟩,h3,hi.cancel⟩
 have HB:=ax3 X;have ax:=ax3 aj;obtain⟨N,hN⟩:∃N,2*c.W+c.Q+4=N:=⟨_,rfl⟩;have aU:N<=40:=by have:=Z.W;have:=Z.Q;omega
 have k8:Hid (∀s:PlM,ap8 c s->arw c N 0 (aaE s)):=fun s h=>by rw [<-hN];exact arw.start h
 rw [hN] at k3;obtain⟨q0,q1,q2,q3,q4,q5,q6,q7,q8,q9,B,C⟩:=HC.out W (axf _ _);clear hA hR hD hP ab hL a7 ac hO X p1 p2 p3 p4 p5 p6 Z g1 g2 g3 aG aE ad ae aF aw ar aj a6 hN;have aV:decide ((30:Int)<(pn:Int))=false:=by simp;omega
 have aO:decide (30<pn)=false:=by simp;omega
 have aN:decide ((300:Int)<ah)=false:=by simp;omega
 go_enter func5,ntmps5;go_upto_region 1 with fail
 rw [<-hW];clear hW
 go_wp2_with fail
 refine k1.out.mono ?_;rintro e w1 ⟨rfl,av⟩;have X1:=ax3 av;clear q0 q1 q2 q3 q4 q5 q6 q7 q8 q9 B C av k1;obtain⟨q0,q1,q2,q3,q4,q5,q6,q7,q8,q9,B,C⟩:=HC.out w1 X1.out;have K2:=ax3 (k2.out w1 X1.out);clear k2
 go_wp2_with fail
 refine K2.out.mono ?_;rintro e D ⟨A,o,rfl,hS,ag,hz⟩;have aI:=ax3 ag;have X2:=ax3 (X1.out.trans (ag.mono X1.out.size));have HZ:=ax3 hz;have aB:=ax3 hS.toG;clear q0 q1 q2 q3 q4 q5 q6 q7 q8 q9 B C ag hS hz K2;obtain⟨q0,q1,q2,q3,q4,q5,q6,q7,q8,q9,B,C⟩:=HC.out D X2.out
 go_wp2_with fail
 refine (k3.out D).mono ?_;rintro e w3 ⟨rfl,au⟩;have aA:=ax3 (aB.out.bel au);have KB:Hid (∀s V,aa3 A c o s D V->RowKit.Below W.heap.size W V):=fun s V h=>X1.out.trans ((h.base aI.out HZ.out).mono X1.out.size);clear q0 q1 q2 q3 q4 q5 q6 q7 q8 q9 B C au aB k3;go_upto_region 8 with fail
 go_loopw [11] (fun aD wr=>∃(i:Nat) (s:PlM),i<=300/\aD=.int .i64 i/\Hid (ag8 c 400 (c.K+c.wm) 60 i s)/\Hid (aa3 A c o s D wr)) (fun s _=>300-(intOf s).toNat)
 case atStart=>exact⟨0,_,by omega,rfl,ax,aA⟩
 case round=>
  clear ax aA;obtain⟨i,s,aS,rfl,I,HG⟩:=hrel
  by_cases ak:(i:Int)<ah
  ·
   have hd:decide ((i:Int)<ah)=true:=decide_eq_true ak;have K4:=ax3 (k4.out wr (KB.out s wr HG.out) i (by omega));have K5:=ax3 (k5.out A o s D wr i HG.out I.out (by omega) (aeq l i));have i1:(0:Int)<=(i:Int):=by omega
   go_wp2_with fail
   refine K4.out.mono ?_;rintro e w5 ⟨rfl,rfl⟩
   go_wp2_with fail
   refine K5.out.mono ?_;rintro e w6 ⟨rfl,a2,am⟩;have H:=ax3 a2;have aL:=ax3 am;clear a2 am K4 K5 I HG;obtain⟨tv,ai⟩:∃tv,(match aeC c s (aeq l i) with | none=>#[Value.int .i64 0,.bool false] | some t=>#[.int .i64 ((t:Nat):Int),.bool true])=tv:=⟨_,rfl⟩;rw [ai];clear ai;go_wp2
   go_roundw
   case rel=>exact⟨i+1,_,by omega,by simp,aL,H⟩
   case measure=>simp [intOf];omega
  ·
   have hd:decide ((i:Int)<ah)=false:=decide_eq_false ak;have K7:=ax3 (k7.out A o s D wr i HG.out I.out);have K8:=ax3 (k8.out s I.out.p.a);clear k7 k8
   go_wp2_with fail
   refine K7.out.mono ?_;rintro e w5 ⟨⟨x,rfl⟩,aq,ao⟩;have az:=ax3 aq;have ay:=ax3 ao;clear aq ao K7 I HG;go_upto_region 13 with fail
   go_loopw [12] (fun aC wq=>∃(j:Nat) (t:PlM),j<=40/\aC=.int .i64 j/\Hid (ag8 c 400 (c.K+c.wm) 60 (i+j) t)/\Hid (aa3 A c o t D wq)/\Hid (arw c N j t)) (fun s _=>40-(intOf s).toNat)
   case atStart=>exact⟨0,_,by omega,rfl,ay,az,K8⟩
   case round=>
    clear ay az K8;obtain⟨j,t,aR,rfl,I,HG,HX⟩:=hrel
    by_cases aQ:j<N
    ·
     have hd:decide ((j:Int)<(N:Int))=true:=by simp;omega
     have aH:decide (j<N)=true:=by simp;omega
     have K6:=ax3 (k6.out A o t D wr (i+j) HG.out I.out);obtain⟨V,U⟩:∃v,ac1 t=v:=⟨_,rfl⟩;rw [U] at K6
     go_wp2_with fail
     refine K6.out.mono ?_;rintro e w6 ⟨rfl,a2⟩;have H:=ax3 a2;clear a2 K6
     cases V with
     | true=>
      have K6:=ax3 (k6.out A o t D w6 (i+j) H.out I.out);rw [U] at K6
      go_wp2_with fail
      refine K6.out.mono ?_;rintro e w7 ⟨rfl,a1⟩;have a8:Hid (RowKit.Below w.heap.size w w7):=HB.out.trans ((KB.out t w7 a1).mono HB.out.size);clear a1 K6
      go_wp2_with fail
      refine (aha w7).mono ?_;rintro e w8 ⟨rfl,af⟩;go_wp2;go_ret;exact⟨rfl,a8.out.trans (af.mono a8.out.size)⟩
     | false=>
      obtain⟨k,hk,hx⟩:=HX.out.step I.out.p.a U (aeq l j);have aJ:=ax3 hx;have K4:=ax3 (k4.out w6 (KB.out t w6 H.out) j (by omega));have aa:=k5.out A o t D w6 (i+j) H.out I.out (by omega) (aeq l j);rw [hk] at aa;have K5:=ax3 aa;clear aa hx hk U HX I HG H;have j1:(0:Int)<=(j:Int):=by omega
      go_wp2_with fail
      refine K4.out.mono ?_;rintro e w7 ⟨rfl,rfl⟩
      go_wp2_with fail
      refine K5.out.mono ?_;rintro e w8 ⟨rfl,ap,al⟩;have aM:=ax3 ap;have aK:=ax3 al;clear ap al K4 K5;go_wp2
      go_roundw
      case rel=>exact⟨j+1,_,by omega,by simp,aK,aM,aJ⟩
      case measure=>simp [intOf];omega
    ·
     have hd:decide ((j:Int)<(N:Int))=false:=by simp;omega
     have aH:decide (j<N)=false:=by simp;omega
     have U:ac1 t=true:=HX.out.end I.out.p.a (by omega);have K6:=ax3 (k6.out A o t D wr (i+j) HG.out I.out);rw [U] at K6
     go_wp2_with fail
     refine K6.out.mono ?_;rintro e w7 ⟨rfl,a1⟩;have a8:Hid (RowKit.Below w.heap.size w w7):=HB.out.trans ((KB.out t w7 a1).mono HB.out.size);clear a1 K6
     go_wp2_with fail
     refine (aha w7).mono ?_;rintro e w8 ⟨rfl,af⟩;go_wp2;go_ret;exact⟨rfl,a8.out.trans (af.mono a8.out.size)⟩
section
variable {fold:Bool}{wss:List (List Int)}
theorem apE (Y:aan fold wss=true):∃M:Nat,aaY wss=(M:Int)/\(∀y∈wss,y.length<=M)/\1<=M/\M<=32:=by
 obtain⟨M,h1,h2,h3⟩:=ai7 wss;refine⟨M,h1,h2,?_,h3 32 (fun v Z=>((aaH Y).2.2.1 v Z).2)⟩;obtain⟨_,h4,h5,_⟩:=aaH Y;obtain⟨v,Z⟩:=List.exists_mem_of_ne_nil _ h4;have:=(h5 v Z).1;have:=h2 v Z;omega
end
theorem ahK (fold:Bool)(a:Option Addr)(y ca:Nat)(wk bl rg D A H fr:Int)(br:Bool)(b:Option Addr)(n j:Nat)(d:Option Addr)(m o:Nat)(pa:Option Addr)(N pc:Nat)(ah:Int)(wss U:List (List Int))(w:World)(hA:Wds w a y wss)(hR:Wds w b n U)
  (Y:adu fold wss wk bl rg D A H fr U m=false∨30<N∨300<ah) :
  Calls ZP 5 #[.agg (alq fold a y ca wk bl rg D A H fr br b n j d m o),.slice pa N pc,.int .i64 ah] w fun e w'=>e=.returned (.bool true)/\Below w.heap.size w w':=by
 obtain⟨W,hW⟩:∃W,W=w.alloc (.cells (alq fold a y ca wk bl rg D A H fr br b n j d m o) 29):=⟨_,rfl⟩;have J:Below w.heap.size w W:=by rw [hW];exact (axf _ _).alloc (axe _) _
 have hO:Bx w.heap.size [.cells (alq fold a y ca wk bl rg D A H fr br b n j d m o) 29] W:=by rw [hW];exact (Bx.nil _ w).snoc _ rfl
 have HC:Hid (∀V,RowKit.Below W.heap.size W V->V.cell? ⟨w.heap.size,0,none⟩=some (.bool fold)/\V.cell? ⟨w.heap.size,1,none⟩=some (.slice a y ca)/\V.cell? ⟨w.heap.size,2,none⟩=some (.int .i64 wk)/\V.cell? ⟨w.heap.size,3,none⟩=some (.int .i64 bl)/\V.cell? ⟨w.heap.size,4,none⟩=some (.int .i64 rg)/\V.cell? ⟨w.heap.size,5,none⟩=some (.int .i64 D)/\V.cell? ⟨w.heap.size,6,none⟩=some (.int .i64 A)/\V.cell? ⟨w.heap.size,7,none⟩=some (.int .i64 H)/\V.cell? ⟨w.heap.size,8,none⟩=some (.int .i64 fr)/\V.cell? ⟨w.heap.size,9,none⟩=some (.bool br)/\V.cell? ⟨w.heap.size,10,none⟩=some (.slice b n j)/\V.cell? ⟨w.heap.size,11,none⟩=some (.slice d m o)):=fun V hV=>by
  have h:=hO.below hV;exact⟨h.cell (i:=0) rfl rfl,h.cell (i:=0) rfl rfl,h.cell (i:=0) rfl rfl,h.cell (i:=0) rfl rfl,h.cell (i:=0) rfl rfl,h.cell (i:=0) rfl rfl,h.cell (i:=0) rfl rfl,h.cell (i:=0) rfl rfl,h.cell (i:=0) rfl rfl,h.cell (i:=0) rfl rfl,h.cell (i:=0) rfl rfl,h.cell (i:=0) rfl rfl⟩
 have z:=ax3 (ahm fold a y ca wk bl rg D A H fr br b n j d m o wss U W (hA.below J) (hR.below J));obtain⟨S,hS⟩:∃S,adu fold wss wk bl rg D A H fr U m=S:=⟨_,rfl⟩;rw [hS] at z Y;have x:=ax3 J;obtain⟨q0,q1,q2,q3,q4,q5,q6,q7,q8,q9,B,C⟩:=HC.out W (axf _ _);clear hA hR hO J hS HC;have a1:S=false∨(S=true/\30<N)∨(S=true/\¬30<N/\300<ah):=by
  cases S with
  | false=>exact .inl rfl
  | true=>
   by_cases h1:30<N
   · exact .inr (.inl ⟨rfl,h1⟩)
   ·
    exact .inr (.inr ⟨rfl,h1,(by
     rcases Y with h | h | h
     · cases h
     · omega
     · exact h)⟩)
 clear Y
 rcases a1 with rfl | ⟨rfl,h1⟩ | ⟨rfl,h1,h2⟩
 ·
  go_enter func5,ntmps5;go_upto_region 1 with fail
  rw [<-hW];clear hW
  go_wp2_with fail
  refine z.out.mono ?_;rintro e v ⟨rfl,Z⟩;have I:=ax3 (x.out.trans (Z.mono x.out.size));clear q0 q1 q2 q3 q4 q5 q6 q7 q8 q9 B C Z z
  go_wp2_with fail
  refine (aha v).mono ?_;rintro e w2 ⟨rfl,X⟩;go_wp2;go_ret;exact⟨rfl,I.out.trans (X.mono I.out.size)⟩
 ·
  have a2:decide ((30:Int)<(N:Int))=true:=by simp;omega
  have s:decide (30<N)=true:=by simp;omega
  go_enter func5,ntmps5;go_upto_region 1 with fail
  rw [<-hW];clear hW
  go_wp2_with fail
  refine z.out.mono ?_;rintro e v ⟨rfl,Z⟩;have I:=ax3 (x.out.trans (Z.mono x.out.size));clear q0 q1 q2 q3 q4 q5 q6 q7 q8 q9 B C Z z
  go_wp2_with fail
  refine (aha v).mono ?_;rintro e w2 ⟨rfl,X⟩;go_wp2;go_ret;exact⟨rfl,I.out.trans (X.mono I.out.size)⟩
 ·
  have a2:decide ((30:Int)<(N:Int))=false:=by simp;omega
  have s:decide (30<N)=false:=by simp;omega
  have a6:decide ((300:Int)<ah)=true:=by simp;omega
  go_enter func5,ntmps5;go_upto_region 1 with fail
  rw [<-hW];clear hW
  go_wp2_with fail
  refine z.out.mono ?_;rintro e v ⟨rfl,Z⟩;have I:=ax3 (x.out.trans (Z.mono x.out.size));clear q0 q1 q2 q3 q4 q5 q6 q7 q8 q9 B C Z z
  go_wp2_with fail
  refine (aha v).mono ?_;rintro e w2 ⟨rfl,X⟩;go_wp2;go_ret;exact⟨rfl,I.out.trans (X.mono I.out.size)⟩
theorem anx {fold:Bool}{wss Z:List (List Int)}{wk bl rg X V Y fr:Int}{m:Nat}(br:Bool)(ans:List Bool)(h:adu fold wss wk bl rg X V Y fr Z m=true):∃c:CfM,wk=c.W/\bl=c.K/\rg=c.R/\X=c.Q/\V=c.O/\Y=c.S/\fr=c.F/\c.br=br/\c.ans=ans/\aaY wss=(c.L:Int)/\1<=c.L/\c.L<=32/\(∀y∈wss,y.length<=c.L)/\c.scan=scF fold wss c.S:=by
 obtain⟨_,p2,U,_⟩:=agJ h;obtain⟨W,K,R,Q,O,S,F,h1,h2,h3,h4,h5,h6,h7⟩:=ase U;obtain⟨M,H,I,J,N⟩:=apE p2;exact⟨⟨W,K,R,Q,O,S,F,M,scF fold wss S,br,ans⟩,h1,h2,h3,h4,h5,h6,h7,rfl,rfl,H,J,N,I,rfl⟩
theorem ag5 (fold:Bool)(a:Option Addr)(I A:Nat)(wk bl rg V N X fr:Int)(br:Bool)(b:Option Addr)(n B:Nat)(d:Option Addr)(m C:Nat)(J:Option Addr)(U D:Nat)(H:Int)(wss Y:List (List Int))(ans:List Bool)(l:List Int)(w:World)(x:Wds w a I wss)(y:Wds w b n Y)(hD:Sl1 Value.bool w d m ans)(j:Sl1 (Value.int .i64) w J U l) :
  Calls ZP 5 #[.agg (alq fold a I A wk bl rg V N X fr br b n B d m C),.slice J U D,.int .i64 H] w fun e w'=>e=.returned (.bool true)/\Below w.heap.size w w':=by
 by_cases Z:adu fold wss wk bl rg V N X fr Y m=false∨30<U∨300<H
 · exact ahK fold a I A wk bl rg V N X fr br b n B d m C J U D H wss Y w x y Z
 ·
  have z:adu fold wss wk bl rg V N X fr Y m=true:=by
   cases h:adu fold wss wk bl rg V N X fr Y m with
   | true=>rfl
   | false=>exact absurd (.inl h) Z
  obtain⟨c,rfl,rfl,rfl,rfl,rfl,rfl,rfl,rfl,rfl,o,l2,s,l4,v⟩:=anx br ans z;exact ahC c fold a I A b n B d m C J U D H wss Y l w x y hD j z o s v (Nat.le_of_not_lt fun h=>Z (.inr (.inl h))) (Int.not_lt.1 fun h=>Z (.inr (.inr h)))
end Go.Proofs.YtaamacoicojhnaaGreat
