/- Proofs over the given program, part 11. -/
import Derived.Test.YtaamacoicojhnaaGreatZB10
set_option linter.unusedVariables false
set_option linter.unusedSimpArgs false
set_option maxRecDepth 100000
set_option maxHeartbeats 16000000
open Go.Proofs.Tryz
open Go.Proofs.Tryz renaming prog→ZP
namespace Go.Proofs.YtaamacoicojhnaaGreat
open Go.RowKit Go.Sort
theorem aor (a:Option Addr)(n cn:Nat)(Z:List (List Int))(w:World)(D:Wds w a n Z)(hn:n<=1000000)(hT:Z.flatten.length<=1000000000) :
  Calls ZP 12 #[.slice a n cn] w fun e w'=>∃(B:Option Addr) (c1:Nat),e=.returned (.slice B Z.flatten.length c1)/\Z.flatten.length<=c1/\Bys w' B Z.flatten.length Z.flatten/\Below w.heap.size w w':=by
 obtain⟨iU,h,y,z,A⟩:=info_parts acy;have ab:=ax3 D.len;have HC:=ax3 D;have H:∀x∈Z.flatten,0<=x/\x<=255:=fun x V=>by
  obtain⟨l,hl,V⟩:=List.mem_flatten.1 V;exact D.bytes l hl x V
 have ac:=ax3 H;clear D H;go_enter func12,ntmps12;go_wp2
 go_loopw [3,4] (fun v s4 wr=>∃i:Nat,i<=n/\s4=.int .i64 (i:Int)/\Hid (RowKit.Below w.heap.size w wr)/\ag6 wr w.heap.size v (Z.take i).flatten.length (Z.take i).flatten) (fun _ s _=>n-(intOf s).toNat)
 case atStart=>exact⟨0,axh _,rfl,axf _ _,ayy _ _ _ _⟩
 case round=>
  obtain⟨i,hi,rfl,X,Y⟩:=hrel
  by_cases a2:i<n
  ·
   have hd:decide ((i:Int)<(n:Int))=true:=by simp;omega
   obtain⟨bb,off,a',lx,cx,x,rfl,ad,a6,V,hX,ae⟩:=(HC.out.below X.out).at_ a2;obtain⟨C,g2⟩:=aoF V;have J:=hX.len;rw [J] at C;have i1:(0:Int)<=(i:Int):=by omega
   have i2:(i:Int)<(n:Int):=by omega
   obtain⟨k,o⟩:∃k:Nat,(Z.take i).flatten.length=k:=⟨_,rfl⟩;rw [o] at C Y;have HX:=ax3 V;have HK:=ax3 o;have a8:=ax3 C;have af:k+lx<=1000000000:=by omega
   have I:w.heap.size<=wr.heap.size:=X.out.size;clear V o C g2 J
   go_wp2_with (at_builtin;refine aba rfl _ _ 32 rfl ah4 w.heap.size 5 iU (.int .u8 0) 1 underlying32 h y z A rfl _ k _ rfl Y a' lx cx x rfl hX.1 (by unfold maxLen;omega) (by omega) I ?_;intro v' w5 U N ag)
   have a7:RowKit.Below w.heap.size w w5:=X.out.grown N I (fun j h=>(Y.lt j h).1)
   go_roundw
   case rel=>
    refine⟨i+1,by omega,by go_num,a7,?_⟩;unfold ag6;rw [a8.out,alf HX.out,ay7];exact U
   case measure=>simp [intOf];omega
  ·
   obtain rfl:n=i:=by omega
   have hd:decide ((n:Int)<(n:Int))=false:=by simp
   have aa:Hid ((Z.take n).flatten=Z.flatten):=by rw [Hid,axo (by rw [ab.out];exact axe _)]
   rw [aa.out] at Y;obtain⟨B,c1,rfl,hc,hs⟩:=afp Y ac.out;go_wp2;go_ret;exact⟨B,c1,rfl,hc,hs,X.out⟩
theorem abP {W:World}{b:Nat}{t:TypeId}{wk bl rg Y X Z fr:Int}(h:W.heap[b]?=some (.cells (ae4 wk bl rg Y X Z fr) t (0,0))) :
  W.cell? ⟨b,0,none⟩=some (.int .i64 wk)/\W.cell? ⟨b,1,none⟩=some (.int .i64 bl)/\W.cell? ⟨b,2,none⟩=some (.int .i64 rg)/\W.cell? ⟨b,3,none⟩=some (.int .i64 Y)/\W.cell? ⟨b,4,none⟩=some (.int .i64 X)/\W.cell? ⟨b,5,none⟩=some (.int .i64 Z)/\W.cell? ⟨b,6,none⟩=some (.int .i64 fr):=by
 simp [World.cell?,h]
theorem alJ:acs 3 3 2 2147483647=2147483647:=by
 have h:=ahp (L:=3) (B:=3) (S:=2) (by omega) (k0:=1) (by decide) 715827881;unfold acs;rw [show ((2147483647:Int) / 3).toNat=1+715827881 from by decide,h];rw [if_pos (by decide),show aoX 3 3 2 1=2 from by decide,show abF 2 (3-1+3)=3 from by decide];have Z:=aqw (L:=3) (B:=3) (by omega) (i:=1) (j:=1+715827881) (by omega) (by decide);rw [Z]
 decide
theorem Sl1.lits (w:World)(zs:List Int)(t:TypeId):Sl1 (Value.int .i64) (w.alloc (.cells (zs.map (Value.int .i64)).toArray t)) (some ⟨w.heap.size,0,none⟩) zs.length zs:=by
 refine⟨rfl,.inr ⟨w.heap.size,0,rfl,by simp,fun i x Z=>?_⟩⟩;have:=axg w (.cells (zs.map (Value.int .i64)).toArray t);unfold World.cell?;dsimp only;rw [this];simp [Z]
theorem awJ (w:World):Calls ZP 51 #[.int .i64 3,.slice (some ⟨w.heap.size,0,none⟩) 4 4] (w.alloc (.cells #[.int .i64 6,.int .i64 7,.int .i64 0,.int .i64 (-1)] 3)) fun e w'=>e=.returned (.int .i64 5)/\w.alloc (.cells #[.int .i64 6,.int .i64 7,.int .i64 0,.int .i64 (-1)] 3)=w':=by
 have h:=aew 3 (some ⟨w.heap.size,0,none⟩) 4 4 [6,7,0,-1] (w.alloc (.cells #[.int .i64 6,.int .i64 7,.int .i64 0,.int .i64 (-1)] 3)) (by omega) (by omega) (by simp) (Sl1.lits w [6,7,0,-1] 3)
 rwa [show als 3 [6,7,0,-1]=5 from by decide] at h
theorem awK (W:World)(b:Nat)(Z:W.cell? ⟨b,0,none⟩=some (.int .i64 6))(Y:b<W.heap.size):Calls ZP 51 #[.int .i64 0,.slice (some ⟨b,0,none⟩) 1 1] W fun e w'=>e=.returned (.int .i64 0)/\W=w':=by
 have h:=aew 0 (some ⟨b,0,none⟩) 1 1 [6] W (by omega) (by omega) (by simp) (Sl1.one Z Y)
 rwa [show als 0 [6]=0 from by decide] at h
theorem aha (w:World):Calls ZP 13 #[] w fun e w'=>e=.returned (.bool true)/\Below w.heap.size w w':=by
 go_enter func13,ntmps13
 go_wp2_with fail
 have v:Below w.heap.size w (w.alloc (.cells (ae4 2 3 2 1 1 2 0) 26)):=(axf _ _).alloc (axe _) _;have H:(w.alloc (.cells (ae4 2 3 2 1 1 2 0) 26)).heap[w.heap.size]?=some (.cells (ae4 2 3 2 1 1 2 0) 26 (0,0)):=axg _ _;refine (afx 2 3 2 1 1 2 0 3 6 _).mono ?_;rintro e w1 ⟨rfl,Z⟩;rw [(show atQ 2 3 2 1 1 2 0 3 6=5 from by decide),(show aty 2 3 2 1 1 2 0 3 6=0 from by decide)];have x:Below w.heap.size w w1:=v.trans (Z.mono v.size);have I:=(Z.block w.heap.size (awU.1 H).1).trans H;clear Z v H;obtain⟨c0,c1,c2,c3,c4,c5,Y⟩:=abP I
 go_wp2_with fail
 clear c0 c1 c2 c3 c4 c5 Y;refine (akz 2 3 2 1 1 2 0 3 6 2 3 _).mono ?_;rintro e w2 ⟨rfl,Z⟩;rw [(show atV 2 3 2 1 1 2 0 3 6 2 3=32 from by decide),(show atB 2 3 2 1 1 2 0 3 6 2 3=0 from by decide)];have y:Below w.heap.size w w2:=x.trans (Z.mono x.size);have J:=(Z.block w.heap.size (awU.1 I).1).trans I;clear Z x I;obtain⟨c0,c1,c2,c3,c4,c5,Y⟩:=abP J
 go_wp2_with fail
 clear c0 c1 c2 c3 c4 c5 Y;refine (agY 2 3 2 1 1 2 0 _).mono ?_;rintro e w3 ⟨rfl,Z⟩;rw [(show auA 2 3 2 1 1 2 0=9 from by decide),(show aux 2 3 2 1 1 2 0=0 from by decide)];have z:Below w.heap.size w w3:=y.trans (Z.mono y.size);have N:=(Z.block w.heap.size (awU.1 J).1).trans J;clear Z y J;obtain⟨c0,c1,c2,c3,c4,c5,Y⟩:=abP N
 go_wp2_with fail
 clear c0 c1 c2 c3 c4 c5 Y;refine (arN 2 3 2 1 1 2 0 3 _).mono ?_;rintro e w4 ⟨rfl,Z⟩;rw [(show avm 2 3 2 1 1 2 0 3=10 from by decide),(show avG 2 3 2 1 1 2 0 3=0 from by decide)];have A:Below w.heap.size w w4:=z.trans (Z.mono z.size);have U:=(Z.block w.heap.size (awU.1 N).1).trans N;clear Z z N;obtain⟨c0,c1,c2,c3,c4,c5,Y⟩:=abP U
 go_wp2_with fail
 clear c0 c1 c2 c3 c4 c5 Y;refine (akz 2 3 2 1 1 2 0 0 6 2 3 _).mono ?_;rintro e w5 ⟨rfl,Z⟩;rw [(show atV 2 3 2 1 1 2 0 0 6 2 3=0 from by decide),(show atB 2 3 2 1 1 2 0 0 6 2 3=2 from by decide)];have B:Below w.heap.size w w5:=A.trans (Z.mono A.size);have V:=(Z.block w.heap.size (awU.1 U).1).trans U;clear Z A U;obtain⟨c0,c1,c2,c3,c4,c5,Y⟩:=abP V
 go_wp2_with fail
 clear c0 c1 c2 c3 c4 c5 Y;refine (agY 0 0 0 0 0 0 0 _).mono ?_;rintro e h ⟨rfl,Z⟩;rw [(show auA 0 0 0 0 0 0 0=0 from by decide),(show aux 0 0 0 0 0 0 0=2 from by decide)];have C:Below w.heap.size w h:=B.trans (Z.mono B.size);have X:=(Z.block w.heap.size (awU.1 V).1).trans V;clear Z B V;obtain⟨c0,c1,c2,c3,c4,c5,Y⟩:=abP X
 go_wp2_with fail
 clear c0 c1 c2 c3 c4 c5 Y;refine (afx 2 3 2 1 1 2 0 3 2147483647 _).mono ?_;rintro e o ⟨rfl,Z⟩;rw [(show atQ 2 3 2 1 1 2 0 3 2147483647=2147483647 from by rw [atQ,if_pos (by decide),alJ]),(show aty 2 3 2 1 1 2 0 3 2147483647=0 from by decide)];have D:Below w.heap.size w o:=C.trans (Z.mono C.size);have s:=(Z.block w.heap.size (awU.1 X).1).trans X;clear Z C X;obtain⟨c0,c1,c2,c3,c4,c5,Y⟩:=abP s
 go_wp2_with fail
 clear c0 c1 c2 c3 c4 c5 Y;refine (awJ o).mono ?_;rintro e j ⟨rfl,rfl⟩
 go_wp2_with fail
 refine (awK _ _ ?_ ?_).mono ?_
 · simp
 · simp
 rintro e j ⟨rfl,rfl⟩;go_wp2;go_ret;exact⟨rfl,(D.alloc D.size _).alloc (by simp;have:=D.size;omega) _⟩
theorem apm (k:Nat):∀(l:List (List Int)),(∀x∈l,x.length<=k)->l.flatten.length<=l.length*k
 | [],_=>by simp
 | x :: l,h=>by
  have h1:=h x (by simp);have h2:=apm k l (fun y Z=>h y (ayM _ Z));simp only [List.flatten_cons,List.length_append,axU,Nat.add_mul,Nat.one_mul];omega
theorem anv {Z:List (List Int)}(h:aca Z=false):Z.length<=80/\(∀x∈Z,x.length<=3000)/\Z.flatten.length<=240000:=by
 obtain⟨h1,h2,_⟩:=arp h false;have h3:=apm 3000 Z h2;have h4:Z.length*3000<=80*3000:=azg _ h1;exact⟨h1,h2,by omega⟩
theorem agq {fold:Bool}{wss:List (List Int)}(Z:aan fold wss=true):(aa0 wss).length<=1000/\∀(node:Int),∀v∈ab2 wss node,I64 v:=by
 have h1:(aa0 wss).length<=400:=afO (ab6.2 ⟨abq Z,rfl,rfl⟩);obtain⟨V,_,X,_⟩:=aaH Z;exact⟨by omega,fun node=>alP (by omega) (abr Z).1 (fun x Y=>(X x Y).1) node⟩
def alq (fold:Bool)(a:Option Addr)(V J:Nat)(wk bl rg Y X Z fr:Int)(br:Bool)(b:Option Addr)(n N:Nat)(d:Option Addr)(m U:Nat):Array Value:=
 #[.bool fold,.slice a V J,.int .i64 wk,.int .i64 bl,.int .i64 rg,.int .i64 Y,.int .i64 X,.int .i64 Z,.int .i64 fr,.bool br,.slice b n N,.slice d m U]
def adu (fold:Bool)(wss:List (List Int))(wk bl rg X V Y fr:Int)(Z:List (List Int))(m:Nat):Bool:=!aca wss&&adk fold wss&&ac2 wk bl rg X V Y fr&&decide (Z.length<=20)&&!aca Z&&decide (Z.flatten.length<=60)&&decide (m<=12)
theorem ahm (fold:Bool)(a:Option Addr)(B ca:Nat)(wk bl rg I H J fr:Int)(br:Bool)(b:Option Addr)(n cb:Nat)(d:Option Addr)(m cd:Nat)(wss Z:List (List Int))(w:World)(hA:Wds w a B wss)(hB:Wds w b n Z) :
  Calls ZP 11 #[.agg (alq fold a B ca wk bl rg I H J fr br b n cb d m cd)] w fun e w'=>e=.returned (.bool (adu fold wss wk bl rg I H J fr Z m))/\Below w.heap.size w w':=by
 obtain⟨W,hW⟩:∃W,W=w.alloc (.cells (alq fold a B ca wk bl rg I H J fr br b n cb d m cd) 29):=⟨_,rfl⟩;have A:Below w.heap.size w W:=by rw [hW];exact (axf _ _).alloc (axe _) _
 have hO:Bx w.heap.size [.cells (alq fold a B ca wk bl rg I H J fr br b n cb d m cd) 29] W:=by rw [hW];exact (Bx.nil _ w).snoc _ rfl
 have HC:Hid (∀V,RowKit.Below W.heap.size W V->V.cell? ⟨w.heap.size,0,none⟩=some (.bool fold)/\V.cell? ⟨w.heap.size,1,none⟩=some (.slice a B ca)/\V.cell? ⟨w.heap.size,2,none⟩=some (.int .i64 wk)/\V.cell? ⟨w.heap.size,3,none⟩=some (.int .i64 bl)/\V.cell? ⟨w.heap.size,4,none⟩=some (.int .i64 rg)/\V.cell? ⟨w.heap.size,5,none⟩=some (.int .i64 I)/\V.cell? ⟨w.heap.size,6,none⟩=some (.int .i64 H)/\V.cell? ⟨w.heap.size,7,none⟩=some (.int .i64 J)/\V.cell? ⟨w.heap.size,8,none⟩=some (.int .i64 fr)/\V.cell? ⟨w.heap.size,10,none⟩=some (.slice b n cb)/\V.cell? ⟨w.heap.size,11,none⟩=some (.slice d m cd)):=fun V hV=>by
  have h:=hO.below hV;exact⟨h.cell (i:=0) rfl rfl,h.cell (i:=0) rfl rfl,h.cell (i:=0) rfl rfl,h.cell (i:=0) rfl rfl,h.cell (i:=0) rfl rfl,h.cell (i:=0) rfl rfl,h.cell (i:=0) rfl rfl,h.cell (i:=0) rfl rfl,h.cell (i:=0) rfl rfl,h.cell (i:=0) rfl rfl,h.cell (i:=0) rfl rfl⟩
 have hn:Z.length=n:=hB.len;have a6:=hA.below A;have a2:=hB.below A;unfold adu;rw [hn];have k1:Hid (Calls ZP 45 #[.agg (aaF fold a B ca)] W fun e w'=>e=.returned (.bool (aca wss))/\RowKit.Below W.heap.size W w'):=aoR fold a B ca wss W a6;have k2:Hid (aca wss=false->∀V,RowKit.Below W.heap.size W V->Calls ZP 46 #[.agg (aaF fold a B ca)] V fun e w'=>e=.returned (.bool (adk fold wss))/\RowKit.Below V.heap.size V w'):=fun hg V hV=>by
  obtain⟨b1,b2,_⟩:=arp hg fold;have hl:=hA.len;exact aoi fold a B ca wss V (a6.below hV) (by omega) (fun x hx=>awT (b2 x hx) (by omega))
 have k3:Hid (∀V,Calls ZP 25 #[.agg (ae4 wk bl rg I H J fr)] V fun e w'=>e=.returned (.bool (ac2 wk bl rg I H J fr))/\RowKit.Below V.heap.size V w'):=fun V=>am0 wk bl rg I H J fr V;have k4:Hid (∀V,RowKit.Below W.heap.size W V->Calls ZP 47 #[.slice b n cb] V fun e w'=>e=.returned (.bool (aca Z))/\V=w'):=fun V hV=>aix b n cb Z V (a2.below hV);have k5:Hid (aca Z=false->∀V,RowKit.Below W.heap.size W V->Calls ZP 12 #[.slice b n cb] V fun e w'=>∃(a1:Option Addr) (c1:Nat),e=.returned (.slice a1 Z.flatten.length c1)/\RowKit.Below V.heap.size V w'):=fun hg V hV=>by
  obtain⟨b1,b2,b3⟩:=anv hg;refine (aor b n cb Z V (a2.below hV) (by omega) (by omega)).mono ?_;rintro e w' ⟨a1,c1,h1,_,_,h2⟩;exact⟨a1,c1,h1,h2⟩
 obtain⟨G,hG⟩:∃G,aca wss=G:=⟨_,rfl⟩;obtain⟨R,hR⟩:∃G,adk fold wss=G:=⟨_,rfl⟩;obtain⟨C,hC⟩:∃G,ac2 wk bl rg I H J fr=G:=⟨_,rfl⟩;obtain⟨G3,ad⟩:∃G,aca Z=G:=⟨_,rfl⟩;obtain⟨N,hN⟩:∃G,Z.flatten.length=G:=⟨_,rfl⟩;obtain⟨D1,v⟩:∃D,decide (n<=20)=D:=⟨_,rfl⟩;obtain⟨D2,y⟩:∃D,decide (N<=60)=D:=⟨_,rfl⟩;obtain⟨D3,z⟩:∃D,decide (m<=12)=D:=⟨_,rfl⟩;rw [hG] at k1 k2 ⊢;rw [hR] at k2 ⊢;rw [hC] at k3 ⊢;rw [ad] at k4 k5 ⊢;rw [hN] at k5 ⊢;rw [v,y,z];have d1:decide ((n:Int)<=20)=D1:=by rw [<-v,decide_eq_decide];omega
 have d2:decide ((N:Int)<=60)=D2:=by rw [<-y,decide_eq_decide];omega
 have d3:decide ((m:Int)<=12)=D3:=by rw [<-z,decide_eq_decide];omega
 have U:=ax3 A;obtain⟨q0,q1,q2,q3,q4,q5,j,o,s,X,Y⟩:=HC.out W (axf _ _);clear hA hB hO A hn a6 a2 hG hR hC ad hN;go_enter func11,ntmps11;go_upto_region 1 with fail
 rw [<-hW];clear hW
 go_wp2_with fail
 refine k1.out.mono ?_;rintro e w1 ⟨rfl,ac⟩;have X1:=ax3 ac;clear q0 q1 q2 q3 q4 q5 j o s X Y k1 ac;obtain⟨q0,q1,q2,q3,q4,q5,j,o,s,X,Y⟩:=HC.out w1 X1.out
 cases G with
 | true=>
  go_wp2;go_ret;exact⟨rfl,U.out.trans (X1.out.mono U.out.size)⟩
 | false=>
  have a7:=k2.out rfl;have K2:=ax3 (a7 w1 X1.out);clear k2 a7
  go_wp2_with fail
  refine K2.out.mono ?_;rintro e w2 ⟨rfl,ab⟩;have X2:=ax3 (X1.out.trans (ab.mono X1.out.size));clear q0 q1 q2 q3 q4 q5 j o s X Y ab K2;obtain⟨q0,q1,q2,q3,q4,q5,j,o,s,X,Y⟩:=HC.out w2 X2.out
  cases R with
  | false=>
   go_wp2;go_ret;exact⟨rfl,U.out.trans (X2.out.mono U.out.size)⟩
  | true=>
   go_wp2_with fail
   refine (k3.out w2).mono ?_;rintro e w3 ⟨rfl,aa⟩;have X3:=ax3 (X2.out.trans (aa.mono X2.out.size));clear q0 q1 q2 q3 q4 q5 j o s X Y aa;obtain⟨q0,q1,q2,q3,q4,q5,j,o,s,X,Y⟩:=HC.out w3 X3.out
   cases C with
   | false=>
    go_wp2;go_ret;exact⟨rfl,U.out.trans (X3.out.mono U.out.size)⟩
   | true=>
    cases D1 with
    | false=>
     have e1:decide (n<=20)=false:=v;go_wp2;go_ret;exact⟨rfl,U.out.trans (X3.out.mono U.out.size)⟩
    | true=>
     have e1:decide (n<=20)=true:=v
     go_wp2_with fail
     refine (k4.out w3 X3.out).mono ?_;rintro e w4 ⟨rfl,rfl⟩
     cases G3 with
     | true=>
      go_wp2;go_ret;exact⟨rfl,U.out.trans (X3.out.mono U.out.size)⟩
     | false=>
      have K5:=ax3 (k5.out rfl w3 X3.out)
      go_wp2_with fail
      refine K5.out.mono ?_;rintro e w4 ⟨a1,c1,rfl,a8⟩;have X4:=ax3 (X3.out.trans (a8.mono X3.out.size));clear q0 q1 q2 q3 q4 q5 j o s X Y a8 K5 k5;obtain⟨q0,q1,q2,q3,q4,q5,j,o,s,X,Y⟩:=HC.out w4 X4.out
      cases D2 with
      | false=>
       have e2:decide (N<=60)=false:=y;go_wp2;go_ret;exact⟨rfl,U.out.trans (X4.out.mono U.out.size)⟩
      | true=>
       have e2:decide (N<=60)=true:=y
       cases D3 with
       | false=>
        have e3:decide (m<=12)=false:=z;go_wp2;go_ret;exact⟨rfl,U.out.trans (X4.out.mono U.out.size)⟩
       | true=>
        have e3:decide (m<=12)=true:=z;go_wp2;go_ret;exact⟨rfl,U.out.trans (X4.out.mono U.out.size)⟩
def aeq (l:List Int)(t:Nat):Int:=if l.length=0 then 0 else l.getD (t % l.length) 0
theorem alh (a:Option Addr)(n c:Nat)(l:List Int)(t:Nat)(w:World)(h:Sl1 (Value.int .i64) w a n l)(A:n<=1000000)(B:t<=1000000) :
  Calls ZP 18 #[.slice a n c,.int .i64 (t:Int)] w fun e w'=>e=.returned (.int .i64 (aeq l t))/\w=w':=by
 have C:l.length=n:=h.1;unfold aeq;rw [C]
 by_cases h0:n=0
 · subst h0;rw [if_pos rfl];go_enter func18,ntmps18;go_wp2;go_ret;exact⟨rfl,rfl⟩
 ·
  rw [if_neg h0];have H:t % n<n:=ay3 _ (by omega);obtain⟨r,X⟩:∃r,t % n=r:=⟨_,rfl⟩;rw [X] at H ⊢;obtain⟨b,o,e,D,J⟩:=h.2.resolve_left h0;subst e;have V:l[r]?=some (l.getD r 0):=by rw [ay5,ay4 (by omega)];rfl
  have Z:=J r _ V;obtain⟨x,Y⟩:∃x,l.getD r 0=x:=⟨_,rfl⟩;rw [Y] at Z ⊢;have I:((n:Int)==0)=false:=by simp [h0]
  have U:decide ((n:Int)=0)=false:=by simp [h0]
  have N:Int.tmod (t:Int) (n:Int)=(r:Int):=by rw [<-X];rfl
  clear X V Y J h;go_enter func18,ntmps18;go_wp2;go_ret;exact⟨rfl,rfl⟩
section
open Go.ChangeShapes Go.WideShapes Go.ChangeAt Go.RowKit Go.Joins Go.Deep
theorem amq:ZP.cellsOf 29=12:=by kernel_rfl
theorem alV:ZP.cellsOf 27=1:=by kernel_rfl
section
variable {H:Type}{enc:TypeId×Value->H}{W:World}{r:Reach}{base:Nat}{d:DataW H}{p:List MemPlace}{v:Value}
theorem alB {C:Nat}{v:Value}{x:DataW H×List MemPlace}(hf:DataW.trod enc ZP W 0 (fun _=>true) true C 27 [v]=some x) :
  ∃(a:Option Addr) (len cap:Nat) (zs:List Bool),v=.slice a len cap/\Sl1 Value.bool W a len zs/\len<=cap/\cap<=maxLen:=by
 rcases open_slice underlying27 hf with ⟨Z,_⟩ | ⟨x,l,c,m,n,D,Pl,Z,_,o,h,U,_,X⟩
 · simp at Z;exact⟨none,0,0,[],Z,⟨rfl,.inl rfl⟩,axe _,by unfold maxLen;omega⟩
 ·
  simp at Z;simp only [if_true] at U;subst U;rw [afn] at X;have Y:∀i,i<m->∃q:Bool,W.cell? ((x.add (i*1)).add 0)=some (.bool q):=by
   intro i z;obtain⟨s,B,j⟩:=X i z;obtain⟨_,N,y⟩:=World.cells?_some B
   match s,N with
   | [c0],_=>
    obtain⟨q,e,_⟩:=DataW.trod_bool underlying4 j;simp at e;exact⟨q,by rw [<-e];exact y 0 (by simp)⟩
  let f:Nat->Bool:=fun i=>if X:i<m then Classical.choose (Y i X) else false
  have I:∀i,i<m->W.cell? ((x.add (i*1)).add 0)=some (.bool (f i)):=by
   intro i X;have e:f i=Classical.choose (Y i X):=by simp only [f,dif_pos X]
   rw [e];exact Classical.choose_spec (Y i X)
  refine⟨some x,l,_,(List.range l).map f,Z,⟨by simp,?_⟩,o,h⟩
  by_cases h0:l=0
  · exact .inl h0
  ·
   right
   have a1:=o;obtain⟨b,off,V⟩:=x;have B:=I 0 (by omega);obtain rfl:V=none:=by simpa [Addr.add] using World.cell?_spot B
   refine⟨b,off,rfl,?_,fun i u A=>?_⟩
   ·
    have:=awQ W _ B
    rwa [aah,aah] at this
   · have J:=(awR.1 A).1;simp at J;have:=I i (by omega);rw [aah,aah,aya,ayc] at this;simp [J] at A;rw [this,A]
theorem apR {Y:Nat}{c0 c1:Value}{x:DataW H×List MemPlace}(h:DataW.trod enc ZP W 0 (fun _=>true) true Y 24 [c0,c1]=some x):∃(fold:Bool) (a:Option Addr) (len cap:Nat) (wss:List (List Int)),c0=.bool fold/\c1=.slice a len cap/\Wds W a len wss/\len<=cap/\cap<=maxLen:=by
 obtain⟨xs,n,_,_,_,Z,N⟩:=DataW.trod_struct underlying24 h;have U:xs.length=2:=Z;obtain⟨z,V⟩:∃y,xs[0]?=some y:=⟨xs[0]'(by omega),by simp⟩;obtain⟨A,X⟩:∃y,xs[1]?=some y:=⟨xs[1]'(by omega),by simp⟩;have h0:=N 0;simp only [pD,pE,pF,ayN,forall_eq',afn,V] at h0;obtain⟨b,J,_⟩:=DataW.trod_bool underlying4 h0;have h1:=N 1;simp only [pD,pE,pF,ayN,forall_eq',akK,X] at h1;simp [Value.cells] at J h1;obtain⟨a,len,cap,wss,B,I,C,D⟩:=ajP h1;exact⟨b,a,len,cap,wss,J,B,I,C,D⟩
theorem alN {U:Nat}{c0 c1 c2 c3 c4 c5 s:Value}{x:DataW H×List MemPlace}(h:DataW.trod enc ZP W 0 (fun _=>true) true U 26 [c0,c1,c2,c3,c4,c5,s]=some x):∃A B C D I J N:Int,c0=.int .i64 A/\c1=.int .i64 B/\c2=.int .i64 C/\c3=.int .i64 D/\c4=.int .i64 I/\c5=.int .i64 J/\s=.int .i64 N:=by
 obtain⟨xs,n,_,_,_,V,X⟩:=DataW.trod_struct underlying26 h;have z:xs.length=7:=V;have Z:∀i:Nat,i<7->∃m:Int,([c0,c1,c2,c3,c4,c5,s]:List Value)[i]?=some (.int .i64 m):=by
  intro i hi;obtain⟨y,Y⟩:∃y,xs[i]?=some y:=⟨xs[i]'(by omega),by simp⟩
  match i,hi with
  | 0,_=>have this:=X 0;simp only [pD,pE,pF,ayN,forall_eq',ach,Y] at this;obtain⟨m,e,_⟩:=DataW.trod_int underlying3 this;simp [Value.cells] at e;exact⟨m,by simp [e]⟩
  | 1,_=>have this:=X 1;simp only [pD,pE,pF,ayN,forall_eq',ach,Y] at this;obtain⟨m,e,_⟩:=DataW.trod_int underlying3 this;simp [Value.cells] at e;exact⟨m,by simp [e]⟩
  | 2,_=>have this:=X 2;simp only [pD,pE,pF,ayN,forall_eq',ach,Y] at this;obtain⟨m,e,_⟩:=DataW.trod_int underlying3 this;simp [Value.cells] at e;exact⟨m,by simp [e]⟩
  | 3,_=>have this:=X 3;simp only [pD,pE,pF,ayN,forall_eq',ach,Y] at this;obtain⟨m,e,_⟩:=DataW.trod_int underlying3 this;simp [Value.cells] at e;exact⟨m,by simp [e]⟩
  | 4,_=>have this:=X 4;simp only [pD,pE,pF,ayN,forall_eq',ach,Y] at this;obtain⟨m,e,_⟩:=DataW.trod_int underlying3 this;simp [Value.cells] at e;exact⟨m,by simp [e]⟩
  | 5,_=>have this:=X 5;simp only [pD,pE,pF,ayN,forall_eq',ach,Y] at this;obtain⟨m,e,_⟩:=DataW.trod_int underlying3 this;simp [Value.cells] at e;exact⟨m,by simp [e]⟩
  | 6,_=>have this:=X 6;simp only [pD,pE,pF,ayN,forall_eq',ach,Y] at this;obtain⟨m,e,_⟩:=DataW.trod_int underlying3 this;simp [Value.cells] at e;exact⟨m,by simp [e]⟩
 obtain⟨A,e0⟩:=Z 0 (by omega);obtain⟨B,e1⟩:=Z 1 (by omega);obtain⟨C,e2⟩:=Z 2 (by omega);obtain⟨D,e3⟩:=Z 3 (by omega);obtain⟨I,e4⟩:=Z 4 (by omega);obtain⟨J,j⟩:=Z 5 (by omega);obtain⟨N,o⟩:=Z 6 (by omega);simp at e0 e1 e2 e3 e4 j o;exact⟨A,B,C,D,I,J,N,e0,e1,e2,e3,e4,j,o⟩
theorem ao8 (hv:Value.okWide ZP W r base 29 v)(h:DataW.Trod enc ZP W 0 (fun _=>true) true 29 v d p) :
  ∃(fold:Bool) (a:Option Addr) (V o:Nat) (wk bl rg qu ou sl fr:Int) (br:Bool) (b:Option Addr) (n s:Nat) (e:Option Addr) (m x:Nat) (wss Z:List (List Int)) (ans:List Bool),v=.agg (alq fold a V o wk bl rg qu ou sl fr br b n s e m x)/\Wds W a V wss/\Wds W b n Z/\Sl1 Value.bool W e m ans:=by
 obtain⟨cs,rfl,C⟩:=okWide_struct underlying29 hv;obtain⟨l⟩:=cs
 match l,C.trans amq with
 | [c0,c1,c2,c3,c4,c5,c6,c7,c8,c9,c10,c11],_=>
  obtain⟨j,hf⟩:=h;obtain⟨xs,n,_,_,_,X,Y⟩:=DataW.trod_struct underlying29 hf;have B:xs.length=5:=X;obtain⟨y0,D⟩:∃y,xs[0]?=some y:=⟨xs[0]'(by omega),by simp⟩;obtain⟨y1,I⟩:∃y,xs[1]?=some y:=⟨xs[1]'(by omega),by simp⟩;obtain⟨y2,J⟩:∃y,xs[2]?=some y:=⟨xs[2]'(by omega),by simp⟩;obtain⟨y3,N⟩:∃y,xs[3]?=some y:=⟨xs[3]'(by omega),by simp⟩;obtain⟨y4,U⟩:∃y,xs[4]?=some y:=⟨xs[4]'(by omega),by simp⟩;have h0:=Y 0;simp only [pD,pE,pF,ayN,forall_eq',aqV,D] at h0;obtain⟨fold,a,V,o,wss,e0,e1,hA,_,_⟩:=apR h0;have h1:=Y 1;simp only [pD,pE,pF,ayN,forall_eq',aoA,I] at h1;obtain⟨m0,m1,m2,m3,m4,m5,m6,e2,e3,e4,e5,e6,e7,e8⟩:=alN h1;have h2:=Y 2;simp only [pD,pE,pF,ayN,forall_eq',afn,J] at h2;obtain⟨br,e9,_⟩:=DataW.trod_bool underlying4 h2;have h3:=Y 3;simp only [pD,pE,pF,ayN,forall_eq',akK,N] at h3;have h4:=Y 4;simp only [pD,pE,pF,ayN,forall_eq',alV,U] at h4;simp [Value.cells] at e9 h3 h4;obtain⟨b,nb,s,Z,z,hR,_,_⟩:=ajP h3;obtain⟨e,ne,x,ans,A,hD,_,_⟩:=alB h4;exact⟨fold,a,V,o,m0,m1,m2,m3,m4,m5,m6,br,b,nb,s,e,ne,x,wss,Z,ans,by rw [e0,e1,e2,e3,e4,e5,e6,e7,e8,e9,z,A];rfl,hA,hR,hD⟩
end
end
structure Chg (X:Nat->Prop)(w w':World):Prop where
 os:w'.os=w.os
 tape:w'.tape=w.tape
 output:w'.output=w.output
 size:w.heap.size<=w'.heap.size
 block:∀k,k<w.heap.size->¬X k->w'.heap[k]?=w.heap[k]?
section
variable {X Y:Nat->Prop}{a b c:World}
theorem Chg.refl (X:Nat->Prop)(w:World):Chg X w w:=⟨rfl,rfl,rfl,axe _,fun _ _ _=>rfl⟩
theorem Chg.of_below {B:Nat}(h:Below B a b)(N:∀k,B<=k->k<a.heap.size->X k):Chg X a b:=
 ⟨h.os,h.tape,h.output,h.size,fun k U V=>h.block k (Nat.lt_of_not_le fun Z=>V (N k Z U))⟩
theorem Chg.of_same (h:Below a.heap.size a b):Chg X a b:=.of_below h fun k h1 h2=>by omega
theorem Chg.mono (h:Chg X a b)(U:∀k,k<a.heap.size->X k->Y k):Chg Y a b:=⟨h.os,h.tape,h.output,h.size,fun k Z N=>h.block k Z fun V=>N (U k Z V)⟩
theorem Chg.trans (h:Chg X a b)(k:Chg Y b c)(N:∀i,i<a.heap.size->Y i->X i):Chg X a c:=
 ⟨k.os.trans h.os,k.tape.trans h.tape,k.output.trans h.output,awT h.size k.size,fun i Z V=>(k.block i (ax6 Z h.size) fun U=>V (N i Z U)).trans (h.block i Z V)⟩
theorem Chg.then (h:Chg X a b)(k:Chg X b c):Chg X a c:=h.trans k fun _ _ Z=>Z
theorem Chg.same (h:Chg X a b)(k:Below b.heap.size b c):Chg X a c:=h.then (.of_same k)
theorem Chg.grown {row:Option Nat}(h:Chg X a b)(k:b.grownBy c row)(U:∀g,row=some g->g<a.heap.size->X g):Chg X a c:=
 ⟨k.os.trans h.os,k.tape.trans h.tape,k.output.trans h.output,awT h.size k.size,fun i Z V=>(k.block i (ax6 Z h.size) fun e=>V (U i e.symm Z)).trans (h.block i Z V)⟩
theorem Chg.set (h:Chg X a b){g i:Nat}{v:Value}(Z:X g):Chg X a (b.setCell ⟨g,i,none⟩ v):=h.grown (aa9 b g i v) fun k e _=>by cases e;exact Z
theorem Chg.below {B:Nat}(h:Chg X a b)(U:B<=a.heap.size)(V:∀k,k<B->¬X k):Below B a b:=⟨h.os,h.tape,h.output,h.size,fun k Z=>h.block k (ax6 Z U) (V k Z)⟩
end
theorem acx {w:World}{base n size:Nat}{e:TypeId}{v:Value}{xs:List Value}(h:w.ownsRow base e size v n xs):∀k,v.ownBlock=some k->base<=k/\k<w.heap.size:=fun k Z=>by
 rcases h.2 with ⟨rfl,_⟩ | ⟨g,cap,N,rfl,U,V,_⟩
 · cases Z
 ·
  cases Z
  exact⟨U,(awU.1 V).1⟩
theorem agj {w:World}{base Z n size:Nat}{e:TypeId}{v:Value}{xs:List Value}(h:w.ownsRow base e size v n xs)(U:Z<=base):w.ownsRow Z e size v n xs:=
 ⟨h.1,h.2.imp id fun ⟨g,cap,V,h1,h2,r⟩=>⟨g,cap,V,h1,by omega,r⟩⟩
theorem aaX {W V:World}{base size n:Nat}{e:TypeId}{v:Value}{xs:List Value}(h:W.ownsRow base e size v n xs)(U:∀k,v.ownBlock=some k->V.heap[k]?=W.heap[k]?):V.ownsRow base e size v n xs:=by
 refine⟨h.1,h.2.imp id ?_⟩;rintro ⟨g,cap,Z,rfl,h1,h2,r⟩;exact⟨g,cap,Z,rfl,h1,(U g rfl).trans h2,r⟩
def afd (X:Nat->Prop)(w:World)(e:TypeId)(size:Nat)(v:Value)(n:Nat)(xs:List Value):Prop:=w.ownsRow 0 e size v n xs/\∀g,v.ownBlock=some g->X g
section
variable {X Y:Nat->Prop}{w w':World}{e:TypeId}{size n:Nat}{v:Value}{xs:List Value}
theorem afd.lt (h:afd X w e size v n xs):∀g,v.ownBlock=some g->g<w.heap.size:=fun g Z=>(acx h.1 g Z).2
theorem afd.keep (h:afd X w e size v n xs)(U:Chg Y w w')(V:∀g,v.ownBlock=some g->¬Y g):afd X w' e size v n xs:=
 ⟨aaX h.1 fun g Z=>U.block g (h.lt g Z) (V g Z),h.2⟩
theorem afd.wide (h:afd X w e size v n xs)(V:∀k,k<w.heap.size->X k->Y k):afd Y w e size v n xs:=⟨h.1,fun g Z=>V g (h.lt g Z) (h.2 g Z)⟩
theorem afd.nil (X:Nat->Prop)(w:World)(e:TypeId)(size:Nat):afd X w e size (.slice none 0 0) 0 []:=⟨ayy _ _ _ _,fun g Z=>by cases Z⟩
end
def ag7 (n:Int)(k:Nat):Nat:=((Int.tmod n k+k).tmod k).toNat
theorem as0 {n:Int}{k:Nat}(Y:k≠0):(Int.tmod n k+k).tmod k=(ag7 n k:Int)/\ag7 n k<k/\-(k:Int)<Int.tmod n k/\Int.tmod n k<k:=by
 have h1:-(k:Int)<Int.tmod n k/\Int.tmod n k<k:=by
  have Z:(0:Int)<k:=by omega
  have a:=Int.tmod_lt_of_pos n Z;have b:=Int.tmod_lt_of_pos (-n) Z;rw [Int.neg_tmod] at b;omega
 have h2:0<=(Int.tmod n k+k).tmod k:=Int.tmod_nonneg _ (by omega);have h3:(Int.tmod n k+k).tmod k<k:=Int.tmod_lt_of_pos _ (by omega);unfold ag7;refine⟨by omega,by omega,h1.1,h1.2⟩
theorem ai1 (n:Int)(a:Option Addr)(k c:Nat)(zs:List Int)(w:World)(Z:Sl1 (Value.int .i64) w a k zs)(D:k<=1000000) :
  Calls ZP 43 #[.int .i64 n,.slice a k c] w fun e w'=>e=.returned (.tuple (if k=0 then #[.int .i64 0,.bool false] else #[.int .i64 (zs.getD (ag7 n k) 0),.bool true]))/\w'=w:=by
 by_cases h0:k=0
 · subst h0;rw [if_pos rfl];go_enter func43,ntmps43;go_wp2;go_ret2;exact⟨rfl,rfl⟩
 ·
  rw [if_neg h0];obtain⟨h1,h2,h3,h4⟩:=as0 (n:=n) h0;obtain⟨b,off,rfl,H,U⟩:=Z.2.resolve_left h0;have X:zs[ag7 n k]?=some (zs.getD (ag7 n k) 0):=by
   rw [ay5,ay4 (by rw [Z.1];exact h2),ayr]
  have c0:=U _ _ X;obtain⟨z,Y⟩:∃z,zs.getD (ag7 n k) 0=z:=⟨_,rfl⟩;obtain⟨p,V⟩:∃p,ag7 n k=p:=⟨_,rfl⟩;rw [Y] at c0 ⊢;rw [V] at c0 h1 h2;have y:decide ((k:Int)=0)=false:=by simp;omega
  have A:((k:Int)==0)=false:=by simp;omega
  have B:decide (k=0)=false:=decide_eq_false h0;have C:IntKind.i64.wrap (Int.tmod n k+k)=Int.tmod n k+k:=by rw [ax2];omega
  have I:(0:Int)<=(p:Int):=by omega
  have J:(p:Int)<(k:Int):=by omega
  have N:=ax3 h0;clear U X Z Y V h3 h4;go_enter func43,ntmps43;go_wp2;go_ret2;exact⟨rfl,rfl⟩
theorem aaP {P:Program}{o:Oper}{a:Act}{Q:Exit->Act->World->Prop}{K:Act->World->Prop}{w w':World}{v V v':Value}(s x:Operand)(t:TypeId)(Z:o.guard=none)(y:Nat->Option Bool)(b:Prop)
  (ho:o.op=.call { callee:=.builtin .append,args:=#[s,x],argTypes:=#[t,t] }) (N:a.eval s=v) (U:a.eval x=V) (J:(Builtin.append_ #[t,t] o.type #[v,V]).run P w=.ok v' w') (h:K (a.put o.dst v') w'):if Region.wanted o y=true then Oper.wp P o a w K Q else b:=by
 rw [if_pos (by unfold Region.wanted;rw [Z])];unfold Oper.wp execOp;simp only [ho,resolve,invoke,builtin,awX,awY,Result.andThen_ok,awZ,ax0,ax1,N,U,J];exact h
structure afh (X:Nat->Prop)(K:Nat)(a:Option Addr)(n c:Nat)(tv:Value)(ans:List Bool)(tk:List aam)(off:Nat)(w:World):Prop where
 box:w.heap[K]?=some (.cells #[.slice a n c,tv,.int .i64 (off:Int)] 113 (0,0))
 inX:X K
 an:Sl1 Value.bool w a n ans
 anX:n≠0->∀q,a=some q->X q.block/\q.block≠K/\tv.ownBlock≠some q.block
 row:afd X w 116 2 tv tk.length (aad tk)
 tkK:tv.ownBlock≠some K
def ag9 (ans:List Bool)(off:Nat):Bool:=ans.isEmpty || ans.getD (off % ans.length) false
section
variable {X Y:Nat->Prop}{K n c off:Nat}{a:Option Addr}{tv:Value}{ans:List Bool}{tk:List aam}{w w':World}
theorem afh.keep (h:afh X K a n c tv ans tk off w)(Z:Chg Y w w')(U:∀k,k<w.heap.size->X k->¬Y k):afh X K a n c tv ans tk off w':=by
 have J:=(awU.1 h.box).1;refine⟨(Z.block K J (U K J h.inX)).trans h.box,h.inX,⟨h.an.1,?_⟩,h.anX,h.row.keep Z fun g N=>U g (h.row.lt g N) (h.row.2 g N),h.tkK⟩
 by_cases h0:n=0
 · exact .inl h0
 · obtain⟨b,o,e,V,I⟩:=h.an.2.resolve_left h0;refine .inr ⟨b,o,e,ax6 V Z.size,fun i x H=>?_⟩;have D:=Z.block b V (U b V (h.anX h0 _ e).1);rw [axp (a:=⟨b,o+i,none⟩) D];exact I i x H
theorem afh.wide (h:afh X K a n c tv ans tk off w)(Z:∀k,k<w.heap.size->X k->Y k):afh Y K a n c tv ans tk off w:=by
 refine⟨h.box,Z K (awU.1 h.box).1 h.inX,h.an,fun h0 q V=>?_,h.row.wide Z,h.tkK⟩;obtain⟨h1,h2,h3⟩:=h.anX h0 q V;obtain⟨b,o,e,U,_⟩:=h.an.2.resolve_left h0;rw [V] at e
 cases awV e
 exact⟨Z b U h1,h2,h3⟩
theorem afh.turn {Z:Value}{tk':List aam}{V:Nat}(h:afh X K a n c tv ans tk off w)(N:w.heap.size<=w'.heap.size)(y:w'.heap[K]?=some (.cells #[.slice a n c,Z,.int .i64 (V:Int)] 113 (0,0)))
  (ha:∀k,k<w.heap.size->k≠K->tv.ownBlock≠some k->w'.heap[k]?=w.heap[k]?) (B:afd Y w' 116 2 Z tk'.length (aad tk')) (v:Z.ownBlock≠some K) (z:∀g,Z.ownBlock=some g->tv.ownBlock=some g∨w.heap.size<=g)
  (D:∀k,k<w.heap.size->X k->Y k):afh Y K a n c Z ans tk' V w':=by
 have J:=(awU.1 h.box).1;refine⟨y,D K J h.inX,⟨h.an.1,?_⟩,fun h0 q H=>?_,B,v⟩
 ·
  by_cases h0:n=0
  · exact .inl h0
  · obtain⟨b,o,e,U,I⟩:=h.an.2.resolve_left h0;obtain⟨_,h2,h3⟩:=h.anX h0 _ e;refine .inr ⟨b,o,e,ax6 U N,fun i x A=>?_⟩;rw [axp (a:=⟨b,o+i,none⟩) (ha b U h2 h3)];exact I i x A
 ·
  obtain⟨b,o,e,U,I⟩:=h.an.2.resolve_left h0;obtain⟨h1,h2,h3⟩:=h.anX h0 q H;rw [H] at e
  cases awV e
  refine⟨D b U h1,h2,fun s=>?_⟩
  rcases z b s with C | C
  · exact h3 C
  · omega
end
section
variable {X:Nat->Prop}{K n c off m c1:Nat}{a a1:Option Addr}{tv:Value}{ans:List Bool}{tk:List aam}{w w':World}
theorem afh.count (h:afh X K a n c tv ans tk off w):afh X K a n c tv ans tk (off+1) (w.setCell ⟨K,2,none⟩ (.int .i64 ((off+1:Nat):Int))):=by
 have Z:∀k,k≠K->(w.setCell ⟨K,2,none⟩ (.int .i64 ((off+1:Nat):Int))).heap[k]?=w.heap[k]?:=fun k Z=>axn w ⟨K,2,none⟩ _ k Z;refine h.turn (by simp [World.setCell]) (aa4 (i:=2) h.box _) (fun k _ V _=>Z k V) ⟨aaX h.row.1 fun g U=>Z g (fun e=>h.tkK (by rw [<-e];exact U)),h.row.2⟩ h.tkK (fun g U=>.inl U) fun _ _ N=>N
theorem afh.app (h:afh X K a n c (.slice a1 m c1) ans tk off w)(q:aam){V:Value}{U:World}(ho:U.ownsRow 0 116 2 V (tk.length+1) (aad tk++[.int .i64 q.1,.int .i64 q.2]))(v:(w.alloc (.cells #[.int .i64 q.1,.int .i64 q.2] 116)).grownBy U (Value.slice a1 m c1).ownBlock)
  (s:V.ownBlock=(Value.slice a1 m c1).ownBlock∨V.ownBlock=some (w.alloc (.cells #[.int .i64 q.1,.int .i64 q.2] 116)).heap.size) :
  U.frozen? ⟨K,1,none⟩=false/\afh (fun k=>X k∨w.heap.size<=k) K a n c V ans (tk++[q]) off (U.setCell ⟨K,1,none⟩ V)/\Chg X w (U.setCell ⟨K,1,none⟩ V):=by
 have o:=(awU.1 h.box).1;have z:=aa1 w (.cells #[.int .i64 q.1,.int .i64 q.2] 116);have y:(w.alloc (.cells #[.int .i64 q.1,.int .i64 q.2] 116)).heap.size=w.heap.size+1:=by simp
 have a2:=v.size;have Z:∀k,k<w.heap.size->(Value.slice a1 m c1).ownBlock≠some k->U.heap[k]?=w.heap[k]?:=fun k B H=>(v.block k (by omega) (fun e=>H e.symm)).trans (z.block k B);have A:U.heap[K]?=some (.cells #[.slice a n c,.slice a1 m c1,.int .i64 (off:Int)] 113 (0,0)):=(Z K o h.tkK).trans h.box;have I:∀g,V.ownBlock=some g->(Value.slice a1 m c1).ownBlock=some g∨w.heap.size<=g:=fun g e=>by
  rcases s with C | C
  · rw [C] at e;exact .inl e
  ·
   rw [C,y] at e;have:=awV e
   right
   omega
 have N:V.ownBlock≠some K:=fun e=>by
  rcases I K e with C | C
  · exact h.tkK C
  · omega
 have J:∀k,k≠K->(U.setCell ⟨K,1,none⟩ V).heap[k]?=U.heap[k]?:=fun k B=>axn U ⟨K,1,none⟩ _ k B;refine⟨by simp [World.frozen?,A],?_,?_⟩
 ·
  refine h.turn (by simp [World.setCell];omega) (aa4 (i:=1) A V) (fun k B x H=>(J k x).trans (Z k B H)) ⟨?_,fun g D=>?_⟩ N I (fun k _ j=>.inl j)
  ·
   have e1:aad (tk++[q])=aad tk++[.int .i64 q.1,.int .i64 q.2]:=by simp [aad,au0]
   rw [e1,List.length_append];exact aaX ho fun g D=>J g fun e=>N (by rw [<-e];exact D)
  ·
   rcases I g D with e | e
   · exact .inl (h.row.2 g e)
   · exact .inr e
 · refine ((Chg.of_same z).grown v fun g e _=>h.row.2 g e).set h.inX
theorem ajc (w:World)(q:aam):SlK 2 (w.alloc (.cells #[.int .i64 q.1,.int .i64 q.2] 116)) (some ⟨w.heap.size,0,none⟩) 1 [.int .i64 q.1,.int .i64 q.2]:=by
 have Z:(w.alloc (.cells #[.int .i64 q.1,.int .i64 q.2] 116)).heap[w.heap.size]?=some (.cells #[.int .i64 q.1,.int .i64 q.2] 116 (0,0)):=axg _ _;refine⟨rfl,.inr ⟨_,0,rfl,by simp,fun i u V=>?_⟩⟩;have e:(w.alloc (.cells #[.int .i64 q.1,.int .i64 q.2] 116)).cell? ⟨w.heap.size,0+i,none⟩=(#[Value.int .i64 q.1,.int .i64 q.2]:Array Value)[0+i]?:=by simp only [World.cell?,Z];simp
 rw [e,axz];show (List.toArray [Value.int .i64 q.1,.int .i64 q.2])[i]?=some u;rw [ax9];exact V
end
theorem aiC {X:Nat->Prop}{K n c off:Nat}{a:Option Addr}{tv:Value}{ans:List Bool}{tk:List aam}(w:World)(h:afh X K a n c tv ans tk off w)(ho:off<=4611686018427387904) :
  Calls ZP 250 #[.pointer (some ⟨K,0,none⟩),.int .i64 (off:Int)] w fun e w'=>e=.returned (.bool (ag9 ans off))/\Below w.heap.size w w':=by
 have c0:w.cell? ⟨K,0,none⟩=some (.slice a n c):=by simp [World.cell?,h.box]
 have D:=ax3 (fun q=>aa2 w q)
 by_cases h0:n=0
 ·
  have V:ag9 ans off=true:=by
   have:ans=[]:=ayx.1 (by rw [h.an.1,h0]);rw [this];rfl
  have z:decide ((n:Int)=0)=true:=by simp;omega
  have A:((n:Int)==0)=true:=by simp;omega
  rw [V];clear h V h0;go_enter func250,ntmps250;go_upto_region 1 with fail
  go_big_quiet (fail)
  go_wp2;go_ret;exact⟨rfl,D.out _⟩
 ·
  obtain⟨b,o,rfl,s,I⟩:=h.an.2.resolve_left h0;have Z:=h.an.1;have J:off % n<n:=ay3 _ (by omega);obtain⟨y,U⟩:∃y,ans[off % n]?=some y:=⟨ans[off % n]'(by omega),ay4 _⟩;have C:=I _ _ U;have V:ag9 ans off=y:=by
   unfold ag9;have N:ans.isEmpty=false:=by cases ans with | nil=>exact absurd Z.symm h0 | cons _ _=>rfl
   rw [N,Z,ay5,U]
   rfl
  rw [V];have z:decide ((n:Int)=0)=false:=by simp;omega
  have A:((n:Int)==0)=false:=by simp;omega
  have B:(off:Int).tmod (n:Int)=((off % n:Nat):Int):=by rw [ay2 (by omega)];simp
  obtain⟨p,H⟩:∃p,off % n=p:=⟨_,rfl⟩;rw [H] at B J C;have v:(0:Int)<=(p:Int):=by omega
  have x:(p:Int)<(n:Int):=by omega
  clear h V h0 I U H Z;go_enter func250,ntmps250;go_upto_region 1 with fail
  go_big_quiet (fail)
  go_wp2;go_ret;exact⟨rfl,D.out _⟩
theorem akZ {X:Nat->Prop}{K n c off:Nat}{a:Option Addr}{tv:Value}{ans:List Bool}{tk:List aam}(h:aam)(w:World)(hS:afh X K a n c tv ans tk off w)(ho:off<=1000000)(ht:tk.length<=1000000) :
  Calls ZP 209 #[.pointer (some ⟨K,0,none⟩),.agg #[.int .i64 h.1,.int .i64 h.2]] w fun e w'=>e=.returned (.bool (ag9 ans off))/\(∃ap,afh (fun k=>X k∨w.heap.size<=k) K a n c ap ans (if ag9 ans off then tk++[h] else tk) (off+1) w')/\Chg X w w':=by
 obtain⟨W,hW⟩:∃W,W=w.alloc (.cells #[.int .i64 h.1,.int .i64 h.2] 116):=⟨_,rfl⟩;have hB:Below w.heap.size w W:=by rw [hW];exact aa1 _ _
 have hO:Bx w.heap.size [.cells #[.int .i64 h.1,.int .i64 h.2] 116] W:=by rw [hW];exact (Bx.nil _ w).snoc _ rfl
 have az:W.heap.size=w.heap.size+1:=by rw [hW];simp
 have aA:=(awU.1 hS.box).1;have o:∀V,Below W.heap.size W V->afh X K a n c tv ans tk off V:=fun V hV=>hS.keep (Y:=fun _=>False) (.of_same (hB.trans (hV.mono hB.size))) fun _ _ _ h=>h;have ae:∀d os,Calls ZP 250 #[.pointer (some ⟨K,0,none⟩),.int .i64 (off:Int)] (grow (redrawn W d) os) fun e w'=>e=.returned (.bool (ag9 ans off))/\RowKit.Below (grow (redrawn W d) os).heap.size (grow (redrawn W d) os) w':=fun d os=>aiC _ (o _ (below_regrown W d os)) (by omega);have ax:=ax3 o;have k2:∀d os,(grow (redrawn W d) os).cell? ⟨K,2,none⟩=some (.int .i64 (off:Int)):=cell_regrown (by have:=(o W (axf _ _)).box;simp [World.cell?,this]);have ay:IntKind.i64.wrap ((off:Int)+1)=(off:Int)+1:=by rw [ax2];omega
 obtain⟨Y,hY⟩:∃y,ag9 ans off=y:=⟨_,rfl⟩;rw [hY] at ae ⊢;have HO:=ax3 hO;have HB:=ax3 hB;have HS:=ax3 hS;clear hS hB hO o hY;go_enter func209,ntmps209;go_upto_region 3 with fail
 rw [<-hW];clear hW;refine wp_region_quiet_below mixed (by kernel_rfl) ?_
 repeat (go_big_quiet_step (exact aax (ae _ _)))
 refine wpQuiet_nil ?_;rintro _ ⟨⟨dq,af⟩,rfl⟩;have C:=below_regrown W dq af;obtain⟨V,hV⟩:∃V,V=grow (redrawn W dq) af:=⟨_,rfl⟩;rw [<-hV] at C ⊢;clear hV ae k2;have j:=ax.out V C;have ag:Below w.heap.size w V:=HB.out.trans (C.mono HB.out.size);have c2:V.cell? ⟨K,2,none⟩=some (.int .i64 (off:Int)):=by simp [World.cell?,j.box]
 have f2:V.frozen? ⟨K,2,none⟩=false:=by simp [World.frozen?,j.box]
 have ak:=HO.out.below C;obtain⟨J,N⟩:∃U,U=V.setCell ⟨K,2,none⟩ (.int .i64 ((off:Int)+1)):=⟨_,rfl⟩;have aj:afh X K a n c tv ans tk (off+1) J:=by rw [N,show (off:Int)+1=((off+1:Nat):Int) by omega];exact j.count
 have am:Chg X w J:=by rw [N];exact (Chg.of_same ag).set HS.out.inX
 have al:∀i v,(#[Value.int .i64 h.1,.int .i64 h.2]:Array Value)[i]?=some v->J.cell? ⟨w.heap.size,i,none⟩=some v:=fun i v hv=>by
  have aw:=(awU.1 HS.out.box).1;have e:J.heap[w.heap.size]?=V.heap[w.heap.size]?:=by rw [N];exact axn V ⟨K,2,none⟩ _ _ (by show w.heap.size≠K;omega)
  have h1:=ak 0 _ rfl;rw [ayc] at h1;simp only [World.cell?,e,h1];exact hv
 have a7:=ax3 aj;have x:=ax3 am;have ao:=ax3 al;clear j ak ag C aj am al
 cases Y with
 | false=>
  go_upto_region 5 with fail
  rw [<-N];clear N;go_wp2;go_ret;exact⟨rfl,⟨tv,a7.out.wide fun _ _ hx=>.inl hx⟩,x.out⟩
 | true=>
  go_upto_region 6 with fail
  rw [<-N];clear N c2 f2;obtain⟨a1,c1,rfl,_,_⟩:=SlK.own a7.out.row.1;obtain⟨i0,hi,au,ar,aq⟩:=info_parts adc;have aB:J.cell? ⟨K,1,none⟩=some (.slice a1 tk.length c1):=by simp [World.cell?,a7.out.box]
  have x0:J.cell? ⟨w.heap.size,0,none⟩=some (.int .i64 h.1):=ao.out 0 _ rfl;have x1:J.cell? ⟨w.heap.size,1,none⟩=some (.int .i64 h.2):=ao.out 1 _ rfl;obtain⟨D,hD⟩:∃D,D=J.drew:=⟨_,rfl⟩;have I:Below J.heap.size J D:=by rw [hD];exact aa2 J 1
  have z:afh X K a n c (.slice a1 tk.length c1) ans tk (off+1) D:=a7.out.keep (Y:=fun _=>False) (.of_same I) fun _ _ _ h=>h;have H:=aag z.row.1 (aa1 D (.cells #[.int .i64 h.1,.int .i64 h.2] 116));have aa:=ajc D h;obtain⟨v1,W1,hr,ac,s,ab⟩:=aaq (P:=ZP) (D.alloc (.cells #[.int .i64 h.1,.int .i64 h.2] 116)) 0 69 69 116 i0 (.agg #[.int .i64 0,.int .i64 0]) 2 16 underlying69 hi au ar aq rfl (by decide) (.slice a1 tk.length c1) tk.length (aad tk) H (some ⟨D.heap.size,0,none⟩) 1 1 [.int .i64 h.1,.int .i64 h.2] aa (by simp [Value.oneCell']) (by unfold maxLen;omega) (by omega) (axh _);obtain⟨a2,c2,av,_,_⟩:=SlK.own ac;subst av;obtain⟨g1,g2,g3⟩:=z.app h ac s ab;have G2:=ax3 g2;have G3:=ax3 g3;have aw:=(awU.1 HS.out.box).1;have ah:w.heap.size<D.heap.size:=by have h1:=awQ J (a:=⟨w.heap.size,0,none⟩) x0;exact ax6 h1 I.size
  have ai:(Value.slice a1 tk.length c1).ownBlock≠some w.heap.size:=fun e=>by have:=HS.out.row.lt _ e;omega
  have B:∀i v,D.cell? ⟨w.heap.size,i,none⟩=some v->(D.alloc (.cells #[.int .i64 h.1,.int .i64 h.2] 116)).cell? ⟨w.heap.size,i,none⟩=some v:=fun i v hv=>((aa1 D _).cell (p:=⟨w.heap.size,i,none⟩) ah).trans hv;have A:∀i v,D.cell? ⟨w.heap.size,i,none⟩=some v->W1.cell? ⟨w.heap.size,i,none⟩=some v:=fun i v hv=>by
   have e:W1.heap[w.heap.size]?=D.heap[w.heap.size]?:=(s.block _ (by simp;omega) (fun e=>ai e.symm)).trans ((aa1 D _).block _ ah);rw [axp (a:=⟨w.heap.size,i,none⟩) e];exact hv
  have y0:D.cell? ⟨w.heap.size,0,none⟩=some (.int .i64 h.1):=(I.cell (p:=⟨w.heap.size,0,none⟩) (awQ J _ x0)).trans x0;have y1:D.cell? ⟨w.heap.size,1,none⟩=some (.int .i64 h.2):=(I.cell (p:=⟨w.heap.size,1,none⟩) (awQ J _ x1)).trans x1;have ad:=ax3 (And.intro (B 0 _ y0) (B 1 _ y1));have e1:∀i v,W1.cell? ⟨w.heap.size,i,none⟩=some v->(W1.setCell ⟨K,1,none⟩ (.slice a2 (tk.length+1) c2)).cell? ⟨w.heap.size,i,none⟩=some v:=fun i v hv=>by
   have e:(W1.setCell ⟨K,1,none⟩ (.slice a2 (tk.length+1) c2)).heap[w.heap.size]?=W1.heap[w.heap.size]?:=axn W1 ⟨K,1,none⟩ _ _ (by show w.heap.size≠K;omega);rw [axp (a:=⟨w.heap.size,i,none⟩) e];exact hv
  have a6:=ax3 (And.intro (And.intro (A 0 _ y0) (A 1 _ y1)) (And.intro (e1 0 _ (A 0 _ y0)) (e1 1 _ (A 1 _ y1))));have z1:D.cell? ⟨K,1,none⟩=some (.slice a1 tk.length c1):=by simp [World.cell?,z.box]
  have z2:(D.alloc (.cells #[.int .i64 h.1,.int .i64 h.2] 116)).cell? ⟨K,1,none⟩=some (.slice a1 tk.length c1):=((aa1 D _).cell (p:=⟨K,1,none⟩) (awQ D _ z1)).trans z1;have z3:∃u,W1.cell? ⟨K,1,none⟩=some u:=by
   have e:W1.heap[K]?=D.heap[K]?:=(s.block _ (by have:=awQ D _ z1;simp;exact Nat.lt_succ_of_lt this) (fun e=>z.tkK e.symm)).trans ((aa1 D _).block _ (awQ D _ z1));exact⟨_,(axp (a:=⟨K,1,none⟩) e).trans z1⟩
  obtain⟨u3,z3⟩:=z3;have HR:=ax3 hr;have a8:=ax3 I;clear g2 g3 ac s ab H aa z hr B A e1 I ai;refine wp_region_noPanic ?_;refine wp_region_held_drew (S:=fun Y=>Y.cell? ⟨w.heap.size,0,none⟩=some (.int .i64 h.1)/\Y.cell? ⟨w.heap.size,1,none⟩=some (.int .i64 h.2)) (by kernel_rfl) ⟨x0,x1⟩ (fun hHeld=>?_);rw [<-hD] at hHeld ⊢;clear hD;refine tkA 0 ?_;refine tkA 1 ?_;refine tkA 2 ?_;refine tkA 3 ?_;refine tkW 5 (v:=?_) ?_ ?_;rotate_left
  ·
   intro V hV;obtain⟨q0,q1⟩:=hV
   first | (go_simp;done) | (go_simp;with_reducible rfl)
  try simp only [Act.put,pA,pB,pC]
  refine awN 4 6 (fun K Z=>?_) (fun K Z=>?_)
  ·
   go_simp;refine Z.out _ _ hHeld (fun h4=>?_);clear Z K
   try simp only [Act.put,pA,pB,pC]
   refine rdy 6 (fun K Z=>?_);go_simp;refine Z.out _ _ (ad.out) (fun h6=>?_);clear Z K
   try simp only [Act.put,pA,pB,pC]
   refine rdy 7 (fun K Z=>?_);refine aaP (.tmp 28) (.tmp 30) 69 rfl _ _ rfl rfl rfl HR.out ?_;refine Z.out _ _ a6.out.1 (fun h7=>?_);clear Z K
   try simp only [Act.put,pA,pB,pC]
   refine tkA 8 ?_;refine tkA 9 ?_;refine rdy 10 (fun K Z=>?_);go_simp;refine Z.out _ _ a6.out.2 (fun h10=>?_);clear Z K
   try simp only [Act.put,pA,pB,pC]
   refine wpAnyH_done (by kernel_rfl) ?_ _;refine ax4 ?_;go_wp2;go_ret;exact⟨rfl,⟨(.slice a2 (tk.length+1) c2),(G2.out).wide fun k _ hx=>hx.elim .inl fun h2=>.inr (awT (awT x.out.size a8.out.size) h2)⟩,(x.out.same a8.out).then G3.out⟩
  ·
   go_simp;refine Z.out _ _ ad.out (fun h6=>?_);clear Z K
   try simp only [Act.put,pA,pB,pC]
   refine rdy 4 (fun K Z=>?_);go_simp;refine Z.out _ _ ad.out (fun h4=>?_);clear Z K
   try simp only [Act.put,pA,pB,pC]
   refine rdy 7 (fun K Z=>?_);refine aaP (.tmp 28) (.tmp 30) 69 rfl _ _ rfl rfl rfl HR.out ?_;refine Z.out _ _ a6.out.1 (fun h7=>?_);clear Z K
   try simp only [Act.put,pA,pB,pC]
   refine tkA 8 ?_;refine tkA 9 ?_;refine rdy 10 (fun K Z=>?_);go_simp;refine Z.out _ _ a6.out.2 (fun h10=>?_);clear Z K
   try simp only [Act.put,pA,pB,pC]
   refine wpAnyH_done (by kernel_rfl) ?_ _;refine ax4 ?_;go_wp2;go_ret;exact⟨rfl,⟨(.slice a2 (tk.length+1) c2),(G2.out).wide fun k _ hx=>hx.elim .inl fun h2=>.inr (awT (awT x.out.size a8.out.size) h2)⟩,(x.out.same a8.out).then G3.out⟩
theorem aoQ:(ZP.info? 4).map (fun i=>(i.zero,i.size,i.bytes))=some (some (.bool false),1,1):=by kernel_rfl
theorem anH {α:Type}{enc:α->Value}{w:World}{a:Option Addr}{n:Nat}{xs:List α}(h:Sl1 enc w a n xs):SlK 1 w a n (xs.map enc):=by
 refine⟨by rw [ayq,h.1,aya],h.2.imp id ?_⟩;rintro ⟨b,off,e,X,V⟩;refine⟨b,off,e,X,fun i u Z=>?_⟩;rw [axa] at Z;obtain⟨x,Y,rfl⟩:=ayw.1 Z;exact V i x Y
theorem ai3 (a:Option Addr)(n c:Nat)(cs:List Value)(w:World)(H:SlK 1 w a n cs)(Z:∀u∈cs,u.oneCell'=true)(hn:n<=1000000) :
  Calls ZP 104 #[.slice a n c] w fun e w'=>∃v,e=.returned v/\w'.ownsRow w.heap.size 5 1 v n cs/\Below w.heap.size w w':=by
 go_enter func104,ntmps104;go_upto_region 1 with fail
 have s:ZP.underlying 32=some (.slice 5):=underlying32;have z:=Lib.run_eql_slice_nil (P:=ZP) w 32 5 a n c 0 0 s
 cases a with
 | none=>
  have h0:n=0:=by
   rcases H.2 with h | ⟨b,off,e,_⟩
   · exact h
   · cases e
  subst h0;have hl:cs=[]:=ayx.1 (by rw [H.1,Nat.zero_mul]);subst hl;clear H hn;simp only [Option.isNone] at z;go_wp2;go_ret;exact⟨_,rfl,ayy _ _ _ _,axf _ _⟩
 | some p=>
  have HH:=ax3 H;have D:=ax3 Z;clear H Z;simp only [Option.isNone] at z;go_upto_region 3 with fail
  clear z;obtain⟨i0,hi,A,B,C⟩:=info_parts acy;have X:(w.alloc (.cells #[] 5)).ownsRow w.heap.size 5 1 (.slice (some ⟨w.heap.size,0,none⟩) 0 0) 0 []:=⟨rfl,.inr ⟨w.heap.size,0,#[],rfl,axe _,axg w _,axh _,axh _,rfl,by simp⟩⟩;have Y:=aa1 w (.cells #[] 5);have U:=HH.out.below Y;have Z:∀u∈cs,u.oneCell'=true:=D.out;have V:w.heap.size<=(w.alloc (.cells #[] 5)).heap.size:=by simp
  go_wp2_with (at_builtin;refine abb rfl _ _ 32 rfl w.heap.size 5 i0 (.int .u8 0) 1 1 s hi A B C rfl (by decide) (.slice (some ⟨w.heap.size,0,none⟩) 0 0) 0 [] rfl X (some p) n c cs rfl U Z (by unfold maxLen;omega) (by omega) V ?_;intro o W1 N J I;have y:=ax3 N;have x:=ax3 J;clear N J I X U Z)
  go_ret;refine⟨o,rfl,?_,(Y).grown x.out Y.size (fun j e=>by injection e with e;exact axL e)⟩;have:=y.out;rw [axz,ay0] at this;exact this
theorem ap7 (a:Option Addr)(n c:Nat)(cs:List Value)(w:World)(H:SlK 1 w a n cs)(Z:∀u∈cs,u.oneCell'=true)(hn:n<=1000000) :
  Calls ZP 238 #[.slice a n c] w fun e w'=>∃v,e=.returned v/\w'.ownsRow w.heap.size 5 1 v n cs/\Below w.heap.size w w':=by
 go_enter func238,ntmps238;go_upto_region 1 with fail
 have s:ZP.underlying 32=some (.slice 5):=underlying32;have z:=Lib.run_eql_slice_nil (P:=ZP) w 32 5 a n c 0 0 s
 cases a with
 | none=>
  have h0:n=0:=by
   rcases H.2 with h | ⟨b,off,e,_⟩
   · exact h
   · cases e
  subst h0;have hl:cs=[]:=ayx.1 (by rw [H.1,Nat.zero_mul]);subst hl;clear H hn;simp only [Option.isNone] at z;go_wp2;go_ret;exact⟨_,rfl,ayy _ _ _ _,axf _ _⟩
 | some p=>
  have HH:=ax3 H;have D:=ax3 Z;clear H Z;simp only [Option.isNone] at z;go_upto_region 3 with fail
  clear z;obtain⟨i0,hi,A,B,C⟩:=info_parts acy;have X:(w.alloc (.cells #[] 5)).ownsRow w.heap.size 5 1 (.slice (some ⟨w.heap.size,0,none⟩) 0 0) 0 []:=⟨rfl,.inr ⟨w.heap.size,0,#[],rfl,axe _,axg w _,axh _,axh _,rfl,by simp⟩⟩;have Y:=aa1 w (.cells #[] 5);have U:=HH.out.below Y;have Z:∀u∈cs,u.oneCell'=true:=D.out;have V:w.heap.size<=(w.alloc (.cells #[] 5)).heap.size:=by simp
  go_wp2_with (at_builtin;refine abb rfl _ _ 32 rfl w.heap.size 5 i0 (.int .u8 0) 1 1 s hi A B C rfl (by decide) (.slice (some ⟨w.heap.size,0,none⟩) 0 0) 0 [] rfl X (some p) n c cs rfl U Z (by unfold maxLen;omega) (by omega) V ?_;intro o W1 N J I;have y:=ax3 N;have x:=ax3 J;clear N J I X U Z)
  go_ret;refine⟨o,rfl,?_,(Y).grown x.out Y.size (fun j e=>by injection e with e;exact axL e)⟩;have:=y.out;rw [axz,ay0] at this;exact this
theorem ao2 (a:Option Addr)(n c:Nat)(cs:List Value)(w:World)(H:SlK 1 w a n cs)(Z:∀u∈cs,u.oneCell'=true)(hn:n<=1000000) :
  Calls ZP 94 #[.slice a n c] w fun e w'=>∃v,e=.returned v/\w'.ownsRow w.heap.size 4 1 v n cs/\Below w.heap.size w w':=by
 go_enter func94,ntmps94;go_upto_region 1 with fail
 have s:ZP.underlying 27=some (.slice 4):=underlying27;have z:=Lib.run_eql_slice_nil (P:=ZP) w 27 4 a n c 0 0 s
 cases a with
 | none=>
  have h0:n=0:=by
   rcases H.2 with h | ⟨b,off,e,_⟩
   · exact h
   · cases e
  subst h0;have hl:cs=[]:=ayx.1 (by rw [H.1,Nat.zero_mul]);subst hl;clear H hn;simp only [Option.isNone] at z;go_wp2;go_ret;exact⟨_,rfl,ayy _ _ _ _,axf _ _⟩
 | some p=>
  have HH:=ax3 H;have D:=ax3 Z;clear H Z;simp only [Option.isNone] at z;go_upto_region 3 with fail
  clear z;obtain⟨i0,hi,A,B,C⟩:=info_parts aoQ;have X:(w.alloc (.cells #[] 4)).ownsRow w.heap.size 4 1 (.slice (some ⟨w.heap.size,0,none⟩) 0 0) 0 []:=⟨rfl,.inr ⟨w.heap.size,0,#[],rfl,axe _,axg w _,axh _,axh _,rfl,by simp⟩⟩;have Y:=aa1 w (.cells #[] 4);have U:=HH.out.below Y;have Z:∀u∈cs,u.oneCell'=true:=D.out;have V:w.heap.size<=(w.alloc (.cells #[] 4)).heap.size:=by simp
  go_wp2_with (at_builtin;refine abb rfl _ _ 27 rfl w.heap.size 4 i0 (.bool false) 1 1 s hi A B C rfl (by decide) (.slice (some ⟨w.heap.size,0,none⟩) 0 0) 0 [] rfl X (some p) n c cs rfl U Z (by unfold maxLen;omega) (by omega) V ?_;intro o W1 N J I;have y:=ax3 N;have x:=ax3 J;clear N J I X U Z)
  go_ret;refine⟨o,rfl,?_,(Y).grown x.out Y.size (fun j e=>by injection e with e;exact axL e)⟩;have:=y.out;rw [axz,ay0] at this;exact this
abbrev PlW:=(Option Addr×Nat×Nat)×Bool
def plE (p:PlW):List Value:=[.slice p.1.1 p.1.2.1 p.1.2.2,.bool p.2]
def plC (l:List PlW):List Value:=l.flatMap plE
theorem are (l:List PlW):(plC l).length=l.length*2:=by
 induction l with
 | nil=>rfl
 | cons p l ih=>
  unfold plC at ih ⊢;rw [List.flatMap_cons,List.length_append,ih];simp [plE];omega
theorem aeQ:∀{l:List PlW} {i:Nat} {p:PlW},l[i]?=some p->(plC l)[i*2]?=some (.slice p.1.1 p.1.2.1 p.1.2.2)/\(plC l)[i*2+1]?=some (.bool p.2)
 | [],i,p,h=>by simp at h
 | q :: l,0,p,h=>by
  cases awV h
  exact⟨rfl,rfl⟩
 | q :: l,i+1,p,h=>by
  have:=aeQ (l:=l) (i:=i) (p:=p) (by simpa using h);have e:plC (q :: l)=.slice q.1.1 q.1.2.1 q.1.2.2 :: .bool q.2 :: plC l:=by simp [plC,plE]
  rw [e,show (i+1)*2=i*2+1+1 by omega];exact this
theorem apN:∀(l:List PlW) (i:Nat) (p:PlW),plC (l.set i p)=((plC l).set (i*2) (.slice p.1.1 p.1.2.1 p.1.2.2)).set (i*2+1) (.bool p.2)
 | [],i,p=>by simp [plC]
 | q :: l,0,p=>by simp [plC,plE]
 | q :: l,i+1,p=>by
  have:=apN l i p;have e:∀(q:PlW) (l:List PlW),plC (q :: l)=.slice q.1.1 q.1.2.1 q.1.2.2 :: .bool q.2 :: plC l:=fun q l=>by simp [plC,plE]
  rw [List.set_cons_succ,e,e,this,show (i+1)*2=i*2+1+1 by omega]
  rfl
structure adQ (X:Nat->Prop)(Q B next:Nat)(pl:List PlW)(w:World):Prop where
 box:w.heap[Q]?=some (.cells #[.slice (some ⟨B,0,none⟩) pl.length pl.length,.int .i64 (next:Int)] 199 (0,0))
 places:w.heap[B]?=some (.cells (plC pl).toArray 264 (0,0))
 inX:X Q/\X B
 ne:Q≠B
 room:1<=pl.length/\pl.length<=16
section
variable {X Y:Nat->Prop}{Q B next:Nat}{pl:List PlW}{w w':World}
theorem adQ.keep (h:adQ X Q B next pl w)(J:Chg Y w w')(N:∀k,k<w.heap.size->X k->¬Y k):adQ X Q B next pl w':=by
 have V:∀k o,w.heap[k]?=some o->X k->w'.heap[k]?=some o:=fun k o Z U=>(J.block k (awU.1 Z).1 (N k (awU.1 Z).1 U)).trans Z;exact⟨V _ _ h.box h.inX.1,V _ _ h.places h.inX.2,h.inX,h.ne,h.room⟩
theorem adQ.wide (h:adQ X Q B next pl w)(Z:∀k,k<w.heap.size->X k->Y k):adQ Y Q B next pl w:=
 ⟨h.box,h.places,⟨Z _ (awU.1 h.box).1 h.inX.1,Z _ (awU.1 h.places).1 h.inX.2⟩,h.ne,h.room⟩
theorem adQ.setP (h:adQ X Q B next pl w)(i:Nat)(p:PlW):adQ X Q B next (pl.set i p) ((w.setCell ⟨B,i*2,none⟩ (.slice p.1.1 p.1.2.1 p.1.2.2)).setCell ⟨B,i*2+1,none⟩ (.bool p.2))/\Chg X w ((w.setCell ⟨B,i*2,none⟩ (.slice p.1.1 p.1.2.1 p.1.2.2)).setCell ⟨B,i*2+1,none⟩ (.bool p.2)):=by
 obtain⟨V,Z⟩:∃W,W=w.setCell ⟨B,i*2,none⟩ (.slice p.1.1 p.1.2.1 p.1.2.2):=⟨_,rfl⟩;have h1:=aa4 (i:=i*2) h.places (.slice p.1.1 p.1.2.1 p.1.2.2);rw [<-Z] at h1 ⊢;have h2:=aa4 (i:=i*2+1) h1 (.bool p.2);rw [ayD,ayD,<-apN] at h2;have U:(V.setCell ⟨B,i*2+1,none⟩ (.bool p.2)).heap[Q]?=w.heap[Q]?:=by
  rw [axn V ⟨B,i*2+1,none⟩ _ Q h.ne,Z,axn w ⟨B,i*2,none⟩ _ Q h.ne]
 refine⟨⟨by rw [axb];exact U.trans h.box,h2,h.inX,h.ne,by rw [axb];exact h.room⟩,?_⟩;rw [Z];exact ((Chg.refl X w).set h.inX.2).set h.inX.2
theorem adQ.step (h:adQ X Q B next pl w)(Z:Nat):adQ X Q B Z pl (w.setCell ⟨Q,1,none⟩ (.int .i64 (Z:Int)))/\Chg X w (w.setCell ⟨Q,1,none⟩ (.int .i64 (Z:Int))):=
 ⟨⟨aa4 (i:=1) h.box _,(axn w ⟨Q,1,none⟩ _ B h.ne.symm).trans h.places,h.inX,h.ne,h.room⟩,(Chg.refl X w).set h.inX.1⟩
end
theorem ahy {X:Nat->Prop}{Q B next:Nat}{pl:List PlW}(w:World)(h:adQ X Q B next pl w) :
  Calls ZP 231 #[.pointer (some ⟨Q,0,none⟩)] w fun e w'=>e=.returned (.int .i64 (pl.length:Int))/\w'=w:=by
 have c0:w.cell? ⟨Q,0,none⟩=some (.slice (some ⟨B,0,none⟩) pl.length pl.length):=by simp [World.cell?,h.box]
 clear h;go_enter func231,ntmps231;go_wp2;go_ret;exact⟨rfl,rfl⟩
theorem aoY {X:Nat->Prop}{Q B next:Nat}{pl:List PlW}(w:World)(h:adQ X Q B next pl w) :
  Calls ZP 66 #[.pointer (some ⟨Q,0,none⟩)] w fun e w'=>e=.returned (.int .i64 (next:Int))/\w'=w:=by
 have c1:w.cell? ⟨Q,1,none⟩=some (.int .i64 (next:Int)):=by simp [World.cell?,h.box]
 clear h;go_enter func66,ntmps66;go_wp2;go_ret;exact⟨rfl,rfl⟩
theorem ah5 {X:Nat->Prop}{Q B next:Nat}{pl:List PlW}(n:Nat)(w:World)(h:adQ X Q B next pl w)(z:n<=4611686018427387904) :
  Calls ZP 170 #[.pointer (some ⟨Q,0,none⟩),.int .i64 (n:Int)] w fun e w'=>e=.returned (.pointer (some ⟨B,n % pl.length*2,none⟩))/\Below w.heap.size w w':=by
 have c0:w.cell? ⟨Q,0,none⟩=some (.slice (some ⟨B,0,none⟩) pl.length pl.length):=by simp [World.cell?,h.box]
 have H:=ax3 (fun q=>aa2 w q);obtain⟨J,N⟩:=h.room;obtain⟨L,U⟩:∃L,pl.length=L:=⟨_,rfl⟩;rw [U] at c0 J N ⊢;have I:(n:Int).tmod (L:Int)=((n % L:Nat):Int):=by rw [ay2 (by omega)];simp
 have Z:n % L<L:=ay3 _ (by omega);obtain⟨p,V⟩:∃p,n % L=p:=⟨_,rfl⟩;rw [V] at I Z ⊢;have A:(0:Int)<=(p:Int):=by omega
 have C:(p:Int)<(L:Int):=by omega
 have z0:¬(L:Int)=0:=by omega
 have D:¬L=0:=by omega
 clear h V U;go_enter func170,ntmps170;go_upto_region 1 with fail
 go_big_quiet (fail)
 go_wp2;go_ret;exact⟨by simp,H.out _⟩
def al8 (next room n:Nat):Bool:=decide (next<=n)&&decide (n-next<room)
theorem aeK {X:Nat->Prop}{Q B next:Nat}{I:List PlW}(n:Nat)(w:World)(h:adQ X Q B next I w)(hn:n<=1000000000)(j:next<=1000000000) :
  Calls ZP 189 #[.pointer (some ⟨Q,0,none⟩),.int .i64 (n:Int)] w fun e w'=>e=.returned (.bool (al8 next I.length n))/\Below w.heap.size w w':=by
 have c1:w.cell? ⟨Q,1,none⟩=some (.int .i64 (next:Int)):=by simp [World.cell?,h.box]
 have o:∀d os,(grow (redrawn w d) os).cell? ⟨Q,1,none⟩=some (.int .i64 (next:Int)):=cell_regrown c1;have H:∀d os,Calls ZP 231 #[.pointer (some ⟨Q,0,none⟩)] (grow (redrawn w d) os) fun e w'=>e=.returned (.int .i64 (I.length:Int))/\RowKit.Below (grow (redrawn w d) os).heap.size (grow (redrawn w d) os) w':=fun d os=>(ahy _ (h.keep (Y:=fun _=>False) (.of_same (below_regrown w d os)) fun _ _ _ h=>h)).mono fun e w' ⟨h1,h2⟩=>⟨h1,by rw [h2];exact axf _ _⟩;obtain⟨L,z⟩:∃L,I.length=L:=⟨_,rfl⟩;rw [z] at H ⊢;have J:=ax3 (fun C V=>below_regrown w C V);clear h z c1
 by_cases Z:next<=n
 ·
  have s:decide ((n:Int)>=(next:Int))=true:=by simp;omega
  have U:decide (next<=n)=true:=decide_eq_true Z;have v:IntKind.i64.wrap ((n:Int)-(next:Int))=((n-next:Nat):Int):=by rw [ax2];omega
  have N:al8 next L n=decide (n-next<L):=by unfold al8;rw [U];rfl
  rw [N];obtain⟨m,A⟩:∃m,n-next=m:=⟨_,rfl⟩;rw [A] at v ⊢;obtain⟨D,y⟩:∃b,decide (m<L)=b:=⟨_,rfl⟩;have x:decide ((m:Int)<(L:Int))=D:=by rw [<-y,axq];simp
  rw [y];clear N A Z;go_enter func189,ntmps189;go_upto_region 1 with fail
  refine wp_region_quiet_below mixed (by kernel_rfl) ?_
  repeat (go_big_quiet_step (exact aax (H _ _)))
  refine wpQuiet_nil ?_;rintro _ ⟨⟨C,V⟩,rfl⟩;go_wp2;go_ret;exact⟨rfl,J.out _ _⟩
 ·
  have s:decide ((n:Int)>=(next:Int))=false:=by simp;omega
  have U:decide (next<=n)=false:=decide_eq_false Z;have N:al8 next L n=false:=by unfold al8;rw [U];rfl
  rw [N];clear N Z;go_enter func189,ntmps189;go_upto_region 1 with fail
  refine wp_region_quiet_below mixed (by kernel_rfl) ?_
  repeat (go_big_quiet_step (exact aax (H _ _)))
  refine wpQuiet_nil ?_;rintro _ ⟨⟨C,V⟩,rfl⟩;go_wp2;go_ret;exact⟨rfl,J.out _ _⟩
theorem anM {X:Nat->Prop}{Q B next:Nat}{Z:List PlW}(n m c:Nat)(a:Option Addr)(x:Option Addr×Nat×Nat)(w:World)(h:adQ X Q B next Z w)(hn:n<=1000000000)(hx:next<=1000000000)(U:al8 next Z.length n=true)(o:Z[n % Z.length]?=some (x,false)) :
  Calls ZP 201 #[.pointer (some ⟨Q,0,none⟩),.int .i64 (n:Int),.slice a m c] w fun e w'=>e=.returned (.bool true)/\adQ X Q B next (Z.set (n % Z.length) ((a,m,c),true)) w'/\Chg X w w':=by
 have v:=aeK n w h hn hx;rw [U] at v;have v:=ax3 v;have A:Hid (∀V,Below w.heap.size w V->adQ X Q B next Z V/\Calls ZP 170 #[.pointer (some ⟨Q,0,none⟩),.int .i64 (n:Int)] V fun e w'=>e=.returned (.pointer (some ⟨B,n % Z.length*2,none⟩))/\Below V.heap.size V w'):=fun V hV=>by
  have:=h.keep (Y:=fun _=>False) (.of_same hV) fun _ _ _ h=>h;exact⟨this,ah5 n V this (by omega)⟩
 obtain⟨p,H⟩:∃p,n % Z.length=p:=⟨_,rfl⟩;rw [H] at A o ⊢;have HP:=ax3 o;clear h U H o;go_enter func201,ntmps201
 go_wp2_with (go_at_call 189;refine v.out.mono ?_;rintro e w1 ⟨rfl,N⟩)
 have a2:=ax3 (A.out w1 N).2;have z:=ax3 N;clear N
 go_wp2_with fail
 refine a2.out.mono ?_;rintro e s ⟨rfl,C⟩;have J:=z.out.trans (C.mono z.out.size);obtain⟨h2,_⟩:=A.out s J;have x1:s.cell? ⟨B,p*2+1,none⟩=some (.bool false):=by
  have:=(aeQ HP.out).2;simp [World.cell?,h2.places];exact this
 have I:=ax3 J;clear C J h2;go_upto_region 3 with fail
 have a1:=ax3 (A.out s I.out).2;clear x1
 go_wp2_with fail
 refine a1.out.mono ?_;rintro e y ⟨rfl,D⟩;have J:=I.out.trans (D.mono I.out.size);obtain⟨h3,_⟩:=A.out y J;have y0:y.cell? ⟨B,p*2,none⟩=some (.slice x.1 x.2.1 x.2.2):=by
  have:=(aeQ HP.out).1;simp [World.cell?,h3.places];exact this
 have y1:y.cell? ⟨B,p*2+1,none⟩=some (.bool false):=by
  have:=(aeQ HP.out).2;simp [World.cell?,h3.places];exact this
 have j:∀i,y.frozen? ⟨B,i,none⟩=false:=fun i=>by simp [World.frozen?,h3.places]
 have f1:=j (p*2);have f2:=j (p*2+1);obtain⟨g1,g2⟩:=h3.setP p ((a,m,c),true);have G1:=ax3 g1;have G2:=ax3 ((Chg.of_same J).then g2);clear D J h3 g1 g2 j;go_wp2;go_ret;exact⟨rfl,G1.out,G2.out⟩
abbrev TVw:=Option Addr×Nat×Nat
abbrev svW (v:TVw):Value:=.slice v.1 v.2.1 v.2.2
structure adS (X:Nat->Prop)(S:Nat)(a:Option Addr)(n c:Nat)(vs:List TVw)(rs:List (List Int))(br:Bool)(told:Nat)(w:World):Prop where
 box:w.heap[S]?=some (.cells #[.slice a n c,.bool br,.int .i64 (told:Int)] 186 (0,0))
 inX:X S
 row:Sl1 svW w a n vs
 rowB:n≠0->∀q,a=some q->X q.block/\q.block≠S/\∃cur,w.heap[q.block]?=some (.cells cur 32 (0,0))
 len:vs.length=rs.length
 cap:n<=c
 el:∀(i:Nat) (v:TVw) (xs:List Int),vs[i]?=some v->rs[i]?=some xs->Bys w v.1 v.2.1 xs/\v.2.1<=v.2.2/\(v.2.1≠0->∀q,v.1=some q->X q.block/\q.block≠S/\∀q',a=some q'->q.block≠q'.block)
section
variable {X Y:Nat->Prop}{S n c told m:Nat}{a b:Option Addr}{vs:List TVw}{rs:List (List Int)}{br:Bool}{w w':World}{xs:List Int}
theorem Bys.same (h:Bys w b m xs)(Z:w.heap.size<=w'.heap.size)(N:m≠0->∀q,b=some q->w'.heap[q.block]?=w.heap[q.block]?):Bys w' b m xs:=by
 refine⟨⟨h.1.1,?_⟩,h.2⟩
 by_cases h0:m=0
 · exact .inl h0
 · obtain⟨g,o,e,U,V⟩:=h.1.2.resolve_left h0;refine .inr ⟨g,o,e,ax6 U Z,fun i x J=>?_⟩;have I:w'.heap[g]?=w.heap[g]?:=N h0 ⟨g,o,none⟩ e;rw [axp (a:=⟨g,o+i,none⟩) I];exact V i x J
theorem Bys.lt (h:Bys w b m xs)(h0:m≠0):∀q,b=some q->q.block<w.heap.size:=fun q Z=>by
 obtain⟨g,o,e,V,_⟩:=h.1.2.resolve_left h0;rw [Z] at e
 cases awV e
 exact V
theorem adS.keep (h:adS X S a n c vs rs br told w)(N:Chg Y w w')(B:∀k,k<w.heap.size->X k->¬Y k):adS X S a n c vs rs br told w':=by
 have A:=(awU.1 h.box).1;have U:∀k,k<w.heap.size->X k->w'.heap[k]?=w.heap[k]?:=fun k H Z=>N.block k H (B k H Z);refine⟨(U S A h.inX).trans h.box,h.inX,⟨h.row.1,?_⟩,fun h0 q V=>?_,h.len,h.cap,fun i v xs D Z=>?_⟩
 ·
  by_cases h0:n=0
  · exact .inl h0
  · obtain⟨b,o,e,I,Z⟩:=h.row.2.resolve_left h0;refine .inr ⟨b,o,e,ax6 I N.size,fun i x C=>?_⟩;rw [axp (a:=⟨b,o+i,none⟩) (U b I (h.rowB h0 _ e).1)];exact Z i x C
 · obtain⟨h1,h2,J,h3⟩:=h.rowB h0 q V;exact⟨h1,h2,J,(U _ (awU.1 h3).1 h1).trans h3⟩
 · obtain⟨h1,h2,h3⟩:=h.el i v xs D Z;exact⟨h1.same N.size fun h0 q V=>U _ (h1.lt h0 q V) (h3 h0 q V).1,h2,h3⟩
theorem adS.wide (h:adS X S a n c vs rs br told w)(V:∀k,k<w.heap.size->X k->Y k):adS Y S a n c vs rs br told w:=by
 refine⟨h.box,V S (awU.1 h.box).1 h.inX,h.row,fun h0 q Z=>?_,h.len,h.cap,fun i v xs J N=>?_⟩
 · obtain⟨h1,h2,U,h3⟩:=h.rowB h0 q Z;exact⟨V _ (awU.1 h3).1 h1,h2,U,h3⟩
 · obtain⟨h1,h2,h3⟩:=h.el i v xs J N;exact⟨h1,h2,fun h0 q Z=>⟨V _ (h1.lt h0 q Z) (h3 h0 q Z).1,(h3 h0 q Z).2⟩⟩
theorem adS.turn {a2:Option Addr}{I c2 Z:Nat}{V:List TVw}{U:List (List Int)}(h:adS X S a n c vs rs br told w)(s:w.heap.size<=w'.heap.size)(hb:w'.heap[S]?=some (.cells #[.slice a2 I c2,.bool br,.int .i64 (Z:Int)] 186 (0,0)))
  (ho:∀k,k<w.heap.size->k≠S->(∀q,a=some q->k≠q.block)->w'.heap[k]?=w.heap[k]?) (hr:Sl1 svW w' a2 I V) (hn:I≠0->n≠0/\∀q,a2=some q->(∃q',a=some q'/\q.block=q'.block)/\∃N,w'.heap[q.block]?=some (.cells N 32 (0,0)))
  (hl:V.length=U.length) (hc:I<=c2) (a6:∀B,a2=some B->∃q',a=some q'/\B.block=q'.block)
  (he:∀(i:Nat) (v:TVw) (xs:List Int),V[i]?=some v->U[i]?=some xs->∃(j:Nat) (v0:TVw) (z:List Int),vs[j]?=some v0/\rs[j]?=some z/\Bys w v.1 v.2.1 xs/\v.2.1<=v.2.2/\(v.2.1≠0->∀q,v.1=some q->v0.2.1≠0/\∃J,v0.1=some J/\q.block=J.block)) :
  adS X S a2 I c2 V U br Z w':=by
 refine⟨hb,h.inX,hr,fun h0 q A=>?_,hl,hc,fun i v xs hv hx=>?_⟩
 · obtain⟨h1,h2⟩:=hn h0;obtain⟨⟨q',e1,e2⟩,N,h3⟩:=h2 q A;obtain⟨g1,g2,_⟩:=h.rowB h1 q' e1;rw [e2] at h3 ⊢;exact⟨g1,g2,N,h3⟩
 ·
  obtain⟨j,v0,z,j1,j2,C,a1,A⟩:=he i v xs hv hx;obtain⟨_,_,g3⟩:=h.el j v0 z j1 j2;refine⟨C.same s fun h0 q e=>?_,a1,fun h0 q e=>?_⟩
  · obtain⟨h1,J,e0,eb⟩:=A h0 q e;obtain⟨y,D,H⟩:=g3 h1 J e0;rw [<-eb] at D H;exact ho _ (C.lt h0 q e) D H
  · obtain⟨h1,J,e0,eb⟩:=A h0 q e;obtain⟨y,D,H⟩:=g3 h1 J e0;rw [<-eb] at y D H;refine⟨y,D,fun B e2=>?_⟩;obtain⟨q',e3,e4⟩:=a6 B e2;rw [e4];exact H q' e3
end
theorem aoh {X:Nat->Prop}{S n c told:Nat}{a:Option Addr}{vs:List TVw}{rs:List (List Int)}{br:Bool}(w:World)(h:adS X S a n c vs rs br told w) :
  Calls ZP 234 #[.pointer (some ⟨S,0,none⟩)] w fun e w'=>e=.returned (.bool (decide (n=0)))/\w'=w:=by
 have c0:w.cell? ⟨S,0,none⟩=some (.slice a n c):=by simp [World.cell?,h.box]
 have V:((n:Int)==0)=decide (n=0):=by rw [axq];simp
 have Z:decide ((n:Int)=0)=decide (n=0):=by rw [axq];simp
 clear h;go_enter func234,ntmps234;go_wp2;go_ret;refine⟨?_,rfl⟩
 first | rfl | simp | (simp;omega)
section
variable {X:Nat->Prop}{S n c told m R o:Nat}{a2:Option Addr}{v v2:TVw}{vt:List TVw}{x x2:List Int}{t:List (List Int)}{br:Bool}{w:World}
theorem adS.shift (h:adS X S (some ⟨R,o,none⟩) (m+1) c (v :: vt) (x :: t) br told w)(u:Value)(ha:a2=some ⟨R,o,none⟩/\m=0∨a2=some ⟨R,o+1,none⟩) :
  adS X S a2 m (c-1) vt t br told ((w.setCell ⟨R,o,none⟩ u).setCell ⟨S,0,none⟩ (.slice a2 m (c-1)))/\Chg X w ((w.setCell ⟨R,o,none⟩ u).setCell ⟨S,0,none⟩ (.slice a2 m (c-1))):=by
 obtain⟨a1,D,a7,N⟩:=h.rowB (by omega) _ rfl;obtain⟨J,V⟩:∃U,U=w.setCell ⟨R,o,none⟩ u:=⟨_,rfl⟩;rw [<-V];have A:∀k,k≠R->J.heap[k]?=w.heap[k]?:=fun k s=>by rw [V];exact axn w ⟨R,o,none⟩ _ k s
 have I:∀k,k≠S->(J.setCell ⟨S,0,none⟩ (.slice a2 m (c-1))).heap[k]?=J.heap[k]?:=fun k s=>axn J ⟨S,0,none⟩ _ k s;have z:J.heap.size=w.heap.size:=by rw [V];simp [World.setCell]
 have j:J.heap[S]?=some (.cells #[.slice (some ⟨R,o,none⟩) (m+1) c,.bool br,.int .i64 (told:Int)] 186 (0,0)):=(A S fun e=>D e.symm).trans h.box;have C:J.heap[R]?=some (.cells (a7.setIfInBounds o u) 32 (0,0)):=by rw [V];exact aa4 N u
 obtain⟨R',o',e,a8,a6⟩:=h.row.2.resolve_left (by omega)
 cases awV e
 have H:∀i,0<i->J.cell? ⟨R,o+i,none⟩=w.cell? ⟨R,o+i,none⟩:=fun i hi=>by
  simp only [World.cell?,C,show w.heap[R]?=_ from N];simp [Array.getElem?_setIfInBounds];omega
 have Z:∀q,a2=some q->q.block=R:=fun q B=>by
  rcases ha with ⟨e,_⟩ | e<;>(rw [B] at e;cases awV e;rfl)
 refine⟨h.turn (by simp [World.setCell] at z ⊢;omega) (aa4 (i:=0) j _) (fun k _ h1 h2=>(I k h1).trans (A k (h2 _ rfl))) ⟨by have:=h.row.1;simpa using this,?_⟩ (fun h0=>⟨by omega,fun q B=>⟨⟨_,rfl,Z q B⟩,?_⟩⟩) (by have:=h.len;simpa using this) (by have:=h.cap;omega) (fun q B=>⟨_,rfl,Z q B⟩) (fun i v3 xs hv hx=>?_),?_⟩
 ·
  by_cases h0:m=0
  · exact .inl h0
  · have ea:a2=some ⟨R,o+1,none⟩:=ha.elim (fun h=>absurd h.2 h0) id;refine .inr ⟨R,o+1,ea,by simp [World.setCell];have:=(awU.1 C).1;exact this,fun i y hy=>?_⟩;rw [axp (a:=⟨R,o+1+i,none⟩) (I R D),show o+1+i=o+(i+1) by omega,H (i+1) (by omega)];exact a6 (i+1) y hy
 · rw [Z q B,I R D];exact⟨_,C⟩
 · obtain⟨g1,g2,g3⟩:=h.el (i+1) v3 xs hv hx;exact⟨i+1,v3,xs,hv,hx,g1,g2,fun h0 q e=>⟨h0,q,e,rfl⟩⟩
 · rw [V];exact ((Chg.refl X w).set a1).set h.inX
theorem adS.trim (h:adS X S (some ⟨R,o,none⟩) n c (v :: vt) (x :: t) br told w)(B:n≠0)(D:Bys w v2.1 v2.2.1 x2)(A:v2.2.1<=v2.2.2)(N:v2.2.1≠0->∀q,v2.1=some q->v.2.1≠0/\∃q0,v.1=some q0/\q.block=q0.block) :
  adS X S (some ⟨R,o,none⟩) n c (v2 :: vt) (x2 :: t) br told (w.setCell ⟨R,o,none⟩ (svW v2))/\Chg X w (w.setCell ⟨R,o,none⟩ (svW v2)):=by
 obtain⟨s,j,U,Z⟩:=h.rowB B _ rfl;have J:∀k,k≠R->(w.setCell ⟨R,o,none⟩ (svW v2)).heap[k]?=w.heap[k]?:=fun k hk=>axn w ⟨R,o,none⟩ _ k hk;have z:=(J S fun e=>j e.symm).trans h.box;have V:(w.setCell ⟨R,o,none⟩ (svW v2)).heap[R]?=some (.cells (U.setIfInBounds o (svW v2)) 32 (0,0)):=aa4 Z _;obtain⟨R',o',e,a1,I⟩:=h.row.2.resolve_left B
 cases awV e
 have ho:o<U.size:=by
  have h1:=I 0 v rfl;simp only [World.cell?,show w.heap[R]?=_ from Z] at h1;have h2:U[o+0]?=some (svW v):=by simpa using h1
  exact (awU.1 h2).1
 refine⟨h.turn (by simp [World.setCell]) z (fun k _ h1 h2=>J k (h2 _ rfl)) ⟨by have:=h.row.1;simpa using this,.inr ⟨R,o,rfl,(awU.1 V).1,fun i y hy=>?_⟩⟩ (fun h0=>⟨B,fun q N=>⟨⟨q,N,rfl⟩,by cases awV N;exact⟨_,V⟩⟩⟩) (by have:=h.len;simpa using this) h.cap (fun q N=>⟨q,N,rfl⟩) (fun i v3 xs C H=>?_),(Chg.refl X w).set s⟩
 ·
  cases i with
  | zero=>
   cases awV hy
   simp only [World.cell?,V];simp [ho]
  | succ i=>
   have h1:=I (i+1) y hy;simp only [World.cell?,show w.heap[R]?=_ from Z] at h1;simp only [World.cell?,V];simp [Array.getElem?_setIfInBounds] at h1 ⊢;exact h1
 ·
  cases i with
  | zero=>
   cases awV C
   cases awV H
   exact⟨0,v,x,rfl,rfl,D,A,N⟩
  | succ i=>
   obtain⟨g1,g2,g3⟩:=h.el (i+1) v3 xs C H;exact⟨i+1,v3,xs,C,H,g1,g2,fun h0 q e=>⟨h0,q,e,rfl⟩⟩
end
def ads (Z:Int)(x:List Int):List Int:=if (x.length:Int)<=Z then x else x.take Z.toNat
def ahI (Z:Int)(x:List Int)(t:List (List Int)):List (List Int):=if (x.length:Int)<=Z then t else x.drop Z.toNat :: t
def aw7 (X:Nat->Prop)(S told n:Nat)(x:List Int)(t:List (List Int))(br:Bool)(Z:Int)(w:World)(e:Ending)(w':World):Prop:=
 ∃(b':Option Addr) (N J:Nat) (a2:Option Addr) (U c2:Nat) (V:List TVw),e=.returned (.slice b' N J)/\Bys w' b' N (ads Z x)/\adS X S a2 U c2 V (ahI Z x t) br told w'/\Chg X w w'/\U<=n
theorem aog {X:Nat->Prop}{S n c told:Nat}{a:Option Addr}{vs:List TVw}{x:List Int}{t:List (List Int)}{br:Bool}(Z:Int)(w:World)(h:adS X S a n c vs (x :: t) br told w)(hm:1<=Z)(hn:n<=1000000) :
  Calls ZP 235 #[.pointer (some ⟨S,0,none⟩),.int .i64 Z] w (aw7 X S told n x t br Z w):=by
 obtain⟨v,vt,rfl⟩:∃v vt,vs=v :: vt:=by
  cases vs with
  | nil=>have:=h.len;simp at this
  | cons v vt=>exact⟨v,vt,rfl⟩
 have ae:n=vt.length+1:=by rw [<-h.row.1];rfl
 subst ae;obtain⟨R,o,rfl,ak,j⟩:=h.row.2.resolve_left (by omega);obtain⟨aj,ah,am,C⟩:=h.rowB (by omega) _ rfl;obtain⟨s,ac,A⟩:=h.el 0 v x rfl rfl;obtain⟨a0,N,c0⟩:=v;dsimp only at s ac A;have J:x.length=N:=s.1.1;have s0:w.cell? ⟨S,0,none⟩=some (.slice (some ⟨R,o,none⟩) (vt.length+1) c):=by simp [World.cell?,h.box]
 have r0:w.cell? ⟨R,o,none⟩=some (.slice a0 N c0):=j 0 _ rfl;have f0:w.frozen? ⟨R,o,none⟩=false:=by simp [World.frozen?,C]
 have ad:=h.cap;have z:∀k,N≠0->(∃q,a0=some q/\q.block=k)->k≠S/\k≠R:=fun k h0 ⟨q,e,e2⟩=>by
  obtain⟨_,B,g3⟩:=A h0 q e;exact⟨by rw [<-e2];exact B,by rw [<-e2];exact g3 _ rfl⟩
 have HH:=ax3 h;have HV:=ax3 s
 by_cases I:(N:Int)<=Z
 ·
  have d0:decide ((N:Int)<=Z)=true:=decide_eq_true I;have ht:ads Z x=x:=by unfold ads;rw [J,if_pos I]
  have hr:ahI Z x t=t:=by unfold ahI;rw [J,if_pos I]
  have HT:=ax3 ht;have a1:=ax3 hr;obtain⟨W1,D⟩:∃U,U=w.setCell ⟨R,o,none⟩ (.slice none 0 0):=⟨_,rfl⟩;have aa:W1.heap[S]?=some (.cells #[.slice (some ⟨R,o,none⟩) (vt.length+1) c,.bool br,.int .i64 (told:Int)] 186 (0,0)):=by rw [D,axn w ⟨R,o,none⟩ _ S (fun e=>ah e.symm)];exact h.box
  have s1:W1.cell? ⟨S,0,none⟩=some (.slice (some ⟨R,o,none⟩) (vt.length+1) c):=by simp [World.cell?,aa]
  have f1:W1.frozen? ⟨S,0,none⟩=false:=by simp [World.frozen?,aa]
  have ab:Hid (∀u,Bys ((w.setCell ⟨R,o,none⟩ (.slice none 0 0)).setCell ⟨S,0,none⟩ u) a0 N x):=fun u=>s.same (by simp [World.setCell]) fun h0 q e=>by
   obtain⟨y,B⟩:=z q.block h0 ⟨q,e,rfl⟩;rw [axn _ ⟨S,0,none⟩ _ _ y,axn _ ⟨R,o,none⟩ _ _ B]
  by_cases ag:c=1
  ·
   subst ag;have h0:vt.length=0:=by omega
   obtain⟨y,B⟩:=h.shift (a2:=some ⟨R,o,none⟩) (.slice none 0 0) (.inl ⟨rfl,h0⟩);have G1:=ax3 y;have G2:=ax3 B;clear y B h s A z j h0 ht hr J C I ad;go_enter func235,ntmps235;go_upto_region 4 with fail
   rw [<-D];have a6:=ax3 D;clear D s0 r0 f0;go_wp2;go_ret;unfold aw7;rw [a6.out,HT.out,a1.out];exact⟨a0,N,c0,_,_,_,vt,rfl,ab.out _,G1.out,G2.out,by omega⟩
  ·
   obtain⟨y,B⟩:=h.shift (a2:=some ⟨R,o+1,none⟩) (.slice none 0 0) (.inr rfl);have G1:=ax3 y;have G2:=ax3 B;clear y B h s A z j ht hr J C I;go_enter func235,ntmps235;go_upto_region 4 with fail
   rw [<-D];have a6:=ax3 D;clear D s0 r0 f0;go_wp2;go_ret;unfold aw7;rw [a6.out,HT.out,a1.out];exact⟨a0,N,c0,_,_,_,vt,rfl,ab.out _,G1.out,G2.out,by omega⟩
 ·
  have d0:decide ((N:Int)<=Z)=false:=decide_eq_false I;obtain⟨k,rfl⟩:=axr (show 0<=Z by omega);have ht:ads (k:Int) x=x.take k:=by unfold ads;rw [J,if_neg I,axs]
  have hr:ahI (k:Int) x t=x.drop k :: t:=by unfold ahI;rw [J,if_neg I,axs]
  have HT:=ax3 ht;have a1:=ax3 hr;have af:k<N:=by omega
  have al:decide (N<=k)=false:=decide_eq_false (by omega);obtain⟨g,H,rfl,_,_⟩:=s.1.2.resolve_left (by omega);have a8:∀V,Bys V (some ⟨g,H,none⟩) N x->Bys V (some ⟨g,H+k,none⟩) (N-k) (x.drop k):=fun V hV=>by
   have:=hV.cut (lo:=k) (m:=N-k) (by omega);rw [axo (by rw [List.length_drop,J];exact axe _),awW,aah] at this;exact this
  have a7:∀V,Bys V (some ⟨g,H,none⟩) N x->Bys V (some ⟨g,H,none⟩) k (x.take k):=fun V hV=>by
   have:=hV.cut (lo:=0) (m:=k) (by omega);rw [List.drop_zero] at this;have e:(some (⟨g,H,none⟩:Addr)).map (·.add 0)=some ⟨g,H,none⟩:=rfl
   rwa [e] at this
  have k0:(0:Int)<=(k:Int):=by omega
  have k1:(k:Int)<=(N:Int):=by omega
  have k2:k<=N:=by omega
  have k3:(k:Int)<=(c0:Int):=by omega
  have k4:k<=c0:=by omega
  have k5:¬c0=k:=by omega
  have ai:Hid (∀q,adS X S (some ⟨R,o,none⟩) (vt.length+1) c ((some ⟨g,H,none⟩,N,c0) :: vt) (x :: t) br told (w.drewN q)/\Bys (w.drewN q) (some ⟨g,H,none⟩) N x/\Below w.heap.size w (w.drewN q)):=fun q=>⟨h.keep (Y:=fun _=>False) (.of_same (aa2 w q)) fun _ _ _ h=>h,s.same (axe _) fun _ _ _=>rfl,aa2 w q⟩;have HF:Hid (∀V,adS X S (some ⟨R,o,none⟩) (vt.length+1) c ((some ⟨g,H,none⟩,N,c0) :: vt) (x :: t) br told V->Bys V (some ⟨g,H,none⟩) N x->adS X S (some ⟨R,o,none⟩) (vt.length+1) c ((some ⟨g,H+k,none⟩,N-k,c0-k) :: vt) (x.drop k :: t) br told (V.setCell ⟨R,o,none⟩ (.slice (some ⟨g,H+k,none⟩) (N-k) (c0-k)))/\Chg X V (V.setCell ⟨R,o,none⟩ (.slice (some ⟨g,H+k,none⟩) (N-k) (c0-k)))/\Bys (V.setCell ⟨R,o,none⟩ (.slice (some ⟨g,H+k,none⟩) (N-k) (c0-k))) (some ⟨g,H,none⟩) k (x.take k)):=fun V hV hb=>by
   obtain⟨y,B⟩:=hV.trim (v2:=(some ⟨g,H+k,none⟩,N-k,c0-k)) (x2:=x.drop k) (by omega) (a8 V hb) (by show N-k<=c0-k;omega) (fun h0 q e=>⟨by show N≠0;omega,_,rfl,by cases awV e;rfl⟩);refine⟨y,B,a7 _ (hb.same (by simp [World.setCell]) fun h0 q e=>?_)⟩;exact axn V ⟨R,o,none⟩ _ _ (z q.block h0 ⟨q,e,rfl⟩).2
  clear h s A j ht hr J C I a8 a7 z af;go_enter func235,ntmps235;go_upto_region 6 with fail
  go_region
  go_wp2;go_ret;unfold aw7;rw [HT.out,a1.out];obtain⟨h1,h2,h3⟩:=ai.out 1;obtain⟨y,B,g3⟩:=HF.out _ h1 h2;exact⟨some ⟨g,H,none⟩,k,c0,_,_,_,_,rfl,g3,y,(Chg.of_same h3).then B,axe _⟩
end Go.Proofs.YtaamacoicojhnaaGreat
