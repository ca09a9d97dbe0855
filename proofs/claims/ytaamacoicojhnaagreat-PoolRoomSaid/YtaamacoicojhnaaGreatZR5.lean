/- Proofs over the given program, part 5. -/
import Derived.Test.YtaamacoicojhnaaGreatZR4
set_option linter.unusedVariables false
set_option linter.unusedSimpArgs false
set_option maxRecDepth 100000
set_option maxHeartbeats 16000000
open Go.Proofs.Tryz
open Go.Proofs.Tryz renaming prog→ZP
open Go.World(cell? frozen?)
open Go.Value(int slice pointer bool)
open Go.IntKind(i64)
namespace Go.Proofs.YtaamacoicojhnaaGreat
open Go.RowKit Go.Sort
theorem afE(a b:Option Addr)(Y ca U cb:Nat)(l m:List Int)(w:World)(D:Sl1 (int i64) w a Y l)(hB:Sl1 (int i64) w b U m)(a1:Y<=4611686018427387904) :Calls ZP 75 #[slice a Y ca,slice b U cb] w λe w'=>e=.returned (bool (decide (l=m)))/\Bt w w':=by
 have s:=AA D.1;have z:=AA hB.1
 by_cases H:Y=U
 ·subst H;go_enter func75,ntmps75;go_wp2
  go_loopw[13] (λi wr=>∃k:Nat,k<=Y/\i=int i64 k/\Hid (l.take k=m.take k)/\Bt w wr) (λi _=>Y-(intOf i).toNat)
  case atStart=>exact⟨0,AR _,rfl,by simp[Hid],AH _ _⟩
  case round=>
   obtain⟨k,hk,rfl,A,Z⟩:=hrel
   by_cases V:k<Y
   ·obtain⟨b1,o1,x,rfl,a6,x0,I⟩:=DG (D.below Z) V;obtain⟨b2,o2,y,rfl,a2,y0,J⟩:=DG (hB.below Z) V;have B:=AA I;have C:=AA J;clear I J;have hd:decide ((k:Int)<Y)=true:=by simp;omega
    by_cases h:x=y
    ·have X:Hid (l.take (k+1)=m.take (k+1)):=by rw[As B.out,As C.out,A.out,h];rfl
     have N:((x:Int) != y)=false:=by simp[h]
     clear h;go_wp2
     go_quiet (fail)
     go_wp2
     go_roundw
     case rel=>exact⟨k+1,by omega,by go_num,X,Z.trans ⟨rfl,rfl,rfl,AC _,λ_ _=>rfl⟩⟩
     case measure=>simp[intOf];omega
    ·have X:Hid (decide (l=m)=false):=by
      have:l≠m:=λe=>by have h1:=B.out;rw[e,C.out]at h1;exact h (AK h1).symm
      simp[Hid,this]
     have N:((x:Int) != y)=true:=by simp[h]
     clear h;go_wp2
     go_quiet (fail)
     go_wp2;go_ret;exact⟨by rw[X.out];rfl,Z.trans ⟨rfl,rfl,rfl,AC _,λ_ _=>rfl⟩⟩
   ·obtain rfl:k=Y:=by omega
    have X:Hid (decide (l=m)=true):=by have h:=A.out;rw[Ap (by rw[s.out];exact AC _),Ap (by rw[z.out];exact AC _)]at h;simp[Hid,h]
    go_wp2;go_ret;exact⟨by rw[X.out];rfl,Z⟩
 ·have X:Hid (decide (l=m)=false):=by
   have:l≠m:=λe=>H (by rw[<-s.out,<-z.out,e]);simp[Hid,this]
  have j:((Y:Int) != (U:Int))=true:=by simp;omega
  go_enter func75,ntmps75;go_wp2;go_ret;exact⟨by rw[X.out];rfl,AH _ _⟩
theorem anw(a b:Option Addr)(Y ca U cb:Nat)(l m:List Int)(w:World)(D:Sl1 (Value.int .u8) w a Y l)(hB:Sl1 (Value.int .u8) w b U m)(a1:Y<=4611686018427387904) :Calls ZP 74 #[slice a Y ca,slice b U cb] w λe w'=>e=.returned (bool (decide (l=m)))/\Bt w w':=by
 have s:=AA D.1;have z:=AA hB.1
 by_cases H:Y=U
 ·subst H;go_enter func74,ntmps74;go_wp2
  go_loopw[13] (λi wr=>∃k:Nat,k<=Y/\i=int i64 k/\Hid (l.take k=m.take k)/\Bt w wr) (λi _=>Y-(intOf i).toNat)
  case atStart=>exact⟨0,AR _,rfl,by simp[Hid],AH _ _⟩
  case round=>
   obtain⟨k,hk,rfl,A,Z⟩:=hrel
   by_cases V:k<Y
   ·obtain⟨b1,o1,x,rfl,a6,x0,I⟩:=DG (D.below Z) V;obtain⟨b2,o2,y,rfl,a2,y0,J⟩:=DG (hB.below Z) V;have B:=AA I;have C:=AA J;clear I J;have hd:decide ((k:Int)<Y)=true:=by simp;omega
    by_cases h:x=y
    ·have X:Hid (l.take (k+1)=m.take (k+1)):=by rw[As B.out,As C.out,A.out,h];rfl
     have N:((x:Int) != y)=false:=by simp[h]
     clear h;go_wp2
     go_quiet (fail)
     go_wp2
     go_roundw
     case rel=>exact⟨k+1,by omega,by go_num,X,Z.trans ⟨rfl,rfl,rfl,AC _,λ_ _=>rfl⟩⟩
     case measure=>simp[intOf];omega
    ·have X:Hid (decide (l=m)=false):=by
      have:l≠m:=λe=>by have h1:=B.out;rw[e,C.out]at h1;exact h (AK h1).symm
      simp[Hid,this]
     have N:((x:Int) != y)=true:=by simp[h]
     clear h;go_wp2
     go_quiet (fail)
     go_wp2;go_ret;exact⟨by rw[X.out];rfl,Z.trans ⟨rfl,rfl,rfl,AC _,λ_ _=>rfl⟩⟩
   ·obtain rfl:k=Y:=by omega
    have X:Hid (decide (l=m)=true):=by have h:=A.out;rw[Ap (by rw[s.out];exact AC _),Ap (by rw[z.out];exact AC _)]at h;simp[Hid,h]
    go_wp2;go_ret;exact⟨by rw[X.out];rfl,Z⟩
 ·have X:Hid (decide (l=m)=false):=by
   have:l≠m:=λe=>H (by rw[<-s.out,<-z.out,e]);simp[Hid,this]
  have j:((Y:Int) != (U:Int))=true:=by simp;omega
  go_enter func74,ntmps74;go_wp2;go_ret;exact⟨by rw[X.out];rfl,AH _ _⟩
theorem aiD(t v:TV)(T U:Ay)(w:World)(hT:Tri w t T)(hU:Tri w v U)(X:t.un<=4611686018427387904/\t.dn<=4611686018427387904/\t.xn<=4611686018427387904/\t.bn<=4611686018427387904) :Calls ZP 278 #[.agg t.cells,.agg v.cells] w λe w'=>e=.returned (bool (eqT T U))/\Bt w w':=by
 obtain⟨ua,un,uc,da,dn,dc,xa,xn,xc,ba,bn,bc⟩:=t;obtain⟨s,y,x,ea,en,j,z,B,A,ca,cn,cc⟩:=v;dsimp only at X;obtain⟨h1,h2,h3,h4⟩:=X;have N:Bt w ((w.alloc (.cells #[slice ua un uc,slice da dn dc,slice xa xn xc,slice ba bn bc] 150)).alloc (.cells #[slice s y x,slice ea en j,slice z B A,slice ca cn cc] 150)):=((AH _ _).alloc (AC _) _).alloc sm _;have hO:Bx w.heap.size [.cells #[slice ua un uc,slice da dn dc,slice xa xn xc,slice ba bn bc] 150,.cells #[slice s y x,slice ea en j,slice z B A,slice ca cn cc] 150] ((w.alloc (.cells #[slice ua un uc,slice da dn dc,slice xa xn xc,slice ba bn bc] 150)).alloc (.cells #[slice s y x,slice ea en j,slice z B A,slice ca cn cc] 150)):=
  ((Bx.nil _ w).snoc _ rfl).snoc _ sm
 have C:=hT.below N;have D:=hU.below N;obtain⟨TU,TD,TX,TB⟩:=T;obtain⟨UU,UD,UX,UB⟩:=U;have HE:Hid (eqT ⟨TU,TD,TX,TB⟩ ⟨UU,UD,UX,UB⟩=(decide (TU=UU)&&decide (TD=UD)&&decide (TX=UX)&&decide (TB=UB))):=rfl;have k1:=λ(V:World)(Z:Below ((w.alloc (.cells #[slice ua un uc,slice da dn dc,slice xa xn xc,slice ba bn bc] 150)).alloc (.cells #[slice s y x,slice ea en j,slice z B A,slice ca cn cc] 150)).heap.size _ V)=>afE ua s un uc y x TU UU V (C.up.below Z) (D.up.below Z) h1;have k2:=λ(V:World)(Z:Below ((w.alloc (.cells #[slice ua un uc,slice da dn dc,slice xa xn xc,slice ba bn bc] 150)).alloc (.cells #[slice s y x,slice ea en j,slice z B A,slice ca cn cc] 150)).heap.size _ V)=>afE da ea dn dc en j TD UD V (C.dep.below Z) (D.dep.below Z) h2;have k3:=λ(V:World)(Z:Below ((w.alloc (.cells #[slice ua un uc,slice da dn dc,slice xa xn xc,slice ba bn bc] 150)).alloc (.cells #[slice s y x,slice ea en j,slice z B A,slice ca cn cc] 150)).heap.size _ V)=>afE xa z xn xc B A TX UX V (C.wrd.below Z) (D.wrd.below Z) h3;have k4:=λ(V:World)(Z:Below ((w.alloc (.cells #[slice ua un uc,slice da dn dc,slice xa xn xc,slice ba bn bc] 150)).alloc (.cells #[slice s y x,slice ea en j,slice z B A,slice ca cn cc] 150)).heap.size _ V)=>anw ba ca bn bc cn cc TB UB V (C.byt.below Z).1 (D.byt.below Z).1 h4
 generalize decide (TU=UU)=b1 at k1 HE
 generalize decide (TD=UD)=b2 at k2 HE
 generalize decide (TX=UX)=b3 at k3 HE
 generalize decide (TB=UB)=b4 at k4 HE
 have K1:=AA k1;have K2:=AA k2;have K3:=AA k3;have K4:=AA k4;clear k1 k2 k3 k4 hT hU C D;obtain⟨W,hW⟩:∃W,W=((w.alloc (.cells #[.slice ua un uc,.slice da dn dc,.slice xa xn xc,.slice ba bn bc] 150)).alloc (.cells #[.slice s y x,.slice ea en j,.slice z B A,.slice ca cn cc] 150)):=⟨_,rfl⟩;rw [<-hW] at N hO K1 K2 K3 K4;have cells:∀V,Below W.heap.size W V->(V.cell? ⟨w.heap.size,0,none⟩=some (.slice ua un uc)/\V.cell? ⟨w.heap.size,1,none⟩=some (.slice da dn dc)/\V.cell? ⟨w.heap.size,2,none⟩=some (.slice xa xn xc)/\V.cell? ⟨w.heap.size,3,none⟩=some (.slice ba bn bc))/\
   (V.cell? ⟨w.heap.size+1,0,none⟩=some (slice s y x)/\V.cell? ⟨w.heap.size+1,1,none⟩=some (slice ea en j)/\V.cell? ⟨w.heap.size+1,2,none⟩=some (slice z B A)/\V.cell? ⟨w.heap.size+1,3,none⟩=some (slice ca cn cc)):=λV Z=>by
  have h:=hO.below Z;exact⟨⟨h.cell (i:=0) rfl rfl,h.cell (i:=0) rfl rfl,h.cell (i:=0) rfl rfl,h.cell (i:=0) rfl rfl⟩,⟨h.cell (i:=1) rfl rfl,h.cell (i:=1) rfl rfl,h.cell (i:=1) rfl rfl,h.cell (i:=1) rfl rfl⟩⟩
 have HC:=AA cells;clear cells hO;have a1:∀(V:World)(b:Bool),Bt W V->b=eqT ⟨TU,TD,TX,TB⟩ ⟨UU,UD,UX,UB⟩->Ending.returned (bool b)=.returned (bool (eqT ⟨TU,TD,TX,TB⟩ ⟨UU,UD,UX,UB⟩))/\Bt w V:=λV b Z X=>⟨by rw[X],N.trans (Z.mono N.size)⟩;have Y:=AA a1;clear a1 N;go_enter func278,ntmps278;go_upto_region 1 with fail
 rw[<-hW];clear hW;obtain⟨⟨c0,c1,c2,c3⟩,d0,d1,d2,d3⟩:=HC.out W (AH _ _)
 go_wp2_with fail
 refine(K1.out W (AH _ _)).mono ?_;rintro e w1 ⟨rfl,H⟩;clear c0 c1 c2 c3 d0 d1 d2 d3;obtain⟨⟨c0,c1,c2,c3⟩,d0,d1,d2,d3⟩:=HC.out w1 H
 cases b1 with
 |false=>
  go_wp2;go_ret;exact Y.out w1 false H (by rw[HE.out];rfl)
 |true=>
  go_wp2_with fail
  refine(K2.out w1 H).mono ?_;rintro e w2 ⟨rfl,X⟩;have I:=H.trans (X.mono H.size);clear c0 c1 c2 c3 d0 d1 d2 d3 X;obtain⟨⟨c0,c1,c2,c3⟩,d0,d1,d2,d3⟩:=HC.out w2 I
  cases b2 with
  |false=>
   go_wp2;go_ret;exact Y.out w2 false I (by rw[HE.out];rfl)
  |true=>
   go_wp2_with fail
   refine(K3.out w2 I).mono ?_;rintro e w3 ⟨rfl,X⟩;have J:=I.trans (X.mono I.size);clear c0 c1 c2 c3 d0 d1 d2 d3 X;obtain⟨⟨c0,c1,c2,c3⟩,d0,d1,d2,d3⟩:=HC.out w3 J
   cases b3 with
   |false=>
    go_wp2;go_ret;exact Y.out w3 false J (by rw[HE.out];rfl)
   |true=>
    go_wp2_with fail
    refine(K4.out w3 J).mono ?_;rintro e w4 ⟨rfl,X⟩;have a2:=J.trans (X.mono J.size);clear c0 c1 c2 c3 d0 d1 d2 d3 X;go_wp2;go_ret;exact Y.out w4 b4 a2 (by rw[HE.out];cases b4<;>rfl)
def Jh(W V:World):Prop:=W.heap.size<=V.heap.size/\∀(k:Nat)(cs:Array Value)(t:TypeId)(f:Nat×Nat),W.heap[k]?=some (Obj.cells cs t f)->V.heap[k]?=some (Obj.cells cs t f)
theorem Jh.cell{W V:World}(h:Jh W V){a:Addr}{v:Value}(Z:W.cell? a=some v):V.cell? a=some v:=by
 cases ho:W.heap[a.block]? with
 |none=>simp[cell?,ho]at Z
 |some o=>
  cases o with
  |cells cs t f=>
   rw[<-Z];exact BC ((h.2 _ _ _ _ ho).trans ho.symm)
  |_=>simp[cell?,ho]at Z
theorem Jh.sl1{α:Type}{enc:α->Value}{W V:World}(h:Jh W V){a:Option Addr}{n:Nat}{xs:List α}(Y:Sl1 enc W a n xs):Sl1 enc V a n xs:=⟨Y.1,Y.2.imp id λ⟨b,off,e,Z,U⟩=>⟨b,off,e,Af Z h.1,λi x X=>h.cell (U i x X)⟩⟩
def CF(c:Int):Bool:=decide (97<=c/\c<=122)
def inB(fold:Bool)(ws:La)(c:Int):Bool:=ws.any λw=>w.any λx=>decide (x=c) || (fold&&CF x&&decide (x-32=c))
def Ac(p:Int->Bool)(fold:Bool):Nat->List Int×Nat
 |0=>([],1)
 | i+1=>if p i=false then ((Ac p fold i).1++[0],(Ac p fold i).2)
  else if(fold&&CF i)=true then((Ac p fold i).1++[((Ac p fold i).1[i-32]?).getD 0],(Ac p fold i).2)
  else((Ac p fold i).1++[((Ac p fold i).2:Int)],(Ac p fold i).2+1)
theorem Kr(p:Int->Bool)(fold:Bool)(i:Nat):Ac p fold (i+1)=if p i=false then((Ac p fold i).1++[0],(Ac p fold i).2)
  else if(fold&&CF i)=true then((Ac p fold i).1++[((Ac p fold i).1[i-32]?).getD 0],(Ac p fold i).2)
  else((Ac p fold i).1++[((Ac p fold i).2:Int)],(Ac p fold i).2+1):=rfl
theorem Ij(p:Int->Bool)(fold:Bool):∀i,(Ac p fold i).1.length=i
 |0=>rfl
 |i+1=>by
  have Z:=Ij p fold i;unfold Ac
  split
  ·simp[Z]
  ·split<;>simp[Z]
theorem Hb(p:Int->Bool)(fold:Bool):∀i,1<=(Ac p fold i).2/\(Ac p fold i).2<=i+1
 |0=>⟨AC _,AC _⟩
 |i+1=>by
  have Z:=Hb p fold i;unfold Ac
  split
  ·exact⟨Z.1,by show(Ac p fold i).2<=_;omega⟩
  ·split
   ·exact⟨Z.1,by show(Ac p fold i).2<=_;omega⟩
   ·exact⟨by show 1<=(Ac p fold i).2+1;omega,by show(Ac p fold i).2+1<=_;omega⟩
theorem agz(p:Int->Bool)(fold:Bool){j:Nat}:∀{i},j<i->(Ac p fold i).1[j]?=(Ac p fold (j+1)).1[j]?
 |0,h=>absurd h (Nat.not_lt_zero _)
 |i+1,h=>by
  by_cases Y:j=i
  ·subst Y;rfl
  ·have Z:=agz p fold (j:=j) (i:=i) om;rw[<-Z];have X:=Ij p fold i
   conv=>lhs;unfold Ac
   split
   ·exact By om
   ·split
    ·exact By om
    ·exact By om
def BF(fold:Bool)(ws:La):List Int:=(Ac (inB fold ws) fold 256).1
def Ah(fold:Bool)(ws:La):Nat:=(Ac (inB fold ws) fold 256).2
theorem Jc(fold:Bool)(ws:La):(BF fold ws).length=256:=Ij _ _ _
theorem ajB(p:Int->Bool)(fold:Bool){j i:Nat}(h:j<i):(Ac p fold i).1[j]?=some (if p j=false then 0 else if(fold&&CF j)=true then((Ac p fold j).1[j-32]?).getD 0 else((Ac p fold j).2:Int)):=by
 rw[agz p fold h,Kr];have Z:=Ij p fold j
 split
 ·rw[DY om,Z,FG];rfl
 ·split
  ·rw[DY om,Z,FG];rfl
  ·rw[DY om,Z,FG];rfl
theorem aeW(c:Int)(w:World) :Calls ZP 218 #[.int .u8 c] w λe w'=>e=.returned (bool (CF c))/\Bt w w':=by
 have X:Hid (CF c=(decide (97<=c)&&decide (c<=122))):=by unfold Hid CF;rw[Bool.decide_and]
 by_cases h1:97<=c
 ·have Z:decide ((97:Int)<=c)=true:=by simpa using h1
  by_cases h2:c<=122
  ·have Y:decide (c<=(122:Int))=true:=by simpa using h2
   go_enter func218,ntmps218;go_wp2;go_ret;exact⟨by rw[X.out,Z,Y];rfl,AH _ _⟩
  ·have Y:decide (c<=(122:Int))=false:=by simpa using h2
   go_enter func218,ntmps218;go_wp2;go_ret;exact⟨by rw[X.out,Z,Y];rfl,AH _ _⟩
 ·have Z:decide ((97:Int)<=c)=false:=by simpa using h1
  go_enter func218,ntmps218;go_wp2;go_ret;exact⟨by rw[X.out,Z];rfl,AH _ _⟩
theorem abC(c:Int)(w:World)(h:32<=c/\c<=255) :Calls ZP 220 #[.int .u8 c] w λe w'=>e=.returned (.int .u8 (c-32))/\Bt w w':=by
 have Z:IntKind.u8.wrap (c-32)=c-32:=by simp[IntKind.wrap,IntKind.bits,IntKind.signed];omega
 obtain⟨d,Y⟩:∃d,c-32=d:=⟨_,rfl⟩;have X:0<=d/\d<=255:=by omega
 go_enter func220,ntmps220;go_wp2;go_ret;refine⟨?_,AH _ _⟩
 first|rfl|(simp[Z];try exact Y.symm)
def TB(W:World)(B:Nat)(l:List Bool):Prop:=W.heap[B]?=some (.cells (l.map bool).toArray 315 (0,0))/\l.length=256
theorem akp:Tryz.zeroCells315=((List.replicate 256 false).map bool).toArray:=by kernel_rfl
theorem amX:Tryz.zeroCells144=((List.replicate 256 (0:Int)).map (int i64)).toArray:=by kernel_rfl
def Eh(l:List Bool)(f:Nat->Bool):Prop:=∀c:Nat,c<256->l[c]?=some (f c)
theorem TB.cell{W:World}{B:Nat}{l:List Bool}(h:TB W B l){c:Nat}(Z:c<256):∃b,W.cell? ⟨B,c,none⟩=some (bool b)/\W.frozen? ⟨B,c,none⟩=false:=by
 obtain⟨h1,h2⟩:=h;refine⟨l[c]'om,?_,?_⟩
 ·simp[cell?,h1,show c<l.length by omega]
 ·simp[frozen?,h1]
theorem TB.lt{W:World}{B:Nat}{l:List Bool}(h:TB W B l):B<W.heap.size:=(AD.1 h.1).1
theorem TB.below{W V:World}{B:Nat}{l:List Bool}(h:TB W B l)(Z:Bt W V):TB V B l:=⟨(Z.block B h.lt).trans h.1,h.2⟩
theorem TB.set{W:World}{B:Nat}{l:List Bool}(h:TB W B l)(c:Nat)(x:Bool):TB (W.setCell ⟨B,c,none⟩ (bool x)) B (l.set c x):=by refine⟨?_,by rw[BG];exact h.2⟩;rw[AJ h.1,Is];simp
theorem Eh.set{l:List Bool}{f:Nat->Bool}(h:Eh l f)(X:l.length=256){y:Nat}(Y:y<256):Eh (l.set y true) (λc=>f c || decide (y=c)):=λc Z=>by
 rw[Gr]
 by_cases e:y=c
 ·subst e;rw[Lc rfl,Lc om];simp
 ·rw[Lb e,h c Z];simp[e]
theorem Eh.congr{l:List Bool}{f g:Nat->Bool}(h:Eh l f)(Y:∀c,c<256->f c=g c):Eh l g:=λc Z=>by rw[h c Z,Y c Z]
theorem Eh.all{l:List Bool}{f:Nat->Bool}(h:Eh l f)(Y:l.length=256):l=(List.range 256).map f:=by
 apply Hn
 intro i
 by_cases Z:i<256
 ·rw[h i Z,BU,It Z]
  rfl
 ·rw[GT om,GT (by simp;omega)]
def inX(fold:Bool)(x:List Int)(c:Int):Bool:=x.any λy=>decide (y=c) || (fold&&CF y&&decide (y-32=c))
theorem aki(fold:Bool)(ws:La)(c:Int):inB fold ws c=ws.any λx=>inX fold x c:=rfl
theorem alJ{fold:Bool}{ws:La}{k:Nat}{x:List Int}(Z:ws[k]?=some x)(c:Int):inB fold (ws.take (k+1)) c=(inB fold (ws.take k) c || inX fold x c):=by rw[aki,aki,As Z,List.any_append];simp
theorem ad9{fold:Bool}{x:List Int}{j:Nat}{y:Int}(Z:x[j]?=some y)(c:Int):inX fold (x.take (j+1)) c=(inX fold (x.take j) c || (decide (y=c) || (fold&&CF y&&decide (y-32=c)))):=by unfold inX;rw[As Z,List.any_append];simp
theorem Nq(n c:Nat):decide ((n:Int)=(c:Int))=decide (n=c):=decide_eq_decide.2 om
def Kl(fold:Bool)(ws:La):List Bool:=(List.range 256).map λc:Nat=>inB fold ws (c:Int)
theorem anE:(ZP.info? 315).map (·.size)=some 256:=by kernel_rfl
theorem aiS:(ZP.info? 144).map (·.size)=some 256:=by kernel_rfl
theorem MF{B:Nat}{v w:World}(h:RowKit.Below B v w){g:Nat}(Z:B<=g)(cs:Array Value):RowKit.Below B v (w.setRow g cs):=by refine h.trans ⟨rfl,rfl,rfl,by simp[World.setRow],λk hk=>?_⟩;unfold World.setRow;simp only[Js];rw[Lb om]
theorem anC(fold:Bool)(a:Option Addr)(Y ca:Nat)(wss:La)(w:World)(hA:Wds w a Y wss)(aO:Y<=1000000)(hM:∀x∈wss,x.length<=1000000) :Calls ZP 217 #[.agg (AM fold a Y ca)] w λe w'=>e=.returned (.agg ((Kl fold wss).map bool).toArray)/\Bt w w':=by
 have HL:=AA hA.len;have HM:=AA hM;obtain⟨W,hW⟩:∃W,W=((w.alloc (.cells (AM fold a Y ca) 24)).alloc (.cells Tryz.zeroCells315 315)).alloc (.cells Tryz.zeroCells315 315):=⟨_,rfl⟩;have hB:Bt w W:=by rw[hW];exact(((AH _ _).alloc (AC _) _).alloc sm _).alloc (by simp;omega) _
 have hO:Bx w.heap.size [.cells (AM fold a Y ca) 24,.cells Tryz.zeroCells315 315,.cells Tryz.zeroCells315 315] W:=by rw[hW];exact(((Bx.nil _ w).snoc _ rfl).snoc _ sm).snoc _ sm
 have a1:W.heap.size=w.heap.size+1+1+1:=by rw[hW];simp
 have h0:W.heap[w.heap.size]?=some (.cells (AM fold a Y ca) 24 (0,0)):=hO 0 _ rfl;have h1:W.heap[w.heap.size+1]?=some (.cells Tryz.zeroCells315 315 (0,0)):=hO 1 _ rfl;have hT:TB W (w.heap.size+1+1) (List.replicate 256 false):=⟨by rw[<-akp];exact hO 2 _ rfl,by simp⟩;have ar:Hid (Eh (List.replicate 256 false) (λc=>inB fold (wss.take 0) (c:Int))):=λc hc=>by
  rw[Jo,Lc hc,List.take_zero]
  rfl
 have HA:=AA hA;have HB:=AA hB;have aJ:=AA h0;have aI:=AA h1;have aG:=AA a1;have HT:=AA hT;have s1:W.cell? ⟨w.heap.size,1,none⟩=some (slice a Y ca):=hO.cell (i:=0) rfl rfl;clear hA hB hO h0 h1 a1 hT hM;go_enter func217,ntmps217;go_upto_region 2 with fail
 rw[<-hW];clear hW;go_wp2;clear s1
 go_loopw[11] (λaz wr=>∃(k:Nat)(l:List Bool),k<=Y/\az=int i64 k/\TB wr (w.heap.size+1+1) l/\Hid (Eh l (λc=>inB fold (wss.take k) (c:Int)))/\RowKit.Below (w.heap.size+1+1) W wr) (λs _=>Y-(intOf s).toNat)
 case atStart=>exact⟨0,_,AR _,rfl,HT.out,ar,Jj _ _⟩
 case round=>
  clear HT ar;obtain⟨k,l,hk,rfl,U,ac,N⟩:=hrel
  by_cases aA:k<Y
  ·have hd:decide ((k:Int)<Y)=true:=by simp;omega
   have H:=HB.out.trans (N.mono om);obtain⟨b1,o1,ax,A,cx,x,rfl,aE,ah,hx,hX,aL⟩:=HA.out.at_ aA;have aN:A<=1000000:=by have:=HM.out x (AX hx);rw[hX.len]at this;exact this
   have i1:(0:Int)<=(k:Int):=by omega
   have i2:(k:Int)<(Y:Int):=by omega
   have fx:wr.cell? ⟨b1,o1+k,none⟩=some (slice ax A cx):=(H.cell (p:=⟨b1,o1+k,none⟩) aE).trans ah;have HX:=AA hx;have ak:=AA hX;have aa:=AA U;have ae:=AA N;have aq:Hid (Eh l (λc=>inB fold (wss.take k) (c:Int) || inX fold (x.take 0) (c:Int))):=ac.out.congr (λc hc=>by simp[inX]);have ag:=hX.len;have aF:=AA ag;clear ah hx hX ag U N H ac;go_wp2;clear fx
   go_loopw[17] (λay wq=>∃(j:Nat)(l:List Bool),j<=A/\ay=int i64 j/\TB wq (w.heap.size+1+1) l/\Hid (Eh l (λc=>inB fold (wss.take k) (c:Int) || inX fold (x.take j) (c:Int)))/\RowKit.Below (w.heap.size+1+1) W wq) (λs _=>A-(intOf s).toNat)
   case atStart=>exact⟨0,l,AR _,rfl,aa.out,aq,ae.out⟩
   case round=>
    clear aq;obtain⟨j,l2,hj,rfl,I,ad,C⟩:=hrel
    by_cases aB:j<A
    ·have aC:decide ((j:Int)<A)=true:=by simp;omega
     have H:=HB.out.trans (C.mono om);obtain⟨b2,o2,y,rfl,aM,aD,hy⟩:=DG (ak.out.1.below H) aB;have af:=ak.out.2 y (AX hy);obtain⟨n,rfl⟩:=Mb af.1;have hn:n<256:=by omega
     have HY:=AA hy;obtain⟨bo,q1,q2⟩:=I.cell hn;have j1:(0:Int)<=(j:Int):=by omega
     have j2:(j:Int)<(A:Int):=by omega
     have j3:(0:Int)<=(n:Int):=by omega
     have j4:(n:Int)<256:=by omega
     have HS:=AA (ad.out.set I.2 hn);have al:=AA I;have au:=AA C;have a1:=aG.out;clear hy af ad H I C;go_upto_region 9 with fail
     obtain⟨W1,D⟩:∃V,V=wr.setCell ⟨w.heap.size+1+1,n,none⟩ (bool true):=⟨_,rfl⟩;rw[<-D];have ai:TB W1 (w.heap.size+1+1) (l2.set n true):=by rw[D];exact al.out.set n true
     have a7:RowKit.Below (w.heap.size+1+1) W W1:=by rw[D];exact au.out.setCell (AC _) _
     have aj:W1.heap[w.heap.size]?=some (.cells (AM fold _ Y ca) 24 (0,0)):=(a7.block _ om).trans aJ.out;have s0:W1.cell? ⟨w.heap.size,0,none⟩=some (bool fold):=by simp[cell?,aj]
     have ab:=AA ai;have aw:=AA a7;clear D aD q1 q2 aj ai a7 al au
     cases fold with
     |false=>
      have Z:Hid (Eh (l2.set n true) (λc=>inB false (wss.take k) (c:Int) || inX false (x.take (j+1)) (c:Int))):=HS.out.congr (λc hc=>by rw[ad9 HY.out,Bool.or_assoc,Nq];simp)
      go_wp2
      go_roundw
      case rel=>exact⟨j+1,_,by omega,by go_num,ab.out,Z,aw.out⟩
      case measure=>simp[intOf];omega
     |true=>
      have ao:=AA (aeW (n:Int) W1)
      go_wp2_with fail
      refine ao.out.mono ?_;rintro e W2 ⟨rfl,a6⟩;have B:=AA (ab.out.below a6);have av:=AA (aw.out.trans (a6.mono (by have:=ab.out.lt;omega)));clear s0 a6 ao
      cases X:CF (n:Int)with
      |false=>
       have Z:Hid (Eh (l2.set n true) (λc=>inB true (wss.take k) (c:Int) || inX true (x.take (j+1)) (c:Int))):=HS.out.congr (λc hc=>by rw[ad9 HY.out,Bool.or_assoc,X,Nq];simp)
       clear X;go_wp2
       go_roundw
       case rel=>exact⟨j+1,_,by omega,by go_num,B.out,Z,av.out⟩
       case measure=>simp[intOf];omega
      |true=>
       obtain⟨p,rfl⟩:∃p,n=p+32:=⟨n-32,by unfold CF at X;have:=Lj X;omega⟩;have hp:p<256:=by omega
       have hg:=abC ((p+32:Nat):Int) W2 om;rw[show((p+32:Nat):Int)-32=(p:Int) by omega]at hg;have HG:=AA hg;have ap:=AA (HS.out.set B.out.2 hp);have Z:Hid (Eh ((l2.set (p+32) true).set p true) (λc=>inB true (wss.take k) (c:Int) || inX true (x.take (j+1)) (c:Int))):=ap.out.congr (λc hc=>by rw[ad9 HY.out,X,show((p+32:Nat):Int)-32=(p:Int) by omega,Nq,Nq];simp only[Bool.or_assoc,FJ,Bool.and_true])
       have k3:(0:Int)<=(p:Int):=by omega
       have k4:(p:Int)<256:=by omega
       clear X hg HS ap
       go_wp2_with fail
       refine HG.out.mono ?_;rintro e W3 ⟨rfl,a2⟩;have am:=AA (B.out.below a2);have aK:=AA (av.out.trans (a2.mono (by have:=B.out.lt;omega)));obtain⟨aP,r1,r2⟩:=am.out.cell hp;clear a2 HG;go_wp2
       go_roundw
       case rel=>exact⟨j+1,_,by omega,by go_num,am.out.set p true,Z,aK.out.setCell (AC _) _⟩
       case measure=>simp[intOf];omega
    ·obtain rfl:j=A:=by omega
     have aC:decide ((j:Int)<j)=false:=by simp
     have Z:Hid (Eh l2 (λc=>inB fold (wss.take (k+1)) (c:Int))):=ad.out.congr (λc hc=>by rw[alJ HX.out,show x.take j=x from Ap (by rw[aF.out];exact AC _)])
     go_wp2
     go_roundw
     case rel=>exact⟨k+1,_,by omega,by go_num,I,Z,C⟩
     case measure=>simp[intOf];omega
  ·obtain rfl:k=Y:=by omega
   have hd:decide ((k:Int)<k)=false:=by simp
   have Z:Hid (l=Kl fold wss):=by have h:=ac.out.all U.2;rw[Ap (by rw[HL.out];exact AC _)]at h;exact h
   have a8:wr.heap[w.heap.size+1]?=some (.cells Tryz.zeroCells315 315 (0,0)):=(N.block _ om).trans aI.out;rw[akp]at a8;have J:((l.map bool).toArray).size=256:=by simp[U.2]
   have hi:(ZP.info? 315).map (·.size)=some ((l.map bool).toArray).size:=by rw[J];exact anE
   have H1:=AA a8;have aa:=AA U;have HI:=AA hi;have ae:=AA N;have aH:=AA J;have z:((l.map bool).toArray).all (·.oneCell')=true:=by simp[Value.oneCell']
   have HO:=AA z;clear a8 U hi N J z
   go_wp2_with (first
    |(refine wpList_load_row rfl 315 _ rfl (w.heap.size+1+1) rfl 315 _ (0,0) _ aa.out.1 underlying315 rfl HI.out ?_)
    |(refine wpList_store_row rfl 315 _ _ rfl (w.heap.size+1) _ rfl rfl 315 _ H1.out HI.out (by rw[aH.out];simp) HO.out ?_))
   refine Vf (results_cell_row rfl _ _ (w.heap.size+1) 315 _ (0,0) _ rfl (setRow_heap _ _ _ _ _ _ H1.out) underlying315 rfl HI.out) rfl ?_;rw[Z.out];exact⟨rfl,MF (HB.out.trans (ae.out.mono om)) om _⟩
def CB(W:World)(B:Nat)(l:List Int)(m:Int):Prop:=W.heap[B]?=some (.cells ((l++[m]).map (int i64)).toArray 284 (0,0))/\l.length=256
theorem CB.lt{W:World}{B:Nat}{l:List Int}{m:Int}(h:CB W B l m):B<W.heap.size:=(AD.1 h.1).1
theorem CB.below{W V:World}{B:Nat}{l:List Int}{m:Int}(h:CB W B l m)(Z:Bt W V):CB V B l m:=⟨(Z.block B h.lt).trans h.1,h.2⟩
theorem CB.cell{W:World}{B:Nat}{l:List Int}{m:Int}(h:CB W B l m){c:Nat}(Y:c<256){v:Int}(Z:l[c]?=some v):W.cell? ⟨B,c,none⟩=some (int i64 v):=by
 obtain⟨h1,h2⟩:=h;have:(l++[m])[c]?=some v:=by rw[By om];exact Z
 simp only[cell?,h1];simp only[Array.getElem?_map,Dy,BU,this,Dw];simp
theorem CB.many{W:World}{B:Nat}{l:List Int}{m:Int}(h:CB W B l m):W.cell? ⟨B,256,none⟩=some (int i64 m):=by
 obtain⟨h1,h2⟩:=h;have:(l++[m])[256]?=some m:=by rw[<-h2];simp
 simp only[cell?,h1];simp only[Array.getElem?_map,Dy,BU,this,Dw];simp
theorem CB.frozen{W:World}{B:Nat}{l:List Int}{m:Int}(h:CB W B l m)(c:Nat):W.frozen? ⟨B,c,none⟩=false:=by simp[frozen?,h.1]
theorem CB.set{W:World}{B:Nat}{l:List Int}{m:Int}(h:CB W B l m){c:Nat}(Z:c<256)(v:Int):CB (W.setCell ⟨B,c,none⟩ (int i64 v)) B (l.set c v) m:=by refine⟨?_,by rw[BG];exact h.2⟩;rw[AJ h.1];have e:(l++[m]).set c v=l.set c v++[m]:=List.set_append_left _ _ (by rw[h.2];exact Z);rw[<-e,Is];simp
theorem CB.setm{W:World}{B:Nat}{l:List Int}{m:Int}(h:CB W B l m)(v:Int):CB (W.setCell ⟨B,256,none⟩ (int i64 v)) B l v:=by
 refine⟨?_,h.2⟩;rw[AJ h.1];have e:(l++[m]).set 256 v=l++[v]:=by rw[<-h.2];simp
 rw[<-e,Is];simp
theorem adZ(B c:Nat)(v:Int)(u:Value)(w:World)(U:c<256)(X:w.cell? ⟨B,c,none⟩=some u)(V:w.frozen? ⟨B,c,none⟩=false) :Calls ZP 219 #[pointer (some ⟨B,0,none⟩),.int .u8 (c:Int),int i64 v] w λe w'=>e=.returned (.tuple #[])/\w'=w.setCell ⟨B,c,none⟩ (int i64 v):=by
 have Y:(0:Int)<=(c:Int):=by omega
 have Z:(c:Int)<256:=by omega
 go_enter func219,ntmps219;go_wp2;refine bodyPost_end (results_none rfl _ _ _) rfl ?_;exact⟨rfl,rfl⟩
theorem adX(B c m:Nat)(l:List Int)(w:World)(I:c<256)(h:CB w B l m)(hm:m<=1000) :Calls ZP 221 #[pointer (some ⟨B,0,none⟩),.int .u8 (c:Int)] w λe w'=>e=.returned (.tuple #[])/\CB w' B (l.set c m) ((m+1:Nat):Int)/\RowKit.Below B w w':=by
  have H:=AA h;have i1:(0:Int)<=(c:Int):=by omega
  have i2:(c:Int)<256:=by omega
  have j:c<l.length:=by rw[h.2];exact I
  obtain⟨u,s⟩:∃u,l[c]?=some u:=⟨l[c],by simp⟩;have D:=AA (h.below (AN w 1));have J:Hid (RowKit.Below B w (w.drewN 1)):=(AN w 1).mono (DP h.lt);have x:=AA (adZ B c m _ w.drew I (D.out.cell I s) (D.out.frozen c));have U:=D.out.many;clear h;go_enter func221,ntmps221;go_upto_region 0 with fail
  refine Vb ?_;refine Va (S:=λV=>RowKit.Below B w V/\V.cell? ⟨B,256,none⟩=some (int i64 (m:Int))) kr ⟨J.out,U⟩ (λhHeld=>?_);refine tkA 0 ?_;refine tkA 1 ?_;refine tkA 2 ?_;refine tkA 3 ?_;refine tkA 4 ?_;refine tkA 5 ?_;refine tkA 6 ?_;refine tkW 7 (v:=?_) ?_ ?_;rotate_left
  ·
    intro V hV;have r0:=hV.2
    first|(go_simp;done)|(go_simp;with_reducible rfl)
  try simp only[pq]
  refine rdy 8 (λK y=>?_);go_simp
  go_at_call 219;refine x.out.mono ?_;rintro e z ⟨rfl,Y⟩
  have Z:CB z B (l.set c m) m:=by rw[Y];exact D.out.set I m
  have X:RowKit.Below B w z:=by rw[Y];exact J.out.setCell (AC _) _
  refine y.out _ _ ⟨X,Z.many⟩ (λN=>?_);clear y K hHeld N Y
  try simp only[pq]
  refine Vd kr ?_ _;refine At ?_;have q1:=Z.many;have q2:=Z.frozen 256;have C:=AA Z;have A:=AA X;clear Z X U;go_wp2;refine bodyPost_end (results_none rfl _ _ _) rfl ?_;refine⟨rfl,?_,A.out.setCell (AC _) _⟩;have h:=C.out.setm (((m+1:Nat)):Int)
  first | exact h | (have e:wrap64 ((m:Int)+1)=((m+1:Nat):Int):=by go_num
                     rw[<-e]at h;exact h)
def Ct(p:Int->Bool)(fold:Bool)(i:Nat):List Int:=(Ac p fold i).1++List.replicate (256-i) 0
theorem akL(p:Int->Bool)(fold:Bool){i:Nat}(h:i<=256):(Ct p fold i).length=256:=by unfold Ct;rw[List.length_append,Ij,CS];omega
theorem anL(p:Int->Bool)(fold:Bool){i j:Nat}(h:j<i):(Ct p fold i)[j]?=(Ac p fold i).1[j]?:=by unfold Ct;rw[By (by rw[Ij];exact h)]
theorem agP(p:Int->Bool)(fold:Bool){i:Nat}(h:i<256)(v:Int):(Ct p fold i).set i v=((Ac p fold i).1++[v])++List.replicate (256-(i+1)) 0:=by
 unfold Ct;have Z:=Ij p fold i;rw[Jm _ _ om,Z,FG,show 256-i=(256-(i+1))+1 by omega,Ip,List.set_cons_zero,CE]
 rfl
theorem ao6{p:Int->Bool}{fold:Bool}{i:Nat}(h:i<256)(Z:p i=false):Ct p fold (i+1)=Ct p fold i/\(Ac p fold (i+1)).2=(Ac p fold i).2:=by
 unfold Ct;rw[Kr,Lc Z];refine⟨?_,rfl⟩;rw[show 256-i=(256-(i+1))+1 by omega,Ip,CE]
 rfl
theorem ai6{p:Int->Bool}{fold:Bool}{i:Nat}(h:i<256)(Y:p i=true)(Z:(fold&&CF i)=true):Ct p fold (i+1)=(Ct p fold i).set i (((Ac p fold i).1[i-32]?).getD 0)/\(Ac p fold (i+1)).2=(Ac p fold i).2:=by rw[agP p fold h];unfold Ct;rw[Kr,Lb (by rw[Y];decide),Lc Z];exact⟨rfl,rfl⟩
theorem ago{p:Int->Bool}{fold:Bool}{i:Nat}(h:i<256)(Y:p i=true)(Z:(fold&&CF i)=false):Ct p fold (i+1)=(Ct p fold i).set i ((Ac p fold i).2:Int)/\(Ac p fold (i+1)).2=(Ac p fold i).2+1:=by rw[agP p fold h];unfold Ct;rw[Kr,Lb (by rw[Y];decide),Lb (by rw[Z];decide)];exact⟨rfl,rfl⟩
theorem an6(fold:Bool)(ws:La){i:Nat}(h:i<256):((Kl fold ws).map bool)[i]?=some (bool (inB fold ws (i:Int))):=by
 unfold Kl;rw[BU,BU,It h]
 rfl
theorem aoK:Tryz.zeroCells284.setIfInBounds 256 (Value.int IntKind.i64 1)=((List.replicate 256 (0:Int)++[1]).map (int i64)).toArray:=by kernel_rfl
theorem af5:(ZP.info? 4).map (λi=>(i.zero,i.size,i.bytes))=some (some (bool false),1,1):=by kernel_rfl
theorem akf{L:Array Value}{i:Nat}{b:Bool}(V:i<256)(h:L[i]?=some (bool b))(w:World):Sem.run ZP (Instr.index 315 (.agg L) (int i64 (i:Int))) w=.ok (bool b) w:=by
 obtain⟨X,Z,_,Y,_⟩:=Ve af5;have e:(0:Int)<=(i:Int)/\(i:Int)<256:=by omega
 unfold Instr.index;simp only[asIntOf,IN,IM,Result.andThen_ok,run_underlying underlying315];simp[e,sizeOf,typeInfo,Z,Y,part,isAgg,run_underlying underlying4,h]
theorem afF(fold:Bool)(a:Option Addr)(la ca:Nat)(wss:La)(w:World)(hA:Wds w a la wss)(av:la<=1000000)(hM:∀x∈wss,x.length<=1000000)(hT:(Ad fold wss).length<=1000000)(hr:An fold wss=true) :Calls ZP 177 #[.agg (AM fold a la ca)] w λe w'=>∃B,e=.returned (.tuple #[pointer (some ⟨B,0,none⟩),bool true])/\CB w' B (BF fold wss) (Ah fold wss:Int)/\w.heap.size<=B/\Bt w w':=by
 obtain⟨W,hW⟩:∃W,W=w.alloc (.cells (AM fold a la ca) 24):=⟨_,rfl⟩;have hB:Bt w W:=by rw[hW];exact AL _ _
 have hO:Bx w.heap.size [.cells (AM fold a la ca) 24] W:=by rw[hW];exact(Bx.nil _ w).snoc _ rfl
 have s0:W.cell? ⟨w.heap.size,0,none⟩=some (bool fold):=hO.cell (i:=0) rfl rfl;have s1:W.cell? ⟨w.heap.size,1,none⟩=some (slice a la ca):=hO.cell (i:=0) rfl rfl;have HC:=AA (aaM fold a la ca wss W (hA.below hB) av hM hT);have HA:=AA (hA.below hB);have HO:=AA hO;have HM:=AA hM;have ax:W.heap.size=w.heap.size+1:=by rw[hW];simp
 have aB:=AA ax;rw[hr]at HC;clear hr hA hO hM ax;go_enter func177,ntmps177;go_upto_region 1 with fail
 rw[<-hW];clear hW
 go_wp2_with fail
 refine HC.out.mono ?_;rintro e w1 ⟨rfl,a6⟩;clear s0 s1 HC;go_upto_region 4 with fail
 obtain⟨W2,a7⟩:∃V,V=w1.alloc (.cells (Tryz.zeroCells284.setIfInBounds 256 (Value.int IntKind.i64 1)) 284):=⟨_,rfl⟩;have ae:Bt w1 W2:=by rw[a7];exact AL _ _
 have H:CB W2 w1.heap.size (List.replicate 256 0) 1:=⟨by rw[a7,aoK];exact AT _ _,by simp⟩;rw[<-a7];clear a7;obtain⟨B,al⟩:∃B,w1.heap.size=B:=⟨_,rfl⟩;have aP:W.heap.size<=B:=by rw[<-al];exact a6.size
 have a2:=a6.trans (ae.mono a6.size);rw[al]at H⊢;clear al ae a6;have ar:=AA a2;have aa:=AA H;have ak:=HO.out.below a2;have s0:W2.cell? ⟨w.heap.size,0,none⟩=some (bool fold):=ak.cell (i:=0) rfl rfl;have s1:W2.cell? ⟨w.heap.size,1,none⟩=some (slice a la ca):=ak.cell (i:=0) rfl rfl;have HH:=AA (anC fold a la ca wss W2 (HA.out.below a2) av HM.out);clear ak H a2
 go_wp2_with fail
 refine HH.out.mono ?_;rintro e W3 ⟨rfl,aj⟩;have ac:=AA (ar.out.trans (aj.mono ar.out.size));have aD:=AA (aa.out.below aj);obtain⟨L,hL⟩:∃L,((Kl fold wss).map bool).toArray=L:=⟨_,rfl⟩;have ix:Hid (∀(i:Nat),i<256->L[i]?=some (bool (inB fold wss (i:Int)))):=λi hi=>by
  rw[<-hL]
  simpa using an6 fold wss hi
 have aQ:L.size=256:=by rw[<-hL];simp[Kl]
 rw[hL];clear s0 s1 HH aj hL aa ar;have aN:B<W3.heap.size:=aD.out.lt;go_wp2
 go_loopw[15] (λaF wr=>∃i:Nat,i<=256/\aF=int i64 i/\CB wr B (Ct (inB fold wss) fold i) ((Ac (inB fold wss) fold i).2:Int)/\RowKit.Below B W3 wr) (λs _=>256-(intOf s).toNat)
 case atStart=>exact⟨0,AR _,rfl,aD.out,Jj _ _⟩
 case round=>
  obtain⟨i,hi,rfl,y,j⟩:=hrel
  by_cases Z:i<256
  ·have hd:decide ((i:Int)<256)=true:=by simp;omega
   have i1:(0:Int)<=(i:Int):=by omega
   have i2:(i:Int)<256:=by omega
   have ag:=ix.out i Z;obtain⟨b,hb⟩:∃b,inB fold wss (i:Int)=b:=⟨_,rfl⟩;rw[hb]at ag;have ad:=λ(V:World)=>akf Z ag V;have aO:IntKind.u8.wrap (i:Int)=(i:Int):=by simp[IntKind.wrap,IntKind.bits,IntKind.signed];omega
   have a8:=AA y;have am:=AA j;have ay:=HO.out.below (ac.out.trans (j.mono (by have:=ac.out.size;have:=aB.out;omega)));have s0:wr.cell? ⟨w.heap.size,0,none⟩=some (bool fold):=ay.cell (i:=0) rfl rfl;have ab:=AA hb;clear y j ay ag hb
   cases b with
   |false=>
    obtain⟨N,C⟩:=ao6 (p:=inB fold wss) (fold:=fold) Z ab.out;have H:CB wr B (Ct (inB fold wss) fold (i+1)) ((Ac (inB fold wss) fold (i+1)).2:Int):=by rw[N,C];exact a8.out
    have aa:=AA H;clear N C H;go_wp2
    go_roundw
    case rel=>exact⟨i+1,by omega,by go_num,aa.out,am.out⟩
    case measure=>simp[intOf];omega
   |true=>
    have af:=Hb (inB fold wss) fold i
    cases fold with
    |false=>
     obtain⟨N,C⟩:=ago (p:=inB false wss) (fold:=false) Z ab.out rfl;have ho:=adX B i (Ac (inB false wss) false i).2 _ wr Z a8.out om;rw[<-N,<-C]at ho;have ap:=AA ho;clear N C ho af
     go_wp2_with fail
     refine ap.out.mono ?_;rintro e w5 ⟨rfl,z,I⟩;have aq:=AA z;clear z ad s0;go_wp2
     go_roundw
     case rel=>exact⟨i+1,by omega,by go_num,aq.out,am.out.trans I⟩
     case measure=>simp[intOf];omega
    |true=>
     have aC:=AA (aeW (i:Int) wr)
     go_wp2_with fail
     refine aC.out.mono ?_;rintro e Y ⟨rfl,ai⟩;have aA:=a8.out.below ai;have D:=AA aA;have aE:=AA (am.out.trans (ai.mono (by have:=a8.out.lt;omega)));clear aA ai s0 ad aC
     cases J:CF (i:Int)with
     |false=>
      obtain⟨N,C⟩:=ago (p:=inB true wss) (fold:=true) Z ab.out (by rw[J];rfl);have ho:=adX B i (Ac (inB true wss) true i).2 _ Y Z D.out om;rw[<-N,<-C]at ho;have ap:=AA ho;clear N C ho af J
      go_wp2_with fail
      refine ap.out.mono ?_;rintro e w5 ⟨rfl,z,I⟩;have aq:=AA z;clear z;go_wp2
      go_roundw
      case rel=>exact⟨i+1,by omega,by go_num,aq.out,aE.out.trans I⟩
      case measure=>simp[intOf];omega
     |true=>
      obtain⟨N,C⟩:=ai6 (p:=inB true wss) (fold:=true) Z ab.out (by rw[J];rfl);obtain⟨p,rfl⟩:∃p,i=p+32:=⟨i-32,by unfold CF at J;have:=Lj J;omega⟩;rw[Jl]at N;obtain⟨v,hv⟩:∃v,(Ac (inB true wss) true (p+32)).1[p]?=some v:=⟨(Ac (inB true wss) true (p+32)).1[p]'(by rw[Ij];omega),by simp⟩;rw[hv,CG]at N;have au:(Ct (inB true wss) true (p+32))[p]?=some v:=by rw[anL _ _ om];exact hv
      obtain⟨u,hu⟩:∃u,(Ct (inB true wss) true (p+32))[p+32]?=some u:=⟨(Ct (inB true wss) true (p+32))[p+32]'(by rw[akL _ _ om];omega),by simp⟩;have aG:p<256:=by omega
      have kg:Hid (∀V,Bt Y V->Calls ZP 220 #[.int .u8 ((p+32:Nat):Int)] V λe w'=>e=.returned (.int .u8 (p:Int))/\Bt V w'):=λV hV=>by
       have h:=abC ((p+32:Nat):Int) V om
       rwa[show((p+32:Nat):Int)-32=(p:Int) by omega]at h
      have ks:Hid (∀V,Bt Y V->Calls ZP 219 #[pointer (some ⟨B,0,none⟩),.int .u8 ((p+32:Nat):Int),int i64 v] V λe w'=>e=.returned (.tuple #[])/\w'=V.setCell ⟨B,p+32,none⟩ (int i64 v)):=λV hV=>
       adZ B (p+32) v _ V Z ((D.out.below hV).cell Z hu) ((D.out.below hV).frozen _)
      have ah:Hid (∀V,Bt Y V->V.cell? ⟨B,p,none⟩=some (int i64 v)):=λV hV=>(D.out.below hV).cell aG au;have aI:=AA N;have aH:=AA C;have j1:(0:Int)<=(p:Int):=by omega
      have j2:(p:Int)<256:=by omega
      have A:=D.out.lt;clear N C hv au hu af J;go_upto_region 11 with fail
      refine Vb ?_;refine Va (S:=λV=>RowKit.Below B Y V/\V.cell? ⟨B,p,none⟩=some (int i64 v)) kr ⟨(AN Y 1).mono (DP A),ah.out _ (AN Y 1)⟩ (λhHeld=>?_);refine tkA 0 ?_;refine tkA 1 ?_;refine tkA 2 ?_;refine tkA 3 ?_;refine tkA 4 ?_;refine tkA 5 ?_;refine tkA 7 ?_;refine tkA 8 ?_;refine tkA 9 ?_;refine rdy 6 (λK hK=>?_);go_simp
      go_at_call 220;refine(kg.out _ (AN Y 1)).mono ?_;rintro e w5 ⟨rfl,I⟩
      have X:Bt Y w5:=(AN Y 1).trans I;refine hK.out _ _ ⟨X.mono (DP A),ah.out _ X⟩ (λU=>?_);clear hK K hHeld;have hHeld:=U;clear U I
      try simp only[pq]
      refine tkA 10 ?_;refine tkW 11 (v:=?_) ?_ ?_;rotate_left
      ·intro V hV;have r0:=hV.2
       first|(go_simp;done)|(go_simp;with_reducible rfl)
      try simp only[pq]
      refine rdy 12 (λK hK=>?_);go_simp
      go_at_call 219;refine(ks.out _ X).mono ?_;rintro e w6 ⟨rfl,a1⟩
      have az:CB w6 B (Ct (inB true wss) true (p+32+1)) ((Ac (inB true wss) true (p+32+1)).2:Int):=by rw[a1,aI.out,aH.out];exact(D.out.below X).set Z v
      have ao:RowKit.Below B Y w6:=by rw[a1];exact(X.mono (DP A)).setCell (AC _) _
      have aw:w6.cell? ⟨B,p,none⟩=some (int i64 v):=by rw[a1,World.cell?_setCell_other _ _ _ _ (λe=>by injection e with e1 e2;omega)];exact ah.out _ X
      refine hK.out _ _ ⟨ao,aw⟩ (λU=>?_);clear hK K hHeld U a1 aw
      try simp only[pq]
      refine Vd kr ?_ _;refine At ?_;have aK:=AA az;have aM:=AA (aE.out.trans ao);clear az ao X;go_wp2
      go_roundw
      case rel=>exact⟨p+32+1,by omega,by go_num,aK.out,aM.out⟩
      case measure=>simp[intOf];omega
  ·obtain rfl:i=256:=by omega
   have hd:decide (((256:Nat):Int)<256)=false:=by decide
   have hz:Ct (inB fold wss) fold 256=BF fold wss:=by unfold Ct BF;simp
   rw[hz]at y;have aJ:=AA y;have aL:=AA j;clear hz y j;go_wp2;go_ret2;exact⟨B,rfl,aJ.out,by have:=hB.size;omega,hB.trans ((ac.out.trans (aL.out.mono (by have:=ac.out.size;have:=aB.out;omega))).mono hB.size)⟩
theorem ae5{fn:Func}{p u v:Tmp}{tmps:Array Value}{W:World}{B:Nat}{cs:Array Value}(h:fn.results=#[.cell p 144,.tmp u,.tmp v])(X:tmps.getD p undef=pointer (some ⟨B,0,none⟩))(hB:W.heap[B]?=some (.cells cs 144 (0,0)))(Y:cs.size=256) :(results fn tmps).run ZP W=.ok (.tuple #[.agg cs,tmps.getD u undef,tmps.getD v undef]) W:=by
 have Z:tmps[p]?.getD undef=pointer (some ⟨B,0,none⟩):=by simpa using X
 simp[results,h,Z,asAddr,run_loadVar_row W B 144 144 cs (0,0) _ hB underlying144 rfl (by rw[Y];exact aiS)]
theorem KE(l:List Int):((l.map (int i64)).toArray).size=l.length:=by simp
theorem acS(l:List Int):((l.map (int i64)).toArray).all (·.oneCell')=true:=by simp[Value.oneCell']
abbrev apD(l:List Int):Value:=.agg (l.map (int i64)).toArray
theorem acM{c:Bool}{p q:Prop}(Z:c=true)(h:p):if c=true then p else q:=by rw[Lc Z];exact h
theorem akJ(fold:Bool)(a:Option Addr)(J ca:Nat)(wss:La)(w:World)(hA:Wds w a J wss)(a2:J<=1000000)(hM:∀x∈wss,x.length<=1000000)(hT:(Ad fold wss).length<=1000000)(hr:An fold wss=true) :Calls ZP 128 #[.agg (AM fold a J ca)] w λe w'=>e=.returned (.tuple #[apD (BF fold wss),int i64 (Ah fold wss),int i64 0])/\Bt w w':=by
 obtain⟨W,hW⟩:∃W,W=(w.alloc (.cells (AM fold a J ca) 24)).alloc (.cells Tryz.zeroCells144 144):=⟨_,rfl⟩;have hB:Bt w W:=by rw[hW];exact((AH _ _).alloc (AC _) _).alloc sm _
 have hO:Bx w.heap.size [.cells (AM fold a J ca) 24,.cells Tryz.zeroCells144 144] W:=by rw[hW];exact((Bx.nil _ w).snoc _ rfl).snoc _ sm
 have s0:W.cell? ⟨w.heap.size,0,none⟩=some (bool fold):=hO.cell (i:=0) rfl rfl;have s1:W.cell? ⟨w.heap.size,1,none⟩=some (slice a J ca):=hO.cell (i:=0) rfl rfl;have HC:=AA (afF fold a J ca wss W (hA.below hB) a2 hM hT hr);have HO:=AA hO;clear hr hO;go_enter func128,ntmps128;go_upto_region 1 with fail
 rw[<-hW];clear hW
 go_wp2_with fail
 refine HC.out.mono ?_;rintro e Z ⟨B,rfl,s,aa,H⟩;have h1:Z.heap[w.heap.size+1]?=some (.cells Tryz.zeroCells144 144 (0,0)):=(HO.out.below H) 1 _ rfl;rw[amX]at h1;have H1:=AA h1;have X:=AA s;obtain⟨L,hL⟩:∃L,BF fold wss=L:=⟨_,rfl⟩;obtain⟨M,C⟩:∃M:Int,(Ah fold wss:Int)=M:=⟨_,rfl⟩;rw[hL,C]at X;have a7:=AA hL;have a6:=AA C;have Y:L.length=256:=X.out.2;have hi:(ZP.info? 144).map (·.size)=some ((L.map (int i64))).length:=by rw[BP,Y];exact aiS
 have HI:=AA hi;have y:Hid (∀V,CB V B L M->V.rangeAt B 0 (L.map (int i64))/\V.cell? ⟨B,256,none⟩=some (int i64 M)):=λV h=>by refine⟨λj v hv=>?_,h.many⟩;rw[BU,Fo]at hv;obtain⟨x,hx,rfl⟩:=hv;rw[DD];exact h.cell (by have:=(AP.1 hx).1;omega) hx
 have a8:w.heap.size+1<W.heap.size:=(AD.1 (HO.out 1 _ rfl)).1;have a1:B≠w.heap.size+1:=by omega
 have U:w.heap.size+1<Z.heap.size:=by have:=H.size;omega
 clear h1 s hi s0 s1 HC hL C;go_upto_region 4 with fail
 refine Vb ?_;refine Va (S:=λV=>CB V B L M/\RowKit.Below (w.heap.size+1) Z V) kr ⟨X.out.below (AN Z 1),(AN Z 1).mono (DP U)⟩ (λhHeld=>?_);refine tkA 0 ?_;refine tkA 1 ?_;refine tkA 2 ?_;refine tkA 3 ?_;refine' wpAnyH_take (i:=4) (v:=_) (by simp only[pD,pE,pF];rfl) kr kr kr (λ_ _ _ h=>h) (yieldsIf_load_mid (by rfl) _ _ rfl B 0 rfl (L.map (Value.int .i64)) _ (λV hV=>(y.out V hV.1).1) underlying144 rfl HI.out) (by assumption) ?_
 try simp only[pq]
 refine tkA 5 ?_;refine tkA 6 ?_;refine tkA 7 ?_;refine tkW 8 (v:=?_) ?_ ?_;rotate_left
 ·intro V hV;have r0:=(y.out V hV.1).2
  first|(go_simp;done)|(go_simp;with_reducible rfl)
 try simp only[pq]
 refine rdy 9 (λK hK=>?_);have I:Z.drew.heap[w.heap.size+1]?=some (.cells ((List.replicate 256 (0:Int)).map (int i64)).toArray 144 (0,0)):=H1.out;have z:(ZP.info? 144).map (·.size)=some (((L.map (int i64))).toArray).size:=by rw[Cw];exact HI.out
 refine acM kr ?_;refine wp_store_row 144 _ _ rfl (w.heap.size+1) _ rfl rfl 144 _ I z (by rw[KE,KE];rw[Y];rfl) (acS L) ?_;have h2:=setRow_heap Z.drew (w.heap.size+1) _ ((L.map (int i64)).toArray) _ _ I;have H2:=AA h2;have D:CB (Z.drew.setRow (w.heap.size+1) ((L.map (int i64)).toArray)) B L M/\RowKit.Below (w.heap.size+1) Z (Z.drew.setRow (w.heap.size+1) ((L.map (int i64)).toArray)):=
  ⟨⟨(setRow_other _ _ _ _ a1).trans (X.out.below (AN Z 1)).1,Y⟩,MF ((AN Z 1).mono (DP U)) (AC _) _⟩
 clear h2 I z;obtain⟨w2,A⟩:∃w2,w2=Z.drew.setRow (w.heap.size+1) ((L.map (int i64)).toArray):=⟨_,rfl⟩;rw[<-A]at H2 D⊢;clear A;refine hK.out _ _ D (λN=>?_);clear hK K hHeld;have hHeld:=N;clear N
 try simp only[pq]
 refine tkA 10 ?_;refine tkA 11 ?_;refine Vd kr ?_ _;refine At ?_
 go_wp2_with fail
 refine Vf (ae5 rfl rfl H2.out (by rw[KE];exact Y)) rfl ?_;rw[<-a7.out,<-a6.out];exact⟨rfl,hB.trans ((H.mono hB.size).trans (D.2.mono om))⟩
section
variable {ws:La}
theorem alj{i:Nat}{x:List Int}(Z:(AB ws)[i]?=some x):(AG ws).wrd[i]?=some (CW ws x):=by simp[AG,Z]
theorem aeh:(AG ws).up.length=(AB ws).length/\(AG ws).dep.length=(AB ws).length/\(AG ws).wrd.length=(AB ws).length/\(AG ws).byt.length=(AB ws).length:=by simp[AG]
end
def lsf(N:La):List Int->List Int
 |[]=>[]
 |a::t=>if(a::t)∈N then a::t else lsf N t
theorem Gb(N:La):∀b,lsf N b <:+b
 |[]=>List.suffix_refl _
 |a::t=>by
  unfold lsf
  split
  ·exact List.suffix_refl _
  ·exact(Gb N t).trans (List.suffix_cons a t)
theorem Id{N:La}(h0:[]∈N):∀b,lsf N b∈N
 |[]=>h0
 |a::t=>by
  unfold lsf
  split
  ·assumption
  ·exact Id h0 t
theorem Lv{N:La}{y:List Int}(Z:y∈N):∀{b},y <:+b->y.length<=(lsf N b).length
 |[],h=>by rw[List.eq_nil_of_suffix_nil h];exact AR _
 |a::t,h=>by
  unfold lsf
  split
  ·exact h.length_le
  ·rename_i Y
   rcases List.suffix_cons_iff.1 h with e|h
   ·rw[e]at Z;exact absurd Z Y
   ·exact Lv Z h
theorem Lu{N:La}{b:List Int}(h:b∈N):lsf N b=b:=by
 cases b with
 |nil=>rfl
 |cons a t=>unfold lsf;rw[Lc h]
theorem ajY{x y b:List Int}(Y:x <:+b)(Z:y <:+b)(h:x.length=y.length):x=y:=by obtain⟨s,rfl⟩:=Y;obtain⟨t,X⟩:=Z;exact(List.append_inj_right' X.symm om)
theorem aaP{N:La}{b y:List Int}(Y:y∈N)(Z:y <:+b)(h0:[]∈N)(X:∀z,z <:+b->z∈N->z.length<=y.length):lsf N b=y:=by have h1:=Lv Y Z;have h2:=X _ (Gb N b) (Id h0 b);exact ajY (Gb N b) Z om
def Pre(N:La):Prop:=[]∈N/\∀x c,x++[c]∈N->x∈N
theorem afk{y b:List Int}{c:Int}(h:y <:+b++[c]):y=[]∨∃z,y=z++[c]/\z <:+b:=by
 by_cases e:y=[]
 ·exact .inl e
 ·right
  obtain⟨s,Z⟩:=h;have h1:=Em e;rw[<-h1,<-CE]at Z;obtain⟨h2,h3⟩:=List.append_inj' Z rfl;refine⟨y.dropLast,?_,s,h2⟩;have h4:y.getLast e=c:=by simpa using h3
  rw[<-h4,h1]
theorem Ng{N:La}(V:Pre N)(s:List Int)(c:Int):lsf N (s++[c])=lsf N (lsf N s++[c]):=by
 refine aaP (Id V.1 _) ?_ V.1 (λz I J=>?_)
 ·refine(Gb N _).trans ?_;obtain⟨t,Y⟩:=Gb N s;exact⟨t,by rw[<-CE,Y]⟩
 ·rcases afk I with rfl|⟨y,rfl,U⟩
  ·exact AR _
  ·have Z:=V.2 _ _ J;have X:=Lv Z U;refine Lv J ?_;obtain⟨t,Y⟩:=List.suffix_of_suffix_length_le U (Gb N s) X;exact⟨t,by rw[<-CE,Y]⟩
def EC(N:La)(x:List Int):List Int:=lsf N x.tail
def GH(N:La):Nat->List Int->La
 |0,x=>[x]
 |n+1,x=>if x=[] then [x] else x::GH N n (EC N x)
theorem Lx{N:La}{x:List Int}(h:x≠[]):(EC N x).length<x.length:=by have h1:=(Gb N x.tail).length_le;have:x.length≠0:=λe=>h (Bz e);rw[List.length_tail]at h1;unfold EC;omega
theorem afr(N:La)(n:Nat)(x:List Int):∃l,GH N n x=x::l:=by
 cases n with
 |zero=>exact⟨[],rfl⟩
 |succ n=>
  unfold GH
  split
  ·exact⟨[],rfl⟩
  ·exact⟨_,rfl⟩
theorem ady{N:La}{c:Int}(h:[c] ∉ N):lsf N [c]=[]:=by
 unfold lsf;rw[Lb h]
 rfl
theorem Oh{N:La}(Y:Pre N)(c:Int):∀{n:Nat}{x:List Int},x∈N->x.length<=n->
  lsf N (x++[c])=match (GH N n x).find? (λy=>decide (y++[c]∈N))with|some y=>y++[c]|none=>[]
 |n,x,hx,hn=>by
  by_cases hk:x++[c]∈N
  ·rw[Lu hk];obtain⟨l,V⟩:=afr N n x;rw[V,List.find?_cons,Lz hk]
  ·cases n with
   |zero=>
    have:x=[]:=Bz om;subst this;have Z:[c] ∉ N:=hk;show lsf N [c]=_;rw[ady Z];unfold GH;rw[List.find?_cons,decide_eq_false hk]
    rfl
   |succ n=>
    unfold GH
    by_cases e:x=[]
    ·subst e;have Z:[c] ∉ N:=hk;show lsf N [c]=_;rw[ady Z,Lc rfl,List.find?_cons,decide_eq_false hk]
     rfl
    ·rw[Lb e,List.find?_cons,decide_eq_false hk];dsimp only;have X:=Oh Y c (n:=n) (x:=EC N x) (Id Y.1 _) (by have:=Lx (N:=N) e;omega);rw[<-X];unfold EC;rw[<-Ng Y]
     cases x with
     |nil=>exact absurd rfl e
     |cons a t=>
      have Z:a::(t++[c]) ∉ N:=hk;show lsf N (a::(t++[c]))=lsf N (t++[c])
      conv=>lhs;unfold lsf
      rw[Lb Z]
theorem KQ(ws:La):Pre (AB ws):=
 ⟨(DT ws).2 (.inl rfl),λx c h=>by have:=((DT ws).1 h).up;rw[LJ]at this;exact(DT ws).2 this⟩
theorem al2{N:La}{b:List Int}{k:Nat}(hk:k<b.length)(h:b.drop k ∉ N):lsf N (b.drop k)=lsf N (b.drop (k+1)):=by
 rw[List.drop_eq_getElem_cons hk]at h⊢
 conv=>lhs;unfold lsf
 rw[Lb h]
theorem afH{ws:La}{i k:Nat}{x y:List Int}(V:(AB ws)[i]?=some x)(Z:(AB ws)[k]?=some y)(h:y.length<x.length):k<i:=by
 have h1:=(AP.1 V);have h2:=(AP.1 Z)
 rcases Nat.lt_trichotomy k i with Y|rfl|X
 ·exact Y
 ·rw[V]at Z;have:=AK Z;rw[this]at h;omega
 ·have:=List.pairwise_iff_getElem.1 (CL ws) i k h1.1 h2.1 X;rw[h1.2,h2.2]at this;have:=ag6 this;omega
def Gc(ws:La)(x:List Int):Int:=CW (AB ws) (EC (AB ws) x)
def Bo(ws:La):List Int:=(AB ws).map (Gc ws)
theorem acQ{ws:La}(x:List Int):∃k:Nat,Gc ws x=k/\(AB ws)[k]?=some (EC (AB ws) x):=by have Z:=Id (KQ ws).1 x.tail;obtain⟨k,hk⟩:=DR Z;exact⟨k,CV (CL ws).nodup hk,hk⟩
theorem anK{ws:La}{x:List Int}{c:Int}(h0:x≠[]):EC (AB ws) (x++[c])=lsf (AB ws) (EC (AB ws) x++[c]):=by
 unfold EC;rw[<-Ng (KQ ws)]
 cases x with
 |nil=>exact absurd rfl h0
 |cons a t=>rfl
theorem akI{ws:La}(c:Int):EC (AB ws) [c]=[]:=rfl
def an1(b e:List Int):Bool:=decide (e.length<=b.length)&&decide (b.drop (b.length-e.length)=e)
theorem ajO{b e:List Int}:an1 b e=true↔e <:+b:=by
 unfold an1;rw[Bq,decide_eq_true_iff,decide_eq_true_iff]
 constructor
 ·rintro⟨_,h⟩;exact List.suffix_iff_eq_drop.2 h.symm
 ·intro h;exact⟨h.length_le,(List.suffix_iff_eq_drop.1 h).symm⟩
section
variable {ws:La}
theorem alt(b:List Int)(c:Int):an1 (b++[c]) (lsf (AB ws) (b++[c]))=true/\(lsf (AB ws) (b++[c])).length<=(lsf (AB ws) b).length+1/\lsf (AB ws) (b++[c])=lsf (AB ws) (lsf (AB ws) b++[c]):=by have h:=Ng (KQ ws) b c;refine⟨ajO.2 (Gb _ _),?_,h⟩;rw[h];have:=(Gb (AB ws) (lsf (AB ws) b++[c])).length_le;rw[List.length_append,OK]at this;exact this
end
section
open Go Go.RowKit Go.Sort
def Dp(U B:List Int):Nat->Int×Int->Option Int
 |0,_=>none
 |j+1,q=>if q=((U[j+1]?).getD 0,(B[j+1]?).getD 0) then some ((j:Int)+1) else Dp U B j q
theorem acF{U B:List Int}{q:Int×Int}{k:Int}:∀{j:Nat},Dp U B j q=some k->∃i:Nat,1<=i/\i<=j/\k=i/\q=((U[i]?).getD 0,(B[i]?).getD 0)
 |0,h=>by simp[Dp]at h
 |j+1,h=>by
  unfold Dp at h
  split at h
  ·rename_i Z
   exact⟨j+1,by omega,AC _,by have:=AK h;omega,Z⟩
  ·obtain⟨i,h1,h2,h3⟩:=acF h;exact⟨i,h1,by omega,h3⟩
theorem acw{U B:List Int}{q:Int×Int}:∀{j:Nat},Dp U B j q=none->∀i:Nat,1<=i->i<=j->q≠((U[i]?).getD 0,(B[i]?).getD 0)
 |0,h,i,h1,h2=>by omega
 |j+1,h,i,h1,h2=>by
  unfold Dp at h
  split at h
  ·cases h
  ·rename_i Z
   by_cases e:i=j+1
   ·subst e;exact Z
   ·exact acw h i h1 om
section
variable {ws:La}
theorem EM{i:Nat}{x:List Int}(Z:(AB ws)[i]?=some x):i=0↔x=[]:=by
 have h0:=CM ws
 constructor
 ·rintro rfl;rw[h0]at Z;exact(AK Z).symm
 ·rintro rfl;have h1:=CV (CL ws).nodup Z;have h2:=CV (CL ws).nodup h0;omega
theorem alO{i k:Nat}{x:List Int}(Z:(AB ws)[i]?=some x)(hk:(AB ws)[k]?=some x):i=k:=by have h1:=CV (CL ws).nodup Z;have h2:=CV (CL ws).nodup hk;omega
theorem JC{i:Nat}{y:List Int}(Z:(AB ws)[i]?=some y):(AG ws).up[i]?=some (CW (AB ws) y.dropLast)/\(AG ws).byt[i]?=some (DU y)/\(AG ws).dep[i]?=some (y.length:Int)/\(AG ws).wrd[i]?=some (CW ws y):=by simp[AG,Z]
theorem LR{y:List Int}(Z:y∈AB ws):y.dropLast∈AB ws:=(DT ws).2 ((DT ws).1 Z).up
theorem Om{y:List Int}(h:y≠[]):y=y.dropLast++[DU y]:=by obtain⟨q,Z⟩:∃q,y.length=q+1:=⟨y.length-1,by have:y.length≠0:=λe=>h (Bz e);omega⟩;unfold DU;rw[MV h];exact(Em h).symm
theorem ajk{z:Nat}{x:List Int}(C:(AB ws)[z]?=some x)(c:Int) :Dp (AG ws).up (AG ws).byt ((AB ws).length-1) ((z:Int),c)=if x++[c]∈AB ws then some (CW (AB ws) (x++[c])) else none:=by
 have Z:=(CL ws).nodup
 cases e:Dp (AG ws).up (AG ws).byt ((AB ws).length-1) ((z:Int),c)with
 |some k=>
  obtain⟨i,h1,h2,rfl,N⟩:=acF e;obtain⟨y,Y⟩:∃y,(AB ws)[i]?=some y:=⟨(AB ws)[i]'om,by simp⟩;obtain⟨u1,X,_⟩:=JC Y;rw[u1,X]at N;simp only[CG,Jk]at N;have V:y≠[]:=λD=>by have:=(EM Y).2 D;omega
  obtain⟨j,I⟩:=DR (LR (AX Y));have h:=CV Z I;have J:j=z:=by omega
  subst J;rw[C]at I;have U:x++[c]=y:=by rw[AK I,N.2];exact(Om V).symm
  rw[U,Lc (AX Y),CV Z Y]
 |none=>
  rw[Lb];intro B;obtain⟨i,H⟩:=DR B;have A:=(AP.1 H).1;have s:i≠0:=λD=>by have:=(EM H).1 D;simp at this
  obtain⟨u1,X,_⟩:=JC H;refine acw e i om om ?_;rw[u1,X];simp only[CG,Jk,LJ];refine⟨(CV Z C).symm,?_⟩;simp[DU]
def chN(L:List Int):Nat->Nat->List Nat
 |0,z=>[z]
 |f+1,z=>if z=0 then [z] else z::chN L f ((L[z]?).getD 0).toNat
def IK(ws:La)(L:List Int)(i:Nat):Prop:=∀(j:Nat)(x:List Int),j<i->(AB ws)[j]?=some x->L[j]?=some (Gc ws x)
theorem IK.at_{L:List Int}{i z:Nat}(h:IK ws L i){x:List Int}(X:z<i)(Z:(AB ws)[z]?=some x)(h0:z≠0):∃k:Nat,L[z]?=some (k:Int)/\k<z/\(AB ws)[k]?=some (EC (AB ws) x):=by obtain⟨k,h1,h2⟩:=acQ (ws:=ws) x;have Y:=h z x X Z;rw[h1]at Y;refine⟨k,Y,afH Z h2 (Lx λe=>h0 ((EM Z).2 e)),h2⟩
theorem adl{L:List Int}{i:Nat}(h:IK ws L i):∀{f g z:Nat}{x:List Int},z<i->z<=f->(AB ws)[z]?=some x->x.length<=g->(chN L f z).map (λk=>(AB ws)[k]?)=(GH (AB ws) g x).map some
 |0,g,z,x,hz,hf,hx,hg=>by
  obtain rfl:z=0:=by omega
  have Z:=(EM hx).1 rfl;subst Z
  cases g<;>simp[chN,GH,hx]
 |f+1,g,z,x,hz,hf,hx,hg=>by
  unfold chN
  by_cases h0:z=0
  ·subst h0;have Z:=(EM hx).1 rfl;subst Z
   cases g<;>simp[GH,hx]
  ·have Z:x≠[]:=λe=>h0 ((EM hx).2 e);obtain⟨k,h1,h2,h3⟩:=h.at_ hz hx h0;obtain⟨g',rfl⟩:∃g',g=g'+1:=⟨g-1,by have:x.length≠0:=λe=>Z (Bz e);omega⟩;unfold GH;rw[Lb h0,Lb Z,h1,BO,BO,hx,CG,Aa,adl (g:=g') h om om h3 (by have:=Lx (N:=AB ws) Z;omega)]
theorem alI{L:List Int}{i f g z0:Nat}(h:IK ws L i){x:List Int}(V:z0<i)(I:z0<=f)(U:(AB ws)[z0]?=some x)(J:x.length<=g){p:List Nat}{r:List Nat}(N:chN L f z0=p++r) :∃Y Z,GH (AB ws) g x=Y++Z/\p.map (λk=>(AB ws)[k]?)=Y.map some/\r.map (λk=>(AB ws)[k]?)=Z.map some:=by have X:=adl h V I U J;rw[N,Aj]at X;obtain⟨Y,Z,h1,h2,h3⟩:=List.map_eq_append_iff.1 X.symm;exact⟨Y,Z,h1,h2.symm,h3.symm⟩
theorem ael{c:Int}{p:List Nat}{Y:La}(V:p.map (λk=>(AB ws)[k]?)=Y.map some)(U:∀y∈p,Dp (AG ws).up (AG ws).byt ((AB ws).length-1) ((y:Int),c)=none):∀y∈Y,¬(y++[c]∈AB ws):=by
 intro y X N;have:some y∈p.map (λk=>(AB ws)[k]?):=by rw[V];exact List.mem_map_of_mem X
 obtain⟨k,hk,Z⟩:=Be.1 this;have h1:=U k hk;rw[ajk Z,Lc N]at h1
 cases h1
theorem aiZ{L:List Int}{i f z0 z:Nat}(h:IK ws L i){x:List Int}(N:z0<i)(C:z0<=f)(X:(AB ws)[z0]?=some x){p r:List Nat}{c k:Int}(I:chN L f z0=p++[z]++r)
  (D:∀y∈p,Dp (AG ws).up (AG ws).byt ((AB ws).length-1) ((y:Int),c)=none) (hk:Dp (AG ws).up (AG ws).byt ((AB ws).length-1) ((z:Int),c)=some k):k=CW (AB ws) (lsf (AB ws) (x++[c])):=by
 obtain⟨A,B,h1,h2,_⟩:=alI h N C X (AC _) I;rw[Aj]at h2;obtain⟨U,Y,rfl,h3,h4⟩:=List.map_eq_append_iff.1 h2.symm;obtain⟨y,rfl,J⟩:∃y,Y=[y]/\(AB ws)[z]?=some y:=by
  cases Y with
  |nil=>simp at h4
  |cons y t=>
   cases t with
   |nil=>exact⟨y,rfl,by simpa using h4.symm⟩
   |cons _ _=>simp at h4
 rw[ajk J]at hk;have V:y++[c]∈AB ws:=by
  by_cases e:y++[c]∈AB ws
  ·exact e
  ·rw[Lb e]at hk;cases hk
 rw[Lc V]at hk;rw[Oh (KQ ws) c (AX X) (AC _),h1];have Z:U.find? (λy=>decide (y++[c]∈AB ws))=none:=by
  rw[List.find?_eq_none];intro q H
  simpa using ael h3.symm D q H
 rw[CE,List.find?_append,Z];simp[V];exact(AK hk).symm
theorem ajN{L:List Int}{i f z0:Nat}(h:IK ws L i){x:List Int}(X:z0<i)(N:z0<=f)(Y:(AB ws)[z0]?=some x){c:Int}
  (U:∀y∈chN L f z0,Dp (AG ws).up (AG ws).byt ((AB ws).length-1) ((y:Int),c)=none):(0:Int)=CW (AB ws) (lsf (AB ws) (x++[c])):=by
 have J:=adl h X N Y (AC _);rw[Oh (KQ ws) c (AX Y) (AC _)];have Z:(GH (AB ws) x.length x).find? (λy=>decide (y++[c]∈AB ws))=none:=by
  rw[List.find?_eq_none];intro q V
  simpa using ael J U q V
 rw[Z];have:=CV (CL ws).nodup (CM ws);simp[this]
theorem JP{j:Nat}{x:List Int}(Z:(AB ws)[j]?=some x):(Bo ws)[j]?=some (Gc ws x):=by simp[Bo,Z]
theorem aiJ(ws:La)(i:Nat):IK ws (Bo ws) i:=λj x _ Z=>JP Z
theorem am7{j u:Nat}{x:List Int}(V:(AB ws)[j]?=some x)(h0:j≠0)(N:(AG ws).up[j]?=some (u:Int)) :∃y,(AB ws)[u]?=some y/\u<j/\(AG ws).byt[j]?=some (DU x)/\x=y++[DU x]/\(u=0->Gc ws x=0)/\(u≠0->∃(k:Nat)(v:List Int),Gc ws y=k/\(AB ws)[k]?=some v/\Gc ws x=CW (AB ws) (lsf (AB ws) (v++[DU x]))):=by
 have Y:x≠[]:=λe=>h0 ((EM V).2 e);obtain⟨u1,J,_⟩:=JC V;obtain⟨q,X⟩:=DR (LR (AX V));have I:=CV (CL ws).nodup X;rw[u1,I]at N;obtain rfl:q=u:=by have:=AK N;omega
 have Z:=Om Y;refine⟨x.dropLast,X,afH V X (by rw[List.length_dropLast];have:x.length≠0:=λe=>Y (Bz e);omega),J,Z,λe=>?_,λe=>?_⟩
 ·have U:x.dropLast=[]:=(EM X).1 e;rw[U]at Z;unfold Gc;rw[Z];show CW (AB ws) (EC (AB ws) ([]++[DU x]))=0;rw[Av,akI];exact CV (CL ws).nodup (CM ws)
 ·have U:x.dropLast≠[]:=λH=>e ((EM X).2 H);obtain⟨k,h1,h2⟩:=acQ (ws:=ws) x.dropLast;refine⟨k,_,h1,h2,?_⟩;rw[<-anK U,<-Z]
  rfl
end
end
section
abbrev Sv:=Option Addr×Nat×Nat
abbrev svV(v:Sv):Value:=slice v.1 v.2.1 v.2.2
structure GM(g n:Nat)(l:La)(W:World):Prop where
 ex:∃vs:List Sv,W.heap[g]?=some (.cells (vs.map svV).toArray 32 (0,0))/\vs.length=n/\l.length<=n/\∀(i:Nat)(v:Sv)(x:List Int),vs[i]?=some v->l[i]?=some x->Bys W v.1 v.2.1 x/\v.2.1<=v.2.2
theorem aj9:(ZP.info? 32).map (λi=>(i.zero,i.size,i.bytes))=some (some (slice none 0 0),1,24):=by kernel_rfl
def GW(n:Nat):Array Value:=Array.replicate n (slice none 0 0)
theorem agW(n:Nat):madeCells (slice none 0 0).cells n=GW n:=by
 apply Array.ext
 ·simp[madeCells,GW]
 ·intro i h1 h2;simp[madeCells,GW,Value.cells,Nat.mod_one]
theorem aiI{T:Ay}{i:Nat}(Y:1<=i)(h:Cy T i=none):∀k,i<=k->Cy T k=none:=by
 intro k hk;obtain⟨d,rfl⟩:∃d,k=i+d:=⟨k-i,by omega⟩;clear hk
 induction d with
 |zero=>exact h
 |succ d ih=>
  obtain⟨j,Z⟩:∃j,i+d=j+1:=⟨i+d-1,by omega⟩;rw[show i+(d+1)=j+2 by omega];unfold Cy;rw[<-Z,ih]
  rfl
theorem Bys.setSl{w:World}{a:Option Addr}{n:Nat}{x:List Int}(h:Bys w a n x){g i:Nat}{N:List Sv}{t:TypeId}(H:w.heap[g]?=some (.cells (N.map svV).toArray t (0,0)))(u:Value):Bys (w.setCell ⟨g,i,none⟩ u) a n x:=by
 refine⟨⟨h.1.1,?_⟩,h.2⟩
 rcases h.1.2 with h0|⟨b,off,e,Z,U⟩
 ·exact .inl h0
 ·by_cases I:x=[]
  ·left;have:=h.1.1;rw[I]at this;simpa using this.symm
  ·refine .inr ⟨b,off,e,by simpa[World.setCell]using Z,λj y V=>?_⟩;have X:g≠b:=by
    rintro rfl;have Y:=U j y V;rw[cell_of_row w g (off+j) _ _ _ H]at Y;simp only[Dy,BU,Fo]at Y;obtain⟨v,_,J⟩:=Y
    cases J
   rw[OG _ _ _ _ X];exact U j y V
theorem GM.step{g n i:Nat}{l:La}{W U:World}(z:GM g n l W)(A:l.length=i)(s:i<n)(hB:Bt W U){a:Option Addr}{m c:Nat}{x:List Int}(D:Bys U a m x)(C:m<=c) :GM g n (l++[x]) (U.setCell ⟨g,i,none⟩ (slice a m c)):=by
 obtain⟨H,Y,N,B,X⟩:=z.ex;have h2:U.heap[g]?=_:=(hB.block g (AD.1 Y).1).trans Y;refine⟨H.set i (a,m,c),?_,by simp[N],by simp;omega,λj v y V Z=>?_⟩
 ·have:=AJ (i:=i) h2 (slice a m c)
  simpa[Is,svV]using this
 ·by_cases I:j=i
  ·subst I;rw[FU om]at V;obtain rfl:=AK V;rw[<-A,MX]at Z;obtain rfl:=AK Z;exact⟨D.setSl h2 _,C⟩
  ·rw[FH (Ne.symm I)]at V;have J:=(AP.1 Z).1;rw[By (by simp at J;omega)]at Z;obtain⟨h3,h4⟩:=X j v y V Z;exact⟨(h3.below hB).setSl h2 _,h4⟩
theorem Ol{T:Ay}:∀{i:Nat}{l:La},Cy T i=some l->∀x∈l,x.length<i
 |0,l,h=>by simp[Cy]at h
 |1,l,h=>by simp[Cy]at h;subst h;simp
 |i+2,l,h=>by
  unfold Cy at h;obtain⟨V,h0,h1⟩:=Io.1 h;have Y:=Ol h0
  split at h1
  ·split at h1
   ·obtain⟨p,X,rfl⟩:=Fo.1 h1;intro x Z
    rcases Bf.1 Z with Z|Z
    ·have:=Y x Z;omega
    ·rw[Fq]at Z;subst Z;have:=Y p (AX X);simp;omega
   ·cases h1
  ·cases h1
theorem Mt{P:Program}{w:World}{V:Array Oper}{o:Oper}{a:Act}{K:Act->World->Prop}{Q:Exit->Act->World->Prop}{E:Prop}(H:o.guard=none)(s x:Operand)(t:TypeId)
  (ho:o.op=.call {callee:=.builtin .append,args:=#[s,x],argTypes:=#[t,t]}) {α:Type} {enc:α->Value} (N:∀x,(enc x).oneCell'=true)
  (base:Nat) (e:TypeId) (i:TypeInfo) (z:Value) (bytes:Nat) (ht:P.underlying t=some (.slice e)) (hi:P.info? e=some i) (B:i.zero=some z) (Y:i.size=1) (D:i.bytes=bytes) (J:z.cells.size=1)
  (v:Value) (n:Nat) (xs:List Value) (hs:a.eval s=v) (U:w.ownsRow base e 1 v n xs) (A:Option Addr) (m c:Nat) (ys:List α) (y:a.eval x=slice A m c) (I:Sl1 enc w A m ys)
  (C:n+m<=maxLen) (Z:(n+m)*bytes<=140737488355328) (X:base<=w.heap.size)
  (h:∀v' w',w'.ownsRow base e 1 v' (n+m) (xs++ys.map enc)->w.grownBy w' v.ownBlock->(v'.ownBlock=v.ownBlock∨v'.ownBlock=some w.heap.size)->K (a.put o.dst v') w') :
  if Region.wanted o (yielded V a.tmps)=true then Oper.wp P o a w K Q else E:=by
 have j:Region.wanted o (yielded V a.tmps)=true:=by simp[Region.wanted,H]
 rw[Lc j];obtain⟨v',w',hr,h2,h3,h4⟩:=aak (P:=P) N w base t o.type e i z bytes ht hi B Y D J v n xs U A m c ys I C Z X;unfold Oper.wp execOp;simp only[ho,resolve,invoke,builtin,IN,IM,Result.andThen_ok,LI,BO,DE,hs,y,hr];exact h v' w' h2 h3 h4
attribute[local go_sem ↓] Go.wp_at_zero Go.wp_at_succ
theorem ajf(t:TV)(T:Ay)(w:World)(hT:Tri w t T)(hb:t.un<=140737488351232) :Calls ZP 276 #[.agg t.cells] w λe w'=>(∀D,spO T=some D->∃g,e=.returned (.tuple #[slice (some ⟨g,0,none⟩) D.length D.length,bool true])/\w.heap.size<=g/\GM g D.length D w')/\(spO T=none->e=.returned (.tuple #[slice none 0 0,bool false]))/\Bt w w':=by
  obtain⟨ua,un,uc,da,dn,dc,xa,xn,xc,ba,bn,bc⟩:=t;dsimp only at hb;obtain⟨W,hW⟩:∃W,W=w.alloc (.cells #[slice ua un uc,slice da dn dc,slice xa xn xc,slice ba bn bc] 150):=⟨_,rfl⟩;have hB:Bt w W:=by rw[hW];exact AL _ _
  have hO:Bx w.heap.size [.cells #[slice ua un uc,slice da dn dc,slice xa xn xc,slice ba bn bc] 150] W:=by rw[hW];exact(Bx.nil _ w).snoc _ rfl
  have ah:=hT.below hB
  by_cases ad:1<=un/\un<=400/\bn=un/\dn=un/\xn=un
  ·
    obtain⟨h1,h2,e1,e2,e3⟩:=ad;subst e1 e2 e3;have HO:Hid (spO T=Cy T xn):=by unfold Hid spO;rw[hT.up.1,hT.byt.1.1,hT.dep.1,hT.wrd.1,Lc ⟨h1,h2,rfl,rfl,rfl⟩]
    have c0:W.cell? ⟨w.heap.size,0,none⟩=some (slice ua _ uc):=hO.cell (i:=0) rfl rfl;have c1:W.cell? ⟨w.heap.size,1,none⟩=some (slice da _ dc):=hO.cell (i:=0) rfl rfl;have c2:W.cell? ⟨w.heap.size,2,none⟩=some (slice xa _ xc):=hO.cell (i:=0) rfl rfl;have c3:W.cell? ⟨w.heap.size,3,none⟩=some (slice ba _ bc):=hO.cell (i:=0) rfl rfl;have av:∀V:World,(Instr.makeSlice 22 (int i64 xn) (int i64 xn)).run ZP V=.ok (slice (some ⟨V.heap.size,0,none⟩) xn xn) (V.alloc (.cells (GW xn) 32)):=λV=>by
      obtain⟨i0,hi,B,J,C⟩:=Ve aj9;have h:=run_makeSlice (P:=ZP) (w:=V) 22 32 i0 (.slice none 0 0) underlying22 hi B .i64 .i64 (xn:Int) (xn:Int) om om (by rw[J];omega) (by rw[C];omega) om;rw[J]at h;have e1:(xn:Int).toNat*1=xn:=by omega
      rw[e1,agW,Aa]at h;exact h
    go_enter func276,ntmps276;go_upto_region 1 with fail
    rw[<-hW];clear hW;go_upto_region 5 with fail
    clear av c0 c1 c2 c3;obtain⟨V,hV⟩:∃V,V=W.alloc (.cells (GW xn) 32):=⟨_,rfl⟩;obtain⟨g,hg⟩:∃g,g=W.heap.size:=⟨_,rfl⟩;have hR:GM g xn [[]] V:=by
      rw[hV,hg];refine⟨List.replicate xn (none,0,0),?_,by simp,by simpa using h1,λi v x z hx=>?_⟩
      ·rw[AT];simp[GW,svV]
      ·
        rw[Jo]at z
        split at z
        ·
          obtain rfl:=AK z
          cases i with
          |zero=>simp at hx;subst hx;exact⟨Bys.nil _ _,AC _⟩
          |succ i=>simp at hx
        ·cases z
    have X:Bt W V:=by rw[hV];exact AL _ _
    have a7:=hO.below X;rw[<-hV,<-hg];clear hV;have HG:=AA hg;clear hg;go_wp2
    go_loopw[6,7] (λs6 _ wr=>∃(i:Nat)(l:La),1<=i/\i<=xn/\s6=int i64 i/\Hid (Cy T i=some l)/\GM g xn l wr/\Bt W wr/\Bx w.heap.size [.cells #[slice ua xn uc,slice da xn dc,slice xa xn xc,slice ba xn bc] 150] wr) (λs6 _ _=>xn-(intOf s6).toNat)
    case atStart=>exact⟨1,[[]],AC _,h1,rfl,rfl,hR,X,a7⟩
    case round=>
      clear hR X a7;obtain⟨i,l,aT,aS,rfl,HS,hR,X,a7⟩:=hrel;have c0:wr.cell? ⟨w.heap.size,0,none⟩=some (slice ua xn uc):=a7.cell (i:=0) rfl rfl
      by_cases ae:i<xn
      ·
        have ax:decide ((i:Int)<xn)=true:=by simp;omega
        obtain⟨b0,o0,u,aC,aQ,cu,hu⟩:=DG (ah.up.below X) ae;subst aC;have HU:=AA hu;clear hu
        by_cases ar:0<=u/\u<i
        ·
          have al:decide (u<0)=false:=by simp;omega
          have ay:decide ((i:Int)<=u)=false:=by simp;omega
          obtain⟨k,rfl⟩:∃k:Nat,u=k:=⟨u.toNat,by omega⟩;have aR:k<i:=by omega
          clear ar;obtain⟨vs,A,aO,aw,ac⟩:=hR.ex;have ak:l.length=i:=Mv HS.out;obtain⟨⟨va,H,vc⟩,z⟩:∃v,vs[k]?=some v:=⟨vs[k]'om,by simp⟩;obtain⟨p,hp⟩:∃p,l[k]?=some p:=⟨l[k]'om,by simp⟩;obtain⟨y,aq⟩:=ac k _ _ z hp;dsimp only at y aq;obtain⟨b3,o3,c,rfl,aB,cb,hc⟩:=DG (ah.byt.1.below X) ae;have az:=ah.byt.2 c (AX hc);have aI:Hid (Cy T (i+1)=some (l++[p++[c]])):=by
            obtain⟨j,rfl⟩:∃j,i=j+1:=⟨i-1,by omega⟩;show Cy T (j+1+1)=_;unfold Cy;rw[HS.out,EV,HU.out,hc];dsimp only;rw[Lc (show 0<=(k:Int)/\(k:Int)<(j:Int)+1 by omega),Aa,hp]
            rfl
          have aJ:Hid (p.length<i):=Ol HS.out p (AX hp);have af:g<wr.heap.size:=(AD.1 A).1;have HK:Hid (∀w',Bt wr w'->w'.cell? ⟨g,k,none⟩=some (slice va H vc)/\w'.cell? ⟨w.heap.size,3,none⟩=some (slice (some ⟨b3,o3,none⟩) xn bc)/\w'.cell? ⟨b3,o3+i,none⟩=some (.int .u8 c)):=by intro w' U;have aF:=a7.below U;refine⟨?_,aF.cell (i:=0) rfl rfl,(U.cell (p:=⟨b3,o3+i,none⟩) aB).trans cb⟩;rw[cell_of_row w' g k _ _ _ ((U.block g af).trans A)];simp[z,svV]
          have aM:w.heap.size<g:=by have h:=HG.out;have:=hO 0 _ rfl;have:=(AD.1 this).1;omega
          have aH:g≠b3:=by
            rintro rfl;rw[cell_of_row wr g _ _ _ _ A]at cb;simp only[Dy,BU,Fo]at cb;obtain⟨v,_,z⟩:=cb
            cases z
          have aL:Hid (∀w',Bt wr w'->∀u,(w'.setCell ⟨g,i,none⟩ u).cell? ⟨g,k,none⟩=some (slice va H vc)/\(w'.setCell ⟨g,i,none⟩ u).cell? ⟨w.heap.size,3,none⟩=some (slice (some ⟨b3,o3,none⟩) xn bc)/\(w'.setCell ⟨g,i,none⟩ u).cell? ⟨b3,o3+i,none⟩=some (.int .u8 c)):=by
            intro w' U u;obtain⟨_,h2,h3⟩:=HK.out w' U;refine⟨?_,?_,?_⟩
            ·rw[cell_of_row _ g k _ _ _ (AJ (i:=i) ((U.block g af).trans A) u),Array.getElem?_setIfInBounds_ne om];simp[z,svV]
            ·rw[OG _ _ _ _ (by show g≠w.heap.size;omega)];exact h2
            ·rw[OG _ _ _ _ aH];exact h3
          have HF:Hid (∀w',Bt wr w'->w'.cell? ⟨g,i,none⟩=some (svV (vs[i]'om))/\w'.frozen? ⟨g,i,none⟩=false):=by
            intro w' U;have:=(U.block g af).trans A;refine⟨?_,by simp[frozen?,this]⟩;rw[cell_of_row w' g i _ _ _ this,Dy,BU,Ar om]
            rfl
          clear cb hc z hp ac A aw;go_wp2;have ap:Bt wr wr.drew:=(AH _ _).drew;have i1:k<xn:=by omega
          have i2:(0:Int)<=(k:Int):=by omega
          have i3:(k:Int)<(xn:Int):=by omega
          have i4:(0:Int)<=(i:Int):=by omega
          have i5:(i:Int)<(xn:Int):=by omega
          obtain⟨k1,k2,k3⟩:=HK.out wr (AH _ _);have f0:=HF.out wr (AH _ _);have au:Bys wr.drew va H p:=y.below ((AH _ _).drew);have aN:H<400:=by have:=aJ.out;have:=y.len;omega
          obtain⟨i0,hi,B,J,C⟩:=Ve Gs;have ai:∀o,Bt wr (wr.alloc o).drew:=λo=>((AH _ _).alloc (AC _) o).drew;have aj:∀o,Bys (wr.alloc o).drew va H p:=λo=>y.below (ai o);have aa:∀o,wr.heap.size<=(wr.alloc o).drew.heap.size:=λo=>(ai o).size;have aD:∀(c:Int)(t:TypeId),Sl1 (Value.int .u8) (wr.alloc (.cells #[.int .u8 c] t)).drew (some ⟨wr.heap.size,0,none⟩) 1 [c]:=λc t=>(Sl1.lay (Value.int .u8) wr [c] t _ rfl).below ((AH _ _).drew);have aG:∀o,Bt wr (wr.drew.alloc o):=λo=>ap.alloc (AC _) o
          go_region_held3 (λw'=>w'.cell? ⟨g,k,none⟩=some (.slice va H vc)/\w'.cell? ⟨w.heap.size,3,none⟩=some (.slice (some ⟨b3,o3,none⟩) xn bc)/\w'.cell? ⟨b3,o3+i,none⟩=some (.int .u8 c)) (first | (go_keep;done) | exact HK.out _ (aG _) | exact HK.out _ (Y.alloc Y.size _) | exact aL.out _ N _) (first
            | (refine Mt (by rfl) _ _ 32 (by rfl) JB wr.heap.size 5 i0 (.int .u8 0) 1 underlying32 hi B J C rfl (.slice none 0 0) 0 [] (by rfl) (BN _ _ _ _) va H vc p (by rfl) au.1 (by unfold maxLen;omega) om (AC _) ?_
               intro v1 w1 Z a8 a6;have Y:Bt wr w1:=ap.grown a8 (AC _) (λk e=>by cases e);rw[DD,Av]at Z;obtain⟨a1,c1,rfl,aA,_⟩:=Co (enc:=Value.int .u8) (xs:=p) Z;obtain⟨d1,d2,d3⟩:=HK.out w1 Y;clear a6)
            | (refine Mt (by rfl) _ _ 32 (by rfl) JB wr.heap.size 5 i0 (.int .u8 0) 1 underlying32 hi B J C rfl (.slice none 0 0) 0 [] (by rfl) (BN _ _ _ _) va H vc p (by rfl) (aj _).1 (by unfold maxLen;omega) om (aa _) ?_
               intro v1 w1 Z a8 a6;have Y:Bt wr w1:=(ai _).grown a8 (aa _) (λk e=>by cases e);have aE:Sl1 (Value.int .u8) w1 (some ⟨wr.heap.size,0,none⟩) 1 [c]:=(aD c _).below ((AH _ _).grown a8 (AC _) (λk e=>by cases e));rw[DD,Av]at Z;obtain⟨a1,c1,rfl,aA,_⟩:=Co (enc:=Value.int .u8) (xs:=p) Z;obtain⟨d1,d2,d3⟩:=HK.out w1 Y;clear a6)
            | (refine Mt (by rfl) _ _ 32 (by rfl) JB wr.heap.size 5 i0 (.int .u8 0) 1 underlying32 hi B J C rfl (.slice a1 H c1) H (p.map (Value.int .u8)) (by rfl) (Z.alloc _) (some ⟨w1.heap.size,0,none⟩) 1 1 [c] (by rfl) (Sl1.lay (Value.int .u8) w1 [c] _ _ rfl) (by unfold maxLen;omega) om (by have:=Y.size;simp;omega) ?_
               intro v2 w2 I ag s;have N:Bt wr w2:=(Y.alloc Y.size _).grown ag (by have:=Y.size;simp;omega) (λj hj=>(Z.lt j hj).1);obtain⟨a2,c2,rfl,am,ab⟩:=Co (enc:=Value.int .u8) (xs:=p++[c]) (by simpa using I);obtain⟨e1,e2,e3⟩:=HK.out w2 N;obtain⟨e4,e5⟩:=HF.out w2 N;clear s)
            | (refine Mt (by rfl) _ _ 32 (by rfl) JB wr.heap.size 5 i0 (.int .u8 0) 1 underlying32 hi B J C rfl (.slice a1 H c1) H (p.map (Value.int .u8)) (by rfl) Z (some ⟨wr.heap.size,0,none⟩) 1 1 [c] (by rfl) aE (by unfold maxLen;omega) om Y.size ?_
               intro v2 w2 I ag s;have N:Bt wr w2:=Y.grown ag Y.size (λj hj=>(Z.lt j hj).1);obtain⟨a2,c2,rfl,am,ab⟩:=Co (enc:=Value.int .u8) (xs:=p++[c]) (by simpa using I);obtain⟨e1,e2,e3⟩:=HK.out w2 N;obtain⟨e4,e5⟩:=HF.out w2 N;clear s))
          all_goals
            go_wp2;have ao:Bt W (w2.setCell ⟨g,i,none⟩ (slice a2 (H+1) c2)):=(X.trans (N.mono X.size)).setCell (by show W.heap.size<=g;exact Gq HG.out.symm) _
            go_roundw
            case rel=>
              refine⟨i+1,_,by omega,by omega,by go_num,aI,hR.step ak ae N ⟨ab,λx hx=>?_⟩ am,ao,hO.below ao⟩
              rcases Bf.1 hx with hx|hx
              ·exact y.2 x hx
              ·rw[Fq]at hx;subst hx;exact az
            case measure=>simp[intOf];omega
        ·
          have HN:Hid (∀k,i+1<=k->Cy T k=none):=by
            refine aiI om ?_;obtain⟨j,rfl⟩:∃j,i=j+1:=⟨i-1,by omega⟩;unfold Cy;rw[HS.out,EV,HU.out]
            cases aU:T.byt[j+1]? with
            |none=>rfl
            |some c=>simp;omega
          by_cases aP:u<0
          ·
            have al:decide (u<0)=true:=by simp;omega
            have HZ:Hid (spO T=none):=by rw[Hid,HO.out];exact HN.out xn om
            go_wp2;go_ret2;exact⟨λD h=>(by rw[HZ.out]at h;cases h),λ_=>rfl,hB.trans (X.mono hB.size)⟩
          ·
            have al:decide (u<0)=false:=by simp;omega
            have ay:decide ((i:Int)<=u)=true:=by simp;omega
            have HZ:Hid (spO T=none):=by rw[Hid,HO.out];exact HN.out xn om
            go_wp2;go_ret2;exact⟨λD h=>(by rw[HZ.out]at h;cases h),λ_=>rfl,hB.trans (X.mono hB.size)⟩
      ·
        obtain rfl:i=xn:=by omega
        have ax:decide ((i:Int)<i)=false:=by simp
        have aK:Hid (l.length=i):=Mv HS.out;go_wp2;go_ret2;refine⟨λD h=>?_,λh=>?_,hB.trans (X.mono hB.size)⟩
        ·rw[HO.out,HS.out]at h;obtain rfl:=AK h;rw[aK.out];exact⟨g,rfl,by rw[HG.out];exact hB.size,hR⟩
        ·rw[HO.out,HS.out]at h;cases h
  ·
    have HZ:Hid (spO T=none):=by unfold Hid spO;rw[Lb];rw[hT.up.1,hT.byt.1.1,hT.dep.1,hT.wrd.1];exact ad
    have c0:W.cell? ⟨w.heap.size,0,none⟩=some (slice ua un uc):=hO.cell (i:=0) rfl rfl;have c1:W.cell? ⟨w.heap.size,1,none⟩=some (slice da dn dc):=hO.cell (i:=0) rfl rfl;have c2:W.cell? ⟨w.heap.size,2,none⟩=some (slice xa xn xc):=hO.cell (i:=0) rfl rfl;have c3:W.cell? ⟨w.heap.size,3,none⟩=some (slice ba bn bc):=hO.cell (i:=0) rfl rfl
    by_cases q1:un<1
    ·
      have g1:decide ((un:Int)<1)=true:=by simp;omega
      go_enter func276,ntmps276;go_upto_region 1 with fail
      rw[<-hW];clear hW;go_wp2;go_ret2;exact⟨λD h=>(by rw[HZ.out]at h;cases h),λ_=>rfl,hB⟩
    ·
      have g1:decide ((un:Int)<1)=false:=by simp;omega
      by_cases q2:400<un
      ·
        have g2:decide (400<(un:Int))=true:=by simp;omega
        go_enter func276,ntmps276;go_upto_region 1 with fail
        rw[<-hW];clear hW;go_wp2;go_ret2;exact⟨λD h=>(by rw[HZ.out]at h;cases h),λ_=>rfl,hB⟩
      ·
        have g2:decide (400<(un:Int))=false:=by simp;omega
        by_cases q3:bn=un
        ·
          subst q3
          by_cases q4:dn=bn
          ·
            subst q4;have q5:xn≠dn:=λe=>ad ⟨by omega,by omega,rfl,rfl,e⟩;have g5:((xn:Int) != dn)=true:=by simp;omega
            go_enter func276,ntmps276;go_upto_region 1 with fail
            rw[<-hW];clear hW;go_wp2;go_ret2;exact⟨λD h=>(by rw[HZ.out]at h;cases h),λ_=>rfl,hB⟩
          ·
            have g4:((dn:Int) != bn)=true:=by simp;omega
            go_enter func276,ntmps276;go_upto_region 1 with fail
            rw[<-hW];clear hW;go_wp2;go_ret2;exact⟨λD h=>(by rw[HZ.out]at h;cases h),λ_=>rfl,hB⟩
        ·
          have g3:((bn:Int) != un)=true:=by simp;omega
          go_enter func276,ntmps276;go_upto_region 1 with fail
          rw[<-hW];clear hW;go_wp2;go_ret2;exact⟨λD h=>(by rw[HZ.out]at h;cases h),λ_=>rfl,hB⟩
end
end Go.Proofs.YtaamacoicojhnaaGreat
