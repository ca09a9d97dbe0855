/- Proofs over the given program, part 3. -/
import Derived.Test.YtaamacoicojhnaaGreatZQ2
set_option linter.unusedVariables false
set_option linter.unusedSimpArgs false
set_option maxRecDepth 100000
set_option maxHeartbeats 16000000
open Go.Proofs.Tryz
open Go.Proofs.Tryz renaming prog→ZP
open Go.World(cell? frozen?)
open Option renaming some→E,none→O
open Go.Value renaming int→R,slice→T,pointer→L,bool→i6,tuple→ta,agg→i8
open Go.IntKind renaming i64→K
open Bool renaming false→M,true→G
open Go renaming World→Wa,Value→Vk
open Go.Ending renaming returned→ra
open Go.Obj renaming cells→i7
open List renaming length→lc
namespace Go.Proofs.YtaamacoicojhnaaGreat
open Go.RowKit Go.Sort
def CF(c:Int):Bool:=decide (97<=c/\c<=122)
def inB(fold:Bool)(ws:Lb)(c:Int):Bool:=ws.any λw=>w.any λx=>decide (x=c) || (fold&&CF x&&decide (x-32=c))
def Ac(p:Int->Bool)(fold:Bool):Nat->List Int×Nat
 |0=>([],1)
 | i+1=>if p i=M then ((Ac p fold i).1++[0],(Ac p fold i).2)
  else if(fold&&CF i)=G then((Ac p fold i).1++[((Ac p fold i).1[i-32]?).getD 0],(Ac p fold i).2)
  else((Ac p fold i).1++[((Ac p fold i).2:Int)],(Ac p fold i).2+1)
theorem Kr(p:Int->Bool)(fold:Bool)(i:Nat):Ac p fold (i+1)=if p i=M then((Ac p fold i).1++[0],(Ac p fold i).2)
  else if(fold&&CF i)=G then((Ac p fold i).1++[((Ac p fold i).1[i-32]?).getD 0],(Ac p fold i).2)
  else((Ac p fold i).1++[((Ac p fold i).2:Int)],(Ac p fold i).2+1):=rfl
theorem Ij(p:Int->Bool)(fold:Bool):∀i,(Ac p fold i).1.length=i
 |0=>rfl
 |i+1=>by
  have Z:=Ij p fold i;unfold Ac
  split
  ·simp[Z]
  ·split<;>simp[Z]
theorem Hb(p:Int->Bool)(fold:Bool):∀i,1<=(Ac p fold i).2/\(Ac p fold i).2<=i+1
 |0=>⟨AC _,AC _⟩
 |i+1=>by
  have Z:=Hb p fold i;unfold Ac
  split
  ·exact⟨Z.1,by show(Ac p fold i).2<=_;omega⟩
  ·split
   ·exact⟨Z.1,by show(Ac p fold i).2<=_;omega⟩
   ·exact⟨by show 1<=(Ac p fold i).2+1;omega,by show(Ac p fold i).2+1<=_;omega⟩
theorem agz(p:Int->Bool)(fold:Bool){j:Nat}:∀{i},j<i->(Ac p fold i).1[j]?=(Ac p fold (j+1)).1[j]?
 |0,h=>absurd h (Nat.not_lt_zero _)
 |i+1,h=>by
  by_cases Y:j=i
  ·subst Y;rfl
  ·have Z:=agz p fold (j:=j) (i:=i) om;rw[<-Z];have X:=Ij p fold i
   conv=>lhs;unfold Ac
   split
   ·exact By om
   ·split
    ·exact By om
    ·exact By om
def BF(fold:Bool)(ws:Lb):List Int:=(Ac (inB fold ws) fold 256).1
def Ah(fold:Bool)(ws:Lb):Nat:=(Ac (inB fold ws) fold 256).2
theorem Jc(fold:Bool)(ws:Lb):(BF fold ws).length=256:=Ij _ _ _
theorem ajB(p:Int->Bool)(fold:Bool){j i:Nat}(h:j<i):(Ac p fold i).1[j]?=E (if p j=M then 0 else if(fold&&CF j)=G then((Ac p fold j).1[j-32]?).getD 0 else((Ac p fold j).2:Int)):=by
 rw[agz p fold h,Kr];have Z:=Ij p fold j
 split
 ·rw[DY om,Z,FG];rfl
 ·split
  ·rw[DY om,Z,FG];rfl
  ·rw[DY om,Z,FG];rfl
theorem aeW(c:Int)(w:Wa) :Calls ZP 218 #[.int .u8 c] w λe w'=>e=ra (i6 (CF c))/\La w w':=by
 have Y:Hid (CF c=(decide (97<=c)&&decide (c<=122))):=by unfold Hid CF;rw[Bool.decide_and]
 by_cases h1:97<=c
 ·have Z:decide ((97:Int)<=c)=G:=by simpa using h1
  by_cases h2:c<=122
  ·have e2:decide (c<=(122:Int))=G:=by simpa using h2
   go_enter func218,ntmps218;go_wp2;go_ret;exact⟨by rw[Y.out,Z,e2];rfl,AH _ _⟩
  ·have e2:decide (c<=(122:Int))=M:=by simpa using h2
   go_enter func218,ntmps218;go_wp2;go_ret;exact⟨by rw[Y.out,Z,e2];rfl,AH _ _⟩
 ·have Z:decide ((97:Int)<=c)=M:=by simpa using h1
  go_enter func218,ntmps218;go_wp2;go_ret;exact⟨by rw[Y.out,Z];rfl,AH _ _⟩
theorem abC(c:Int)(w:Wa)(h:32<=c/\c<=255) :Calls ZP 220 #[.int .u8 c] w λe w'=>e=ra (.int .u8 (c-32))/\La w w':=by
 have Z:IntKind.u8.wrap (c-32)=c-32:=by simp[IntKind.wrap,IntKind.bits,IntKind.signed];omega
 obtain⟨d,Y⟩:∃d,c-32=d:=⟨_,rfl⟩;have X:0<=d/\d<=255:=by omega
 go_enter func220,ntmps220;go_wp2;go_ret;refine⟨?_,AH _ _⟩
 first|rfl|(simp[Z];try exact Y.symm)
def TB(W:Wa)(B:Nat)(l:List Bool):Prop:=W.heap[B]?=E (i7 (l.map i6).toArray 315 (0,0))/\lc l=256
theorem akp:Tryz.zeroCells315=((List.replicate 256 M).map i6).toArray:=by kernel_rfl
theorem amX:Tryz.zeroCells144=((List.replicate 256 (0:Int)).map (R K)).toArray:=by kernel_rfl
def Eh(l:List Bool)(f:Nat->Bool):Prop:=∀c:Nat,c<256->l[c]?=E (f c)
theorem TB.cell{W:Wa}{B:Nat}{l:List Bool}(h:TB W B l){c:Nat}(Z:c<256):∃b,W.cell? ⟨B,c,O⟩=E (i6 b)/\W.frozen? ⟨B,c,O⟩=M:=by
 obtain⟨h1,h2⟩:=h;refine⟨l[c]'om,?_,?_⟩
 ·simp[cell?,h1,show c<lc l by omega]
 ·simp[frozen?,h1]
theorem TB.lt{W:Wa}{B:Nat}{l:List Bool}(h:TB W B l):B<W.heap.size:=(AD.1 h.1).1
theorem TB.below{W V:Wa}{B:Nat}{l:List Bool}(h:TB W B l)(Z:La W V):TB V B l:=⟨(Z.block B h.lt).trans h.1,h.2⟩
theorem TB.set{W:Wa}{B:Nat}{l:List Bool}(h:TB W B l)(c:Nat)(x:Bool):TB (W.setCell ⟨B,c,O⟩ (i6 x)) B (l.set c x):=by refine⟨?_,by rw[BG];exact h.2⟩;rw[AJ h.1,Is];simp
theorem Eh.set{l:List Bool}{f:Nat->Bool}(h:Eh l f)(X:lc l=256){y:Nat}(Y:y<256):Eh (l.set y G) (λc=>f c || decide (y=c)):=λc Z=>by
 rw[Gr]
 by_cases e:y=c
 ·subst e;rw[Lq rfl,Lq om];simp
 ·rw[Lc e,h c Z];simp[e]
theorem Eh.congr{l:List Bool}{f g:Nat->Bool}(h:Eh l f)(Y:∀c,c<256->f c=g c):Eh l g:=λc Z=>by rw[h c Z,Y c Z]
theorem Eh.all{l:List Bool}{f:Nat->Bool}(h:Eh l f)(Y:lc l=256):l=(List.range 256).map f:=by
 apply Hn
 intro i
 by_cases Z:i<256
 ·rw[h i Z,BU,It Z]
  rfl
 ·rw[GT om,GT (by simp;omega)]
def inX(fold:Bool)(x:List Int)(c:Int):Bool:=x.any λy=>decide (y=c) || (fold&&CF y&&decide (y-32=c))
theorem aki(fold:Bool)(ws:Lb)(c:Int):inB fold ws c=ws.any λx=>inX fold x c:=rfl
theorem alJ{fold:Bool}{ws:Lb}{k:Nat}{x:List Int}(Z:ws[k]?=E x)(c:Int):inB fold (ws.take (k+1)) c=(inB fold (ws.take k) c || inX fold x c):=by rw[aki,aki,As Z,List.any_append];simp
theorem ad9{fold:Bool}{x:List Int}{j:Nat}{y:Int}(Z:x[j]?=E y)(c:Int):inX fold (x.take (j+1)) c=(inX fold (x.take j) c || (decide (y=c) || (fold&&CF y&&decide (y-32=c)))):=by unfold inX;rw[As Z,List.any_append];simp
theorem Nq(n c:Nat):decide ((n:Int)=(c:Int))=decide (n=c):=decide_eq_decide.2 om
def Kl(fold:Bool)(ws:Lb):List Bool:=(List.range 256).map λc:Nat=>inB fold ws (c:Int)
theorem anE:(ZP.info? 315).map (·.size)=E 256:=by kernel_rfl
theorem aiS:(ZP.info? 144).map (·.size)=E 256:=by kernel_rfl
theorem MF{B:Nat}{v w:Wa}(h:RowKit.Below B v w){g:Nat}(Z:B<=g)(cs:Array Vk):RowKit.Below B v (w.setRow g cs):=by refine h.trans ⟨rfl,rfl,rfl,by simp[World.setRow],λk hk=>?_⟩;unfold World.setRow;simp only[Js];rw[Lc om]
theorem anC(fold:Bool)(a:Option Addr)(Y ca:Nat)(wss:Lb)(w:Wa)(hA:Wds w a Y wss)(aQ:Y<=1000000)(hM:∀x∈wss,lc x<=1000000) :Calls ZP 217 #[i8 (AM fold a Y ca)] w λe w'=>e=ra (i8 ((Kl fold wss).map i6).toArray)/\La w w':=by
 have HL:=AA hA.len;have HM:=AA hM;obtain⟨W,hW⟩:∃W,W=((w.alloc (i7 (AM fold a Y ca) 24)).alloc (i7 Tryz.zeroCells315 315)).alloc (i7 Tryz.zeroCells315 315):=⟨_,rfl⟩;have hB:La w W:=by rw[hW];exact(((AH _ _).alloc (AC _) _).alloc sm _).alloc (by simp;omega) _
 have hO:Bx w.heap.size [i7 (AM fold a Y ca) 24,i7 Tryz.zeroCells315 315,i7 Tryz.zeroCells315 315] W:=by rw[hW];exact(((Bx.nil _ w).snoc _ rfl).snoc _ sm).snoc _ sm
 have a1:W.heap.size=w.heap.size+1+1+1:=by rw[hW];simp
 have h0:W.heap[w.heap.size]?=E (i7 (AM fold a Y ca) 24 (0,0)):=hO 0 _ rfl;have h1:W.heap[w.heap.size+1]?=E (i7 Tryz.zeroCells315 315 (0,0)):=hO 1 _ rfl;have hT:TB W (w.heap.size+1+1) (List.replicate 256 M):=⟨by rw[<-akp];exact hO 2 _ rfl,by simp⟩;have av:Hid (Eh (List.replicate 256 M) (λc=>inB fold (wss.take 0) (c:Int))):=λc hc=>by
  rw[Jo,Lq hc,List.take_zero]
  rfl
 have HA:=AA hA;have HB:=AA hB;have aL:=AA h0;have aK:=AA h1;have aI:=AA a1;have HT:=AA hT;have s1:W.cell? ⟨w.heap.size,1,O⟩=E (T a Y ca):=hO.cell (i:=0) rfl rfl;clear hA hB hO h0 h1 a1 hT hM;go_enter func217,ntmps217;go_upto_region 2 with fail
 rw[<-hW];clear hW;go_wp2;clear s1
 go_loopw[11] (λaB wr=>∃(k:Nat)(l:List Bool),k<=Y/\aB=R K k/\TB wr (w.heap.size+1+1) l/\Hid (Eh l (λc=>inB fold (wss.take k) (c:Int)))/\RowKit.Below (w.heap.size+1+1) W wr) (λs _=>Y-(intOf s).toNat)
 case atStart=>exact⟨0,_,AR _,rfl,HT.out,av,Jj _ _⟩
 case round=>
  clear HT av;obtain⟨k,l,hk,rfl,U,ac,N⟩:=hrel
  by_cases aC:k<Y
  ·have hd:decide ((k:Int)<Y)=G:=by simp;omega
   have H:=HB.out.trans (N.mono om);obtain⟨b1,o1,ax,A,cx,x,rfl,aG,aj,hx,hX,aN⟩:=HA.out.at_ aC;have aP:A<=1000000:=by have:=HM.out x (AX hx);rw[hX.len]at this;exact this
   have i1:(0:Int)<=(k:Int):=by omega
   have i2:(k:Int)<(Y:Int):=by omega
   have fx:wr.cell? ⟨b1,o1+k,O⟩=E (T ax A cx):=(H.cell (p:=⟨b1,o1+k,O⟩) aG).trans aj;have HX:=AA hx;have am:=AA hX;have aa:=AA U;have af:=AA N;have au:Hid (Eh l (λc=>inB fold (wss.take k) (c:Int) || inX fold (x.take 0) (c:Int))):=ac.out.congr (λc hc=>by simp[inX]);have ai:=hX.len;have aH:=AA ai;clear aj hx hX ai U N H ac;go_wp2;clear fx
   go_loopw[17] (λaA wq=>∃(j:Nat)(l:List Bool),j<=A/\aA=R K j/\TB wq (w.heap.size+1+1) l/\Hid (Eh l (λc=>inB fold (wss.take k) (c:Int) || inX fold (x.take j) (c:Int)))/\RowKit.Below (w.heap.size+1+1) W wq) (λs _=>A-(intOf s).toNat)
   case atStart=>exact⟨0,l,AR _,rfl,aa.out,au,af.out⟩
   case round=>
    clear au;obtain⟨j,l2,hj,rfl,I,ae,C⟩:=hrel
    by_cases aD:j<A
    ·have aE:decide ((j:Int)<A)=G:=by simp;omega
     have H:=HB.out.trans (C.mono om);obtain⟨b2,o2,y,rfl,aO,aF,hy⟩:=DG (am.out.1.below H) aD;have ag:=am.out.2 y (AX hy);obtain⟨n,rfl⟩:=Mb ag.1;have hn:n<256:=by omega
     have HY:=AA hy;obtain⟨bo,q1,q2⟩:=I.cell hn;have j1:(0:Int)<=(j:Int):=by omega
     have j2:(j:Int)<(A:Int):=by omega
     have j3:(0:Int)<=(n:Int):=by omega
     have j4:(n:Int)<256:=by omega
     have HS:=AA (ae.out.set I.2 hn);have ao:=AA I;have aw:=AA C;have a1:=aI.out;clear hy ag ae H I C;go_upto_region 9 with fail
     obtain⟨W1,D⟩:∃V,V=wr.setCell ⟨w.heap.size+1+1,n,O⟩ (i6 G):=⟨_,rfl⟩;rw[<-D];have ak:TB W1 (w.heap.size+1+1) (l2.set n G):=by rw[D];exact ao.out.set n G
     have a7:RowKit.Below (w.heap.size+1+1) W W1:=by rw[D];exact aw.out.setCell (AC _) _
     have al:W1.heap[w.heap.size]?=E (i7 (AM fold _ Y ca) 24 (0,0)):=(a7.block _ om).trans aL.out;have s0:W1.cell? ⟨w.heap.size,0,O⟩=E (i6 fold):=by simp[cell?,al]
     have ab:=AA ak;have az:=AA a7;clear D aF q1 q2 al ak a7 ao aw
     cases fold with
     |false=>
      have Z:Hid (Eh (l2.set n G) (λc=>inB M (wss.take k) (c:Int) || inX M (x.take (j+1)) (c:Int))):=HS.out.congr (λc hc=>by rw[ad9 HY.out,Bool.or_assoc,Nq];simp)
      go_wp2
      go_roundw
      case rel=>exact⟨j+1,_,by omega,by go_num,ab.out,Z,az.out⟩
      case measure=>simp[intOf];omega
     |true=>
      have aq:=AA (aeW (n:Int) W1)
      go_wp2_with fail
      refine aq.out.mono ?_;rintro e W2 ⟨rfl,a6⟩;have B:=AA (ab.out.below a6);have ay:=AA (az.out.trans (a6.mono (by have:=ab.out.lt;omega)));clear s0 a6 aq
      cases X:CF (n:Int)with
      |false=>
       have Z:Hid (Eh (l2.set n G) (λc=>inB G (wss.take k) (c:Int) || inX G (x.take (j+1)) (c:Int))):=HS.out.congr (λc hc=>by rw[ad9 HY.out,Bool.or_assoc,X,Nq];simp)
       clear X;go_wp2
       go_roundw
       case rel=>exact⟨j+1,_,by omega,by go_num,B.out,Z,ay.out⟩
       case measure=>simp[intOf];omega
      |true=>
       obtain⟨p,rfl⟩:∃p,n=p+32:=⟨n-32,by unfold CF at X;have:=Kf X;omega⟩;have hp:p<256:=by omega
       have hg:=abC ((p+32:Nat):Int) W2 om;rw[show((p+32:Nat):Int)-32=(p:Int) by omega]at hg;have HG:=AA hg;have ar:=AA (HS.out.set B.out.2 hp);have Z:Hid (Eh ((l2.set (p+32) G).set p G) (λc=>inB G (wss.take k) (c:Int) || inX G (x.take (j+1)) (c:Int))):=ar.out.congr (λc hc=>by rw[ad9 HY.out,X,show((p+32:Nat):Int)-32=(p:Int) by omega,Nq,Nq];simp only[Bool.or_assoc,FJ,Bool.and_true])
       have k3:(0:Int)<=(p:Int):=by omega
       have k4:(p:Int)<256:=by omega
       clear X hg HS ar
       go_wp2_with fail
       refine HG.out.mono ?_;rintro e W3 ⟨rfl,a2⟩;have ap:=AA (B.out.below a2);have aM:=AA (ay.out.trans (a2.mono (by have:=B.out.lt;omega)));obtain⟨aR,r1,r2⟩:=ap.out.cell hp;clear a2 HG;go_wp2
       go_roundw
       case rel=>exact⟨j+1,_,by omega,by go_num,ap.out.set p G,Z,aM.out.setCell (AC _) _⟩
       case measure=>simp[intOf];omega
    ·obtain rfl:j=A:=by omega
     have aE:decide ((j:Int)<j)=M:=by simp
     have Z:Hid (Eh l2 (λc=>inB fold (wss.take (k+1)) (c:Int))):=ae.out.congr (λc hc=>by rw[alJ HX.out,show x.take j=x from Ap (by rw[aH.out];exact AC _)])
     go_wp2
     go_roundw
     case rel=>exact⟨k+1,_,by omega,by go_num,I,Z,C⟩
     case measure=>simp[intOf];omega
  ·obtain rfl:k=Y:=by omega
   have hd:decide ((k:Int)<k)=M:=by simp
   have Z:Hid (l=Kl fold wss):=by have h:=ac.out.all U.2;rw[Ap (by rw[HL.out];exact AC _)]at h;exact h
   have a8:wr.heap[w.heap.size+1]?=E (i7 Tryz.zeroCells315 315 (0,0)):=(N.block _ om).trans aK.out;rw[akp]at a8;have J:((l.map i6).toArray).size=256:=by simp[U.2]
   have hi:(ZP.info? 315).map (·.size)=E ((l.map i6).toArray).size:=by rw[J];exact anE
   have H1:=AA a8;have aa:=AA U;have HI:=AA hi;have af:=AA N;have aJ:=AA J;have v:((l.map i6).toArray).all (·.oneCell')=G:=by simp[Value.oneCell']
   have HO:=AA v;clear a8 U hi N J v
   go_wp2_with (first
    |(refine wpList_load_row rfl 315 _ rfl (w.heap.size+1+1) rfl 315 _ (0,0) _ aa.out.1 underlying315 rfl HI.out ?_)
    |(refine wpList_store_row rfl 315 _ _ rfl (w.heap.size+1) _ rfl rfl 315 _ H1.out HI.out (by rw[aJ.out];simp) HO.out ?_))
   refine Vi (results_cell_row rfl _ _ (w.heap.size+1) 315 _ (0,0) _ rfl (setRow_heap _ _ _ _ _ _ H1.out) underlying315 rfl HI.out) rfl ?_;rw[Z.out];exact⟨rfl,MF (HB.out.trans (af.out.mono om)) om _⟩
def CB(W:Wa)(B:Nat)(l:List Int)(m:Int):Prop:=W.heap[B]?=E (i7 ((l++[m]).map (R K)).toArray 284 (0,0))/\lc l=256
theorem CB.lt{W:Wa}{B:Nat}{l:List Int}{m:Int}(h:CB W B l m):B<W.heap.size:=(AD.1 h.1).1
theorem CB.below{W V:Wa}{B:Nat}{l:List Int}{m:Int}(h:CB W B l m)(Z:La W V):CB V B l m:=⟨(Z.block B h.lt).trans h.1,h.2⟩
theorem CB.cell{W:Wa}{B:Nat}{l:List Int}{m:Int}(h:CB W B l m){c:Nat}(Y:c<256){v:Int}(Z:l[c]?=E v):W.cell? ⟨B,c,O⟩=E (R K v):=by
 obtain⟨h1,h2⟩:=h;have:(l++[m])[c]?=E v:=by rw[By om];exact Z
 simp only[cell?,h1];simp only[Array.getElem?_map,Dy,BU,this,Dw];simp
theorem CB.many{W:Wa}{B:Nat}{l:List Int}{m:Int}(h:CB W B l m):W.cell? ⟨B,256,O⟩=E (R K m):=by
 obtain⟨h1,h2⟩:=h;have:(l++[m])[256]?=E m:=by rw[<-h2];simp
 simp only[cell?,h1];simp only[Array.getElem?_map,Dy,BU,this,Dw];simp
theorem CB.frozen{W:Wa}{B:Nat}{l:List Int}{m:Int}(h:CB W B l m)(c:Nat):W.frozen? ⟨B,c,O⟩=M:=by simp[frozen?,h.1]
theorem CB.set{W:Wa}{B:Nat}{l:List Int}{m:Int}(h:CB W B l m){c:Nat}(Z:c<256)(v:Int):CB (W.setCell ⟨B,c,O⟩ (R K v)) B (l.set c v) m:=by refine⟨?_,by rw[BG];exact h.2⟩;rw[AJ h.1];have e:(l++[m]).set c v=l.set c v++[m]:=List.set_append_left _ _ (by rw[h.2];exact Z);rw[<-e,Is];simp
theorem CB.setm{W:Wa}{B:Nat}{l:List Int}{m:Int}(h:CB W B l m)(v:Int):CB (W.setCell ⟨B,256,O⟩ (R K v)) B l v:=by
 refine⟨?_,h.2⟩;rw[AJ h.1];have e:(l++[m]).set 256 v=l++[v]:=by rw[<-h.2];simp
 rw[<-e,Is];simp
theorem adZ(B c:Nat)(v:Int)(u:Vk)(w:Wa)(U:c<256)(X:w.cell? ⟨B,c,O⟩=E u)(V:w.frozen? ⟨B,c,O⟩=M) :Calls ZP 219 #[L (E ⟨B,0,O⟩),.int .u8 (c:Int),R K v] w λe w'=>e=ra (ta #[])/\w'=w.setCell ⟨B,c,O⟩ (R K v):=by
 have Y:(0:Int)<=(c:Int):=by omega
 have Z:(c:Int)<256:=by omega
 go_enter func219,ntmps219;go_wp2;refine bodyPost_end (results_none rfl _ _ _) rfl ?_;exact⟨rfl,rfl⟩
theorem adX(B c m:Nat)(l:List Int)(w:Wa)(I:c<256)(h:CB w B l m)(hm:m<=1000) :Calls ZP 221 #[L (E ⟨B,0,O⟩),.int .u8 (c:Int)] w λe w'=>e=ra (ta #[])/\CB w' B (l.set c m) ((m+1:Nat):Int)/\RowKit.Below B w w':=by
  have H:=AA h;have i1:(0:Int)<=(c:Int):=by omega
  have i2:(c:Int)<256:=by omega
  have a1:c<lc l:=by rw[h.2];exact I
  obtain⟨u,hu⟩:∃u,l[c]?=E u:=⟨l[c],by simp⟩;have D:=AA (h.below (AN w 1));have J:Hid (RowKit.Below B w (w.drewN 1)):=(AN w 1).mono (DP h.lt);have k1:=AA (adZ B c m _ w.drew I (D.out.cell I hu) (D.out.frozen c));have U:=D.out.many;clear h;go_enter func221,ntmps221;go_upto_region 0 with fail
  refine Ve ?_;refine Vd (S:=λV=>RowKit.Below B w V/\V.cell? ⟨B,256,O⟩=E (R K (m:Int))) kr ⟨J.out,U⟩ (λhHeld=>?_);refine tkA 0 ?_;refine tkA 1 ?_;refine tkA 2 ?_;refine tkA 3 ?_;refine tkA 4 ?_;refine tkA 5 ?_;refine tkA 6 ?_;refine tkW 7 (v:=?_) ?_ ?_;rotate_left
  ·
    intro V hV;have r0:=hV.2
    first|(go_simp;done)|(go_simp;with_reducible rfl)
  try simp only[pq]
  refine rdy 8 (λKB j=>?_);go_simp
  go_at_call 219;refine k1.out.mono ?_;rintro e s ⟨rfl,Y⟩
  have Z:CB s B (l.set c m) m:=by rw[Y];exact D.out.set I m
  have X:RowKit.Below B w s:=by rw[Y];exact J.out.setCell (AC _) _
  refine j.out _ _ ⟨X,Z.many⟩ (λN=>?_);clear j KB hHeld N Y
  try simp only[pq]
  refine Vg kr ?_ _;refine At ?_;have q1:=Z.many;have q2:=Z.frozen 256;have C:=AA Z;have A:=AA X;clear Z X U;go_wp2;refine bodyPost_end (results_none rfl _ _ _) rfl ?_;refine⟨rfl,?_,A.out.setCell (AC _) _⟩;have h:=C.out.setm (((m+1:Nat)):Int)
  first | exact h | (have e:wrap64 ((m:Int)+1)=((m+1:Nat):Int):=by go_num
                     rw[<-e]at h;exact h)
def Ct(p:Int->Bool)(fold:Bool)(i:Nat):List Int:=(Ac p fold i).1++List.replicate (256-i) 0
theorem akL(p:Int->Bool)(fold:Bool){i:Nat}(h:i<=256):(Ct p fold i).length=256:=by unfold Ct;rw[List.length_append,Ij,CS];omega
theorem anL(p:Int->Bool)(fold:Bool){i j:Nat}(h:j<i):(Ct p fold i)[j]?=(Ac p fold i).1[j]?:=by unfold Ct;rw[By (by rw[Ij];exact h)]
theorem agP(p:Int->Bool)(fold:Bool){i:Nat}(h:i<256)(v:Int):(Ct p fold i).set i v=((Ac p fold i).1++[v])++List.replicate (256-(i+1)) 0:=by
 unfold Ct;have Z:=Ij p fold i;rw[Jm _ _ om,Z,FG,show 256-i=(256-(i+1))+1 by omega,Ip,List.set_cons_zero,CE]
 rfl
theorem ao6{p:Int->Bool}{fold:Bool}{i:Nat}(h:i<256)(Z:p i=M):Ct p fold (i+1)=Ct p fold i/\(Ac p fold (i+1)).2=(Ac p fold i).2:=by
 unfold Ct;rw[Kr,Lq Z];refine⟨?_,rfl⟩;rw[show 256-i=(256-(i+1))+1 by omega,Ip,CE]
 rfl
theorem ai6{p:Int->Bool}{fold:Bool}{i:Nat}(h:i<256)(Y:p i=G)(Z:(fold&&CF i)=G):Ct p fold (i+1)=(Ct p fold i).set i (((Ac p fold i).1[i-32]?).getD 0)/\(Ac p fold (i+1)).2=(Ac p fold i).2:=by rw[agP p fold h];unfold Ct;rw[Kr,Lc (by rw[Y];decide),Lq Z];exact⟨rfl,rfl⟩
theorem ago{p:Int->Bool}{fold:Bool}{i:Nat}(h:i<256)(Y:p i=G)(Z:(fold&&CF i)=M):Ct p fold (i+1)=(Ct p fold i).set i ((Ac p fold i).2:Int)/\(Ac p fold (i+1)).2=(Ac p fold i).2+1:=by rw[agP p fold h];unfold Ct;rw[Kr,Lc (by rw[Y];decide),Lc (by rw[Z];decide)];exact⟨rfl,rfl⟩
theorem an6(fold:Bool)(ws:Lb){i:Nat}(h:i<256):((Kl fold ws).map i6)[i]?=E (i6 (inB fold ws (i:Int))):=by
 unfold Kl;rw[BU,BU,It h]
 rfl
theorem aoK:Tryz.zeroCells284.setIfInBounds 256 (Value.int IntKind.i64 1)=((List.replicate 256 (0:Int)++[1]).map (R K)).toArray:=by kernel_rfl
theorem af5:(ZP.info? 4).map (λi=>(i.zero,i.size,i.bytes))=E (E (i6 M),1,1):=by kernel_rfl
theorem akf{LO:Array Vk}{i:Nat}{b:Bool}(V:i<256)(h:LO[i]?=E (i6 b))(w:Wa):Sem.run ZP (Instr.index 315 (i8 LO) (R K (i:Int))) w=.ok (i6 b) w:=by
 obtain⟨X,Z,_,Y,_⟩:=Vh af5;have e:(0:Int)<=(i:Int)/\(i:Int)<256:=by omega
 unfold Instr.index;simp only[asIntOf,IN,IM,Result.andThen_ok,run_underlying underlying315];simp[e,sizeOf,typeInfo,Z,Y,part,isAgg,run_underlying underlying4,h]
theorem afF(fold:Bool)(a:Option Addr)(la ca:Nat)(wss:Lb)(w:Wa)(hA:Wds w a la wss)(ay:la<=1000000)(hM:∀x∈wss,lc x<=1000000)(hT:(Ad fold wss).length<=1000000)(hr:An fold wss=G) :Calls ZP 177 #[i8 (AM fold a la ca)] w λe w'=>∃B,e=ra (ta #[L (E ⟨B,0,O⟩),i6 G])/\CB w' B (BF fold wss) (Ah fold wss:Int)/\w.heap.size<=B/\La w w':=by
 obtain⟨W,hW⟩:∃W,W=w.alloc (i7 (AM fold a la ca) 24):=⟨_,rfl⟩;have hB:La w W:=by rw[hW];exact AL _ _
 have hO:Bx w.heap.size [i7 (AM fold a la ca) 24] W:=by rw[hW];exact(Bx.nil _ w).snoc _ rfl
 have s0:W.cell? ⟨w.heap.size,0,O⟩=E (i6 fold):=hO.cell (i:=0) rfl rfl;have s1:W.cell? ⟨w.heap.size,1,O⟩=E (T a la ca):=hO.cell (i:=0) rfl rfl;have HC:=AA (aaM fold a la ca wss W (hA.below hB) ay hM hT);have HA:=AA (hA.below hB);have HO:=AA hO;have HM:=AA hM;have aA:W.heap.size=w.heap.size+1:=by rw[hW];simp
 have aE:=AA aA;rw[hr]at HC;clear hr hA hO hM aA;go_enter func177,ntmps177;go_upto_region 1 with fail
 rw[<-hW];clear hW
 go_wp2_with fail
 refine HC.out.mono ?_;rintro e w1 ⟨rfl,a7⟩;clear s0 s1 HC;go_upto_region 4 with fail
 obtain⟨W2,a8⟩:∃V,V=w1.alloc (i7 (Tryz.zeroCells284.setIfInBounds 256 (Value.int IntKind.i64 1)) 284):=⟨_,rfl⟩;have ag:La w1 W2:=by rw[a8];exact AL _ _
 have I:CB W2 w1.heap.size (List.replicate 256 0) 1:=⟨by rw[a8,aoK];exact AT _ _,by simp⟩;rw[<-a8];clear a8;obtain⟨B,ap⟩:∃B,w1.heap.size=B:=⟨_,rfl⟩;have aS:W.heap.size<=B:=by rw[<-ap];exact a7.size
 have a6:=a7.trans (ag.mono a7.size);rw[ap]at I⊢;clear ap ag a7;have aw:=AA a6;have ab:=AA I;have ao:=HO.out.below a6;have s0:W2.cell? ⟨w.heap.size,0,O⟩=E (i6 fold):=ao.cell (i:=0) rfl rfl;have s1:W2.cell? ⟨w.heap.size,1,O⟩=E (T a la ca):=ao.cell (i:=0) rfl rfl;have HH:=AA (anC fold a la ca wss W2 (HA.out.below a6) ay HM.out);clear ao I a6
 go_wp2_with fail
 refine HH.out.mono ?_;rintro e W3 ⟨rfl,am⟩;have ae:=AA (aw.out.trans (am.mono aw.out.size));have aG:=AA (ab.out.below am);obtain⟨LO,hL⟩:∃LO,((Kl fold wss).map i6).toArray=LO:=⟨_,rfl⟩;have ix:Hid (∀(i:Nat),i<256->LO[i]?=E (i6 (inB fold wss (i:Int)))):=λi hi=>by
  rw[<-hL]
  simpa using an6 fold wss hi
 have aT:LO.size=256:=by rw[<-hL];simp[Kl]
 rw[hL];clear s0 s1 HH am hL ab aw;have aQ:B<W3.heap.size:=aG.out.lt;go_wp2
 go_loopw[15] (λaI wr=>∃i:Nat,i<=256/\aI=R K i/\CB wr B (Ct (inB fold wss) fold i) ((Ac (inB fold wss) fold i).2:Int)/\RowKit.Below B W3 wr) (λs _=>256-(intOf s).toNat)
 case atStart=>exact⟨0,AR _,rfl,aG.out,Jj _ _⟩
 case round=>
  obtain⟨i,hi,rfl,j,a1⟩:=hrel
  by_cases Z:i<256
  ·have hd:decide ((i:Int)<256)=G:=by simp;omega
   have i1:(0:Int)<=(i:Int):=by omega
   have i2:(i:Int)<256:=by omega
   have aj:=ix.out i Z;obtain⟨b,hb⟩:∃b,inB fold wss (i:Int)=b:=⟨_,rfl⟩;rw[hb]at aj;have af:=λ(V:Wa)=>akf Z aj V;have aR:IntKind.u8.wrap (i:Int)=(i:Int):=by simp[IntKind.wrap,IntKind.bits,IntKind.signed];omega
   have aa:=AA j;have aq:=AA a1;have aB:=HO.out.below (ae.out.trans (a1.mono (by have:=ae.out.size;have:=aE.out;omega)));have s0:wr.cell? ⟨w.heap.size,0,O⟩=E (i6 fold):=aB.cell (i:=0) rfl rfl;have ac:=AA hb;clear j a1 aB aj hb
   cases b with
   |false=>
    obtain⟨U,D⟩:=ao6 (p:=inB fold wss) (fold:=fold) Z ac.out;have I:CB wr B (Ct (inB fold wss) fold (i+1)) ((Ac (inB fold wss) fold (i+1)).2:Int):=by rw[U,D];exact aa.out
    have ab:=AA I;clear U D I;go_wp2
    go_roundw
    case rel=>exact⟨i+1,by omega,by go_num,ab.out,aq.out⟩
    case measure=>simp[intOf];omega
   |true=>
    have ai:=Hb (inB fold wss) fold i
    cases fold with
    |false=>
     obtain⟨U,D⟩:=ago (p:=inB M wss) (fold:=M) Z ac.out rfl;have ho:=adX B i (Ac (inB M wss) M i).2 _ wr Z aa.out om;rw[<-U,<-D]at ho;have au:=AA ho;clear U D ho ai
     go_wp2_with fail
     refine au.out.mono ?_;rintro e w5 ⟨rfl,A,J⟩;have av:=AA A;clear A af s0;go_wp2
     go_roundw
     case rel=>exact⟨i+1,by omega,by go_num,av.out,aq.out.trans J⟩
     case measure=>simp[intOf];omega
    |true=>
     have aF:=AA (aeW (i:Int) wr)
     go_wp2_with fail
     refine aF.out.mono ?_;rintro e w4 ⟨rfl,al⟩;have aD:=aa.out.below al;have H:=AA aD;have aH:=AA (aq.out.trans (al.mono (by have:=aa.out.lt;omega)));clear aD al s0 af aF
     cases N:CF (i:Int)with
     |false=>
      obtain⟨U,D⟩:=ago (p:=inB G wss) (fold:=G) Z ac.out (by rw[N];rfl);have ho:=adX B i (Ac (inB G wss) G i).2 _ w4 Z H.out om;rw[<-U,<-D]at ho;have au:=AA ho;clear U D ho ai N
      go_wp2_with fail
      refine au.out.mono ?_;rintro e w5 ⟨rfl,A,J⟩;have av:=AA A;clear A;go_wp2
      go_roundw
      case rel=>exact⟨i+1,by omega,by go_num,av.out,aH.out.trans J⟩
      case measure=>simp[intOf];omega
     |true=>
      obtain⟨U,D⟩:=ai6 (p:=inB G wss) (fold:=G) Z ac.out (by rw[N];rfl);obtain⟨p,rfl⟩:∃p,i=p+32:=⟨i-32,by unfold CF at N;have:=Kf N;omega⟩;rw[Jl]at U;obtain⟨v,hv⟩:∃v,(Ac (inB G wss) G (p+32)).1[p]?=E v:=⟨(Ac (inB G wss) G (p+32)).1[p]'(by rw[Ij];omega),by simp⟩;rw[hv,CG]at U;have ax:(Ct (inB G wss) G (p+32))[p]?=E v:=by rw[anL _ _ om];exact hv
      obtain⟨u,hu⟩:∃u,(Ct (inB G wss) G (p+32))[p+32]?=E u:=⟨(Ct (inB G wss) G (p+32))[p+32]'(by rw[akL _ _ om];omega),by simp⟩;have aJ:p<256:=by omega
      have kg:Hid (∀V,La w4 V->Calls ZP 220 #[.int .u8 ((p+32:Nat):Int)] V λe w'=>e=ra (.int .u8 (p:Int))/\La V w'):=λV hV=>by
       have h:=abC ((p+32:Nat):Int) V om
       rwa[show((p+32:Nat):Int)-32=(p:Int) by omega]at h
      have ks:Hid (∀V,La w4 V->Calls ZP 219 #[L (E ⟨B,0,O⟩),.int .u8 ((p+32:Nat):Int),R K v] V λe w'=>e=ra (ta #[])/\w'=V.setCell ⟨B,p+32,O⟩ (R K v)):=λV hV=>
       adZ B (p+32) v _ V Z ((H.out.below hV).cell Z hu) ((H.out.below hV).frozen _)
      have ak:Hid (∀V,La w4 V->V.cell? ⟨B,p,O⟩=E (R K v)):=λV hV=>(H.out.below hV).cell aJ ax;have aL:=AA U;have aK:=AA D;have j1:(0:Int)<=(p:Int):=by omega
      have j2:(p:Int)<256:=by omega
      have C:=H.out.lt;clear U D hv ax hu ai N;go_upto_region 11 with fail
      refine Ve ?_;refine Vd (S:=λV=>RowKit.Below B w4 V/\V.cell? ⟨B,p,O⟩=E (R K v)) kr ⟨(AN w4 1).mono (DP C),ak.out _ (AN w4 1)⟩ (λhHeld=>?_);refine tkA 0 ?_;refine tkA 1 ?_;refine tkA 2 ?_;refine tkA 3 ?_;refine tkA 4 ?_;refine tkA 5 ?_;refine tkA 7 ?_;refine tkA 8 ?_;refine tkA 9 ?_;refine rdy 6 (λKB hK=>?_);go_simp
      go_at_call 220;refine(kg.out _ (AN w4 1)).mono ?_;rintro e w5 ⟨rfl,J⟩
      have Y:La w4 w5:=(AN w4 1).trans J;refine hK.out _ _ ⟨Y.mono (DP C),ak.out _ Y⟩ (λX=>?_);clear hK KB hHeld;have hHeld:=X;clear X J
      try simp only[pq]
      refine tkA 10 ?_;refine tkW 11 (v:=?_) ?_ ?_;rotate_left
      ·intro V hV;have r0:=hV.2
       first|(go_simp;done)|(go_simp;with_reducible rfl)
      try simp only[pq]
      refine rdy 12 (λKB hK=>?_);go_simp
      go_at_call 219;refine(ks.out _ Y).mono ?_;rintro e w6 ⟨rfl,a2⟩
      have aC:CB w6 B (Ct (inB G wss) G (p+32+1)) ((Ac (inB G wss) G (p+32+1)).2:Int):=by rw[a2,aL.out,aK.out];exact(H.out.below Y).set Z v
      have ar:RowKit.Below B w4 w6:=by rw[a2];exact(Y.mono (DP C)).setCell (AC _) _
      have az:w6.cell? ⟨B,p,O⟩=E (R K v):=by rw[a2,World.cell?_setCell_other _ _ _ _ (λe=>by injection e with e1 e2;omega)];exact ak.out _ Y
      refine hK.out _ _ ⟨ar,az⟩ (λX=>?_);clear hK KB hHeld X a2 az
      try simp only[pq]
      refine Vg kr ?_ _;refine At ?_;have aN:=AA aC;have aP:=AA (aH.out.trans ar);clear aC ar Y;go_wp2
      go_roundw
      case rel=>exact⟨p+32+1,by omega,by go_num,aN.out,aP.out⟩
      case measure=>simp[intOf];omega
  ·obtain rfl:i=256:=by omega
   have hd:decide (((256:Nat):Int)<256)=M:=by decide
   have hz:Ct (inB fold wss) fold 256=BF fold wss:=by unfold Ct BF;simp
   rw[hz]at j;have aM:=AA j;have aO:=AA a1;clear hz j a1;go_wp2;go_ret2;exact⟨B,rfl,aM.out,by have:=hB.size;omega,hB.trans ((ae.out.trans (aO.out.mono (by have:=ae.out.size;have:=aE.out;omega))).mono hB.size)⟩
theorem ae5{fn:Func}{p u v:Tmp}{tmps:Array Vk}{W:Wa}{B:Nat}{cs:Array Vk}(h:fn.results=#[.cell p 144,.tmp u,.tmp v])(X:tmps.getD p undef=L (E ⟨B,0,O⟩))(hB:W.heap[B]?=E (i7 cs 144 (0,0)))(Y:cs.size=256) :(results fn tmps).run ZP W=.ok (ta #[i8 cs,tmps.getD u undef,tmps.getD v undef]) W:=by
 have Z:tmps[p]?.getD undef=L (E ⟨B,0,O⟩):=by simpa using X
 simp[results,h,Z,asAddr,run_loadVar_row W B 144 144 cs (0,0) _ hB underlying144 rfl (by rw[Y];exact aiS)]
theorem KE(l:List Int):((l.map (R K)).toArray).size=lc l:=by simp
theorem acS(l:List Int):((l.map (R K)).toArray).all (·.oneCell')=G:=by simp[Value.oneCell']
abbrev apD(l:List Int):Vk:=i8 (l.map (R K)).toArray
theorem acM{c:Bool}{p q:Prop}(Z:c=G)(h:p):if c=G then p else q:=by rw[Lq Z];exact h
theorem akJ(fold:Bool)(a:Option Addr)(J ca:Nat)(wss:Lb)(w:Wa)(hA:Wds w a J wss)(a7:J<=1000000)(hM:∀x∈wss,lc x<=1000000)(hT:(Ad fold wss).length<=1000000)(hr:An fold wss=G) :Calls ZP 128 #[i8 (AM fold a J ca)] w λe w'=>e=ra (ta #[apD (BF fold wss),R K (Ah fold wss),R K 0])/\La w w':=by
 obtain⟨W,hW⟩:∃W,W=(w.alloc (i7 (AM fold a J ca) 24)).alloc (i7 Tryz.zeroCells144 144):=⟨_,rfl⟩;have hB:La w W:=by rw[hW];exact((AH _ _).alloc (AC _) _).alloc sm _
 have hO:Bx w.heap.size [i7 (AM fold a J ca) 24,i7 Tryz.zeroCells144 144] W:=by rw[hW];exact((Bx.nil _ w).snoc _ rfl).snoc _ sm
 have s0:W.cell? ⟨w.heap.size,0,O⟩=E (i6 fold):=hO.cell (i:=0) rfl rfl;have s1:W.cell? ⟨w.heap.size,1,O⟩=E (T a J ca):=hO.cell (i:=0) rfl rfl;have HC:=AA (afF fold a J ca wss W (hA.below hB) a7 hM hT hr);have HO:=AA hO;clear hr hO;go_enter func128,ntmps128;go_upto_region 1 with fail
 rw[<-hW];clear hW
 go_wp2_with fail
 refine HC.out.mono ?_;rintro e Z ⟨B,rfl,a2,ac,H⟩;have h1:Z.heap[w.heap.size+1]?=E (i7 Tryz.zeroCells144 144 (0,0)):=(HO.out.below H) 1 _ rfl;rw[amX]at h1;have H1:=AA h1;have X:=AA a2;obtain⟨LO,hL⟩:∃LO,BF fold wss=LO:=⟨_,rfl⟩;obtain⟨MH,C⟩:∃MH:Int,(Ah fold wss:Int)=MH:=⟨_,rfl⟩;rw[hL,C]at X;have aa:=AA hL;have a8:=AA C;have Y:lc LO=256:=X.out.2;have hi:(ZP.info? 144).map (·.size)=E ((LO.map (R K))).length:=by rw[BP,Y];exact aiS
 have HI:=AA hi;have a1:Hid (∀V,CB V B LO MH->V.rangeAt B 0 (LO.map (R K))/\V.cell? ⟨B,256,O⟩=E (R K MH)):=λV h=>by refine⟨λj v hv=>?_,h.many⟩;rw[BU,Fo]at hv;obtain⟨x,hx,rfl⟩:=hv;rw[DD];exact h.cell (by have:=(AP.1 hx).1;omega) hx
 have ab:w.heap.size+1<W.heap.size:=(AD.1 (HO.out 1 _ rfl)).1;have a6:B≠w.heap.size+1:=by omega
 have U:w.heap.size+1<Z.heap.size:=by have:=H.size;omega
 clear h1 a2 hi s0 s1 HC hL C;go_upto_region 4 with fail
 refine Ve ?_;refine Vd (S:=λV=>CB V B LO MH/\RowKit.Below (w.heap.size+1) Z V) kr ⟨X.out.below (AN Z 1),(AN Z 1).mono (DP U)⟩ (λhHeld=>?_);refine tkA 0 ?_;refine tkA 1 ?_;refine tkA 2 ?_;refine tkA 3 ?_;refine' wpAnyH_take (i:=4) (v:=_) (by simp only[pD,pE,pF];rfl) kr kr kr (λ_ _ _ h=>h) (yieldsIf_load_mid (by rfl) _ _ rfl B 0 rfl (LO.map (Value.int .i64)) _ (λV hV=>(a1.out V hV.1).1) underlying144 rfl HI.out) (by assumption) ?_
 try simp only[pq]
 refine tkA 5 ?_;refine tkA 6 ?_;refine tkA 7 ?_;refine tkW 8 (v:=?_) ?_ ?_;rotate_left
 ·intro V hV;have r0:=(a1.out V hV.1).2
  first|(go_simp;done)|(go_simp;with_reducible rfl)
 try simp only[pq]
 refine rdy 9 (λKB hK=>?_);have I:Z.drew.heap[w.heap.size+1]?=E (i7 ((List.replicate 256 (0:Int)).map (R K)).toArray 144 (0,0)):=H1.out;have s:(ZP.info? 144).map (·.size)=E (((LO.map (R K))).toArray).size:=by rw[Cw];exact HI.out
 refine acM kr ?_;refine wp_store_row 144 _ _ rfl (w.heap.size+1) _ rfl rfl 144 _ I s (by rw[KE,KE];rw[Y];rfl) (acS LO) ?_;have h2:=setRow_heap Z.drew (w.heap.size+1) _ ((LO.map (R K)).toArray) _ _ I;have H2:=AA h2;have D:CB (Z.drew.setRow (w.heap.size+1) ((LO.map (R K)).toArray)) B LO MH/\RowKit.Below (w.heap.size+1) Z (Z.drew.setRow (w.heap.size+1) ((LO.map (R K)).toArray)):=
  ⟨⟨(setRow_other _ _ _ _ a6).trans (X.out.below (AN Z 1)).1,Y⟩,MF ((AN Z 1).mono (DP U)) (AC _) _⟩
 clear h2 I s;obtain⟨w2,A⟩:∃w2,w2=Z.drew.setRow (w.heap.size+1) ((LO.map (R K)).toArray):=⟨_,rfl⟩;rw[<-A]at H2 D⊢;clear A;refine hK.out _ _ D (λN=>?_);clear hK KB hHeld;have hHeld:=N;clear N
 try simp only[pq]
 refine tkA 10 ?_;refine tkA 11 ?_;refine Vg kr ?_ _;refine At ?_
 go_wp2_with fail
 refine Vi (ae5 rfl rfl H2.out (by rw[KE];exact Y)) rfl ?_;rw[<-aa.out,<-a8.out];exact⟨rfl,hB.trans ((H.mono hB.size).trans (D.2.mono om))⟩
section
variable {ws:Lb}
theorem alj{i:Nat}{x:List Int}(Z:(AB ws)[i]?=E x):(AG ws).wrd[i]?=E (CW ws x):=by simp[AG,Z]
theorem aeh:(AG ws).up.length=(AB ws).length/\(AG ws).dep.length=(AB ws).length/\(AG ws).wrd.length=(AB ws).length/\(AG ws).byt.length=(AB ws).length:=by simp[AG]
end
def lsf(N:Lb):List Int->List Int
 |[]=>[]
 |a::t=>if(a::t)∈N then a::t else lsf N t
theorem Gb(N:Lb):∀b,lsf N b <:+b
 |[]=>List.suffix_refl _
 |a::t=>by
  unfold lsf
  split
  ·exact List.suffix_refl _
  ·exact(Gb N t).trans (List.suffix_cons a t)
theorem Id{N:Lb}(h0:[]∈N):∀b,lsf N b∈N
 |[]=>h0
 |a::t=>by
  unfold lsf
  split
  ·assumption
  ·exact Id h0 t
theorem Lv{N:Lb}{y:List Int}(Z:y∈N):∀{b},y <:+b->lc y<=(lsf N b).length
 |[],h=>by rw[List.eq_nil_of_suffix_nil h];exact AR _
 |a::t,h=>by
  unfold lsf
  split
  ·exact h.length_le
  ·rename_i Y
   rcases List.suffix_cons_iff.1 h with e|h
   ·rw[e]at Z;exact absurd Z Y
   ·exact Lv Z h
theorem Lu{N:Lb}{b:List Int}(h:b∈N):lsf N b=b:=by
 cases b with
 |nil=>rfl
 |cons a t=>unfold lsf;rw[Lq h]
theorem ajY{x y b:List Int}(Y:x <:+b)(Z:y <:+b)(h:lc x=lc y):x=y:=by obtain⟨s,rfl⟩:=Y;obtain⟨t,X⟩:=Z;exact(List.append_inj_right' X.symm om)
theorem aaP{N:Lb}{b y:List Int}(Y:y∈N)(Z:y <:+b)(h0:[]∈N)(X:∀z,z <:+b->z∈N->lc z<=lc y):lsf N b=y:=by have h1:=Lv Y Z;have h2:=X _ (Gb N b) (Id h0 b);exact ajY (Gb N b) Z om
def Pre(N:Lb):Prop:=[]∈N/\∀x c,x++[c]∈N->x∈N
theorem afk{y b:List Int}{c:Int}(h:y <:+b++[c]):y=[]∨∃z,y=z++[c]/\z <:+b:=by
 by_cases e:y=[]
 ·exact .inl e
 ·right
  obtain⟨s,Z⟩:=h;have h1:=Em e;rw[<-h1,<-CE]at Z;obtain⟨h2,h3⟩:=List.append_inj' Z rfl;refine⟨y.dropLast,?_,s,h2⟩;have h4:y.getLast e=c:=by simpa using h3
  rw[<-h4,h1]
theorem Ng{N:Lb}(V:Pre N)(s:List Int)(c:Int):lsf N (s++[c])=lsf N (lsf N s++[c]):=by
 refine aaP (Id V.1 _) ?_ V.1 (λz I J=>?_)
 ·refine(Gb N _).trans ?_;obtain⟨t,Y⟩:=Gb N s;exact⟨t,by rw[<-CE,Y]⟩
 ·rcases afk I with rfl|⟨y,rfl,U⟩
  ·exact AR _
  ·have Z:=V.2 _ _ J;have X:=Lv Z U;refine Lv J ?_;obtain⟨t,Y⟩:=List.suffix_of_suffix_length_le U (Gb N s) X;exact⟨t,by rw[<-CE,Y]⟩
def EC(N:Lb)(x:List Int):List Int:=lsf N x.tail
def GH(N:Lb):Nat->List Int->Lb
 |0,x=>[x]
 |n+1,x=>if x=[] then [x] else x::GH N n (EC N x)
theorem Lx{N:Lb}{x:List Int}(h:x≠[]):(EC N x).length<lc x:=by have h1:=(Gb N x.tail).length_le;have:lc x≠0:=λe=>h (Bz e);rw[List.length_tail]at h1;unfold EC;omega
theorem afr(N:Lb)(n:Nat)(x:List Int):∃l,GH N n x=x::l:=by
 cases n with
 |zero=>exact⟨[],rfl⟩
 |succ n=>
  unfold GH
  split
  ·exact⟨[],rfl⟩
  ·exact⟨_,rfl⟩
theorem ady{N:Lb}{c:Int}(h:[c] ∉ N):lsf N [c]=[]:=by
 unfold lsf;rw[Lc h]
 rfl
theorem Oh{N:Lb}(Y:Pre N)(c:Int):∀{n:Nat}{x:List Int},x∈N->lc x<=n->
  lsf N (x++[c])=match (GH N n x).find? (λy=>decide (y++[c]∈N))with|some y=>y++[c]|none=>[]
 |n,x,hx,hn=>by
  by_cases hk:x++[c]∈N
  ·rw[Lu hk];obtain⟨l,V⟩:=afr N n x;rw[V,List.find?_cons,Vb hk]
  ·cases n with
   |zero=>
    have:x=[]:=Bz om;subst this;have Z:[c] ∉ N:=hk;show lsf N [c]=_;rw[ady Z];unfold GH;rw[List.find?_cons,decide_eq_false hk]
    rfl
   |succ n=>
    unfold GH
    by_cases e:x=[]
    ·subst e;have Z:[c] ∉ N:=hk;show lsf N [c]=_;rw[ady Z,Lq rfl,List.find?_cons,decide_eq_false hk]
     rfl
    ·rw[Lc e,List.find?_cons,decide_eq_false hk];dsimp only;have X:=Oh Y c (n:=n) (x:=EC N x) (Id Y.1 _) (by have:=Lx (N:=N) e;omega);rw[<-X];unfold EC;rw[<-Ng Y]
     cases x with
     |nil=>exact absurd rfl e
     |cons a t=>
      have Z:a::(t++[c]) ∉ N:=hk;show lsf N (a::(t++[c]))=lsf N (t++[c])
      conv=>lhs;unfold lsf
      rw[Lc Z]
theorem KQ(ws:Lb):Pre (AB ws):=
 ⟨(DT ws).2 (.inl rfl),λx c h=>by have:=((DT ws).1 h).up;rw[LJ]at this;exact(DT ws).2 this⟩
theorem agl{N:Lb}{MH:Nat}(h0:[]∈N)(X:∀y∈N,lc y<=MH)(b:List Int):lsf N (b.drop (lc b-MH))=lsf N b:=by
 symm
 refine aaP (Id h0 _) ((Gb N _).trans (List.drop_suffix _ _)) h0 (λz Z Y=>?_);refine Lv Y (List.suffix_of_suffix_length_le Z (List.drop_suffix _ _) ?_);have h1:=X z Y;have h2:=Z.length_le;rw[List.length_drop];omega
theorem al2{N:Lb}{b:List Int}{k:Nat}(hk:k<lc b)(h:b.drop k ∉ N):lsf N (b.drop k)=lsf N (b.drop (k+1)):=by
 rw[List.drop_eq_getElem_cons hk]at h⊢
 conv=>lhs;unfold lsf
 rw[Lc h]
theorem afH{ws:Lb}{i k:Nat}{x y:List Int}(V:(AB ws)[i]?=E x)(Z:(AB ws)[k]?=E y)(h:lc y<lc x):k<i:=by
 have h1:=(AP.1 V);have h2:=(AP.1 Z)
 rcases Nat.lt_trichotomy k i with Y|rfl|X
 ·exact Y
 ·rw[V]at Z;have:=AK Z;rw[this]at h;omega
 ·have:=List.pairwise_iff_getElem.1 (CL ws) i k h1.1 h2.1 X;rw[h1.2,h2.2]at this;have:=ag6 this;omega
def Gc(ws:Lb)(x:List Int):Int:=CW (AB ws) (EC (AB ws) x)
def Bo(ws:Lb):List Int:=(AB ws).map (Gc ws)
theorem acQ{ws:Lb}(x:List Int):∃k:Nat,Gc ws x=k/\(AB ws)[k]?=E (EC (AB ws) x):=by have Z:=Id (KQ ws).1 x.tail;obtain⟨k,hk⟩:=DR Z;exact⟨k,CV (CL ws).nodup hk,hk⟩
theorem anK{ws:Lb}{x:List Int}{c:Int}(h0:x≠[]):EC (AB ws) (x++[c])=lsf (AB ws) (EC (AB ws) x++[c]):=by
 unfold EC;rw[<-Ng (KQ ws)]
 cases x with
 |nil=>exact absurd rfl h0
 |cons a t=>rfl
theorem akI{ws:Lb}(c:Int):EC (AB ws) [c]=[]:=rfl
def an1(b e:List Int):Bool:=decide (lc e<=lc b)&&decide (b.drop (lc b-(lc e))=e)
theorem ajO{b e:List Int}:an1 b e=G↔e <:+b:=by
 unfold an1;rw[Bq,decide_eq_true_iff,decide_eq_true_iff]
 constructor
 ·rintro⟨_,h⟩;exact List.suffix_iff_eq_drop.2 h.symm
 ·intro h;exact⟨h.length_le,(List.suffix_iff_eq_drop.1 h).symm⟩
section
variable {ws:Lb}
theorem alt(b:List Int)(c:Int):an1 (b++[c]) (lsf (AB ws) (b++[c]))=G/\(lsf (AB ws) (b++[c])).length<=(lsf (AB ws) b).length+1/\lsf (AB ws) (b++[c])=lsf (AB ws) (lsf (AB ws) b++[c]):=by have h:=Ng (KQ ws) b c;refine⟨ajO.2 (Gb _ _),?_,h⟩;rw[h];have:=(Gb (AB ws) (lsf (AB ws) b++[c])).length_le;rw[List.length_append,OK]at this;exact this
end
section
open Go Go.RowKit Go.Sort
def Dp(U B:List Int):Nat->Int×Int->Option Int
 |0,_=>O
 |j+1,q=>if q=((U[j+1]?).getD 0,(B[j+1]?).getD 0) then E ((j:Int)+1) else Dp U B j q
theorem acF{U B:List Int}{q:Int×Int}{k:Int}:∀{j:Nat},Dp U B j q=E k->∃i:Nat,1<=i/\i<=j/\k=i/\q=((U[i]?).getD 0,(B[i]?).getD 0)
 |0,h=>by simp[Dp]at h
 |j+1,h=>by
  unfold Dp at h
  split at h
  ·rename_i Z
   exact⟨j+1,by omega,AC _,by have:=AK h;omega,Z⟩
  ·obtain⟨i,h1,h2,h3⟩:=acF h;exact⟨i,h1,by omega,h3⟩
theorem acw{U B:List Int}{q:Int×Int}:∀{j:Nat},Dp U B j q=O->∀i:Nat,1<=i->i<=j->q≠((U[i]?).getD 0,(B[i]?).getD 0)
 |0,h,i,h1,h2=>by omega
 |j+1,h,i,h1,h2=>by
  unfold Dp at h
  split at h
  ·cases h
  ·rename_i Z
   by_cases e:i=j+1
   ·subst e;exact Z
   ·exact acw h i h1 om
section
variable {ws:Lb}
theorem EM{i:Nat}{x:List Int}(Z:(AB ws)[i]?=E x):i=0↔x=[]:=by
 have h0:=CM ws
 constructor
 ·rintro rfl;rw[h0]at Z;exact(AK Z).symm
 ·rintro rfl;have h1:=CV (CL ws).nodup Z;have h2:=CV (CL ws).nodup h0;omega
theorem alO{i k:Nat}{x:List Int}(Z:(AB ws)[i]?=E x)(hk:(AB ws)[k]?=E x):i=k:=by have h1:=CV (CL ws).nodup Z;have h2:=CV (CL ws).nodup hk;omega
theorem JC{i:Nat}{y:List Int}(Z:(AB ws)[i]?=E y):(AG ws).up[i]?=E (CW (AB ws) y.dropLast)/\(AG ws).byt[i]?=E (DU y)/\(AG ws).dep[i]?=E (lc y:Int)/\(AG ws).wrd[i]?=E (CW ws y):=by simp[AG,Z]
theorem LR{y:List Int}(Z:y∈AB ws):y.dropLast∈AB ws:=(DT ws).2 ((DT ws).1 Z).up
theorem Om{y:List Int}(h:y≠[]):y=y.dropLast++[DU y]:=by obtain⟨q,Z⟩:∃q,lc y=q+1:=⟨lc y-1,by have:lc y≠0:=λe=>h (Bz e);omega⟩;unfold DU;rw[MV h];exact(Em h).symm
theorem ajk{z:Nat}{x:List Int}(D:(AB ws)[z]?=E x)(c:Int) :Dp (AG ws).up (AG ws).byt ((AB ws).length-1) ((z:Int),c)=if x++[c]∈AB ws then E (CW (AB ws) (x++[c])) else O:=by
 have Z:=(CL ws).nodup
 cases e:Dp (AG ws).up (AG ws).byt ((AB ws).length-1) ((z:Int),c)with
 |some k=>
  obtain⟨i,h1,h2,rfl,N⟩:=acF e;obtain⟨y,Y⟩:∃y,(AB ws)[i]?=E y:=⟨(AB ws)[i]'om,by simp⟩;obtain⟨u1,X,_⟩:=JC Y;rw[u1,X]at N;simp only[CG,Jk]at N;have V:y≠[]:=λe2=>by have:=(EM Y).2 e2;omega
  obtain⟨j,I⟩:=DR (LR (AX Y));have v:=CV Z I;have J:j=z:=by omega
  subst J;rw[D]at I;have U:x++[c]=y:=by rw[AK I,N.2];exact(Om V).symm
  rw[U,Lq (AX Y),CV Z Y]
 |none=>
  rw[Lc];intro C;obtain⟨i,H⟩:=DR C;have B:=(AP.1 H).1;have A:i≠0:=λe2=>by have:=(EM H).1 e2;simp at this
  obtain⟨u1,X,_⟩:=JC H;refine acw e i om om ?_;rw[u1,X];simp only[CG,Jk,LJ];refine⟨(CV Z D).symm,?_⟩;simp[DU]
def chN(LO:List Int):Nat->Nat->List Nat
 |0,z=>[z]
 |f+1,z=>if z=0 then [z] else z::chN LO f ((LO[z]?).getD 0).toNat
def IK(ws:Lb)(LO:List Int)(i:Nat):Prop:=∀(j:Nat)(x:List Int),j<i->(AB ws)[j]?=E x->LO[j]?=E (Gc ws x)
theorem IK.at_{LO:List Int}{i z:Nat}(h:IK ws LO i){x:List Int}(X:z<i)(Z:(AB ws)[z]?=E x)(h0:z≠0):∃k:Nat,LO[z]?=E (k:Int)/\k<z/\(AB ws)[k]?=E (EC (AB ws) x):=by obtain⟨k,h1,h2⟩:=acQ (ws:=ws) x;have Y:=h z x X Z;rw[h1]at Y;refine⟨k,Y,afH Z h2 (Lx λe=>h0 ((EM Z).2 e)),h2⟩
theorem adl{LO:List Int}{i:Nat}(h:IK ws LO i):∀{f g z:Nat}{x:List Int},z<i->z<=f->(AB ws)[z]?=E x->lc x<=g->(chN LO f z).map (λk=>(AB ws)[k]?)=(GH (AB ws) g x).map E
 |0,g,z,x,hz,hf,hx,hg=>by
  obtain rfl:z=0:=by omega
  have Z:=(EM hx).1 rfl;subst Z
  cases g<;>simp[chN,GH,hx]
 |f+1,g,z,x,hz,hf,hx,hg=>by
  unfold chN
  by_cases h0:z=0
  ·subst h0;have Z:=(EM hx).1 rfl;subst Z
   cases g<;>simp[GH,hx]
  ·have Z:x≠[]:=λe=>h0 ((EM hx).2 e);obtain⟨k,h1,h2,h3⟩:=h.at_ hz hx h0;obtain⟨g',rfl⟩:∃g',g=g'+1:=⟨g-1,by have:lc x≠0:=λe=>Z (Bz e);omega⟩;unfold GH;rw[Lc h0,Lc Z,h1,BO,BO,hx,CG,Aa,adl (g:=g') h om om h3 (by have:=Lx (N:=AB ws) Z;omega)]
theorem alI{LO:List Int}{i f g z0:Nat}(h:IK ws LO i){x:List Int}(V:z0<i)(I:z0<=f)(U:(AB ws)[z0]?=E x)(J:lc x<=g){p:List Nat}{r:List Nat}(N:chN LO f z0=p++r) :∃Y Z,GH (AB ws) g x=Y++Z/\p.map (λk=>(AB ws)[k]?)=Y.map E/\r.map (λk=>(AB ws)[k]?)=Z.map E:=by have X:=adl h V I U J;rw[N,Aj]at X;obtain⟨Y,Z,h1,h2,h3⟩:=List.map_eq_append_iff.1 X.symm;exact⟨Y,Z,h1,h2.symm,h3.symm⟩
theorem ael{c:Int}{p:List Nat}{Y:Lb}(V:p.map (λk=>(AB ws)[k]?)=Y.map E)(U:∀y∈p,Dp (AG ws).up (AG ws).byt ((AB ws).length-1) ((y:Int),c)=O):∀y∈Y,¬(y++[c]∈AB ws):=by
 intro y X N;have:E y∈p.map (λk=>(AB ws)[k]?):=by rw[V];exact List.mem_map_of_mem X
 obtain⟨k,hk,Z⟩:=Be.1 this;have h1:=U k hk;rw[ajk Z,Lq N]at h1
 cases h1
theorem aiZ{LO:List Int}{i f z0 z:Nat}(h:IK ws LO i){x:List Int}(N:z0<i)(C:z0<=f)(X:(AB ws)[z0]?=E x){p r:List Nat}{c k:Int}(I:chN LO f z0=p++[z]++r)
  (D:∀y∈p,Dp (AG ws).up (AG ws).byt ((AB ws).length-1) ((y:Int),c)=O) (hk:Dp (AG ws).up (AG ws).byt ((AB ws).length-1) ((z:Int),c)=E k):k=CW (AB ws) (lsf (AB ws) (x++[c])):=by
 obtain⟨A,B,h1,h2,_⟩:=alI h N C X (AC _) I;rw[Aj]at h2;obtain⟨U,Y,rfl,h3,h4⟩:=List.map_eq_append_iff.1 h2.symm;obtain⟨y,rfl,J⟩:∃y,Y=[y]/\(AB ws)[z]?=E y:=by
  cases Y with
  |nil=>simp at h4
  |cons y t=>
   cases t with
   |nil=>exact⟨y,rfl,by simpa using h4.symm⟩
   |cons _ _=>simp at h4
 rw[ajk J]at hk;have V:y++[c]∈AB ws:=by
  by_cases e:y++[c]∈AB ws
  ·exact e
  ·rw[Lc e]at hk;cases hk
 rw[Lq V]at hk;rw[Oh (KQ ws) c (AX X) (AC _),h1];have Z:U.find? (λy=>decide (y++[c]∈AB ws))=O:=by
  rw[List.find?_eq_none];intro q H
  simpa using ael h3.symm D q H
 rw[CE,List.find?_append,Z];simp[V];exact(AK hk).symm
theorem ajN{LO:List Int}{i f z0:Nat}(h:IK ws LO i){x:List Int}(X:z0<i)(N:z0<=f)(Y:(AB ws)[z0]?=E x){c:Int}
  (U:∀y∈chN LO f z0,Dp (AG ws).up (AG ws).byt ((AB ws).length-1) ((y:Int),c)=O):(0:Int)=CW (AB ws) (lsf (AB ws) (x++[c])):=by
 have J:=adl h X N Y (AC _);rw[Oh (KQ ws) c (AX Y) (AC _)];have Z:(GH (AB ws) (lc x) x).find? (λy=>decide (y++[c]∈AB ws))=O:=by
  rw[List.find?_eq_none];intro q V
  simpa using ael J U q V
 rw[Z];have:=CV (CL ws).nodup (CM ws);simp[this]
theorem JP{j:Nat}{x:List Int}(Z:(AB ws)[j]?=E x):(Bo ws)[j]?=E (Gc ws x):=by simp[Bo,Z]
theorem aiJ(ws:Lb)(i:Nat):IK ws (Bo ws) i:=λj x _ Z=>JP Z
theorem am7{j u:Nat}{x:List Int}(V:(AB ws)[j]?=E x)(h0:j≠0)(N:(AG ws).up[j]?=E (u:Int)) :∃y,(AB ws)[u]?=E y/\u<j/\(AG ws).byt[j]?=E (DU x)/\x=y++[DU x]/\(u=0->Gc ws x=0)/\(u≠0->∃(k:Nat)(v:List Int),Gc ws y=k/\(AB ws)[k]?=E v/\Gc ws x=CW (AB ws) (lsf (AB ws) (v++[DU x]))):=by
 have Y:x≠[]:=λe=>h0 ((EM V).2 e);obtain⟨u1,J,_⟩:=JC V;obtain⟨q,X⟩:=DR (LR (AX V));have I:=CV (CL ws).nodup X;rw[u1,I]at N;obtain rfl:q=u:=by have:=AK N;omega
 have Z:=Om Y;refine⟨x.dropLast,X,afH V X (by rw[List.length_dropLast];have:lc x≠0:=λe=>Y (Bz e);omega),J,Z,λe=>?_,λe=>?_⟩
 ·have U:x.dropLast=[]:=(EM X).1 e;rw[U]at Z;unfold Gc;rw[Z];show CW (AB ws) (EC (AB ws) ([]++[DU x]))=0;rw[Av,akI];exact CV (CL ws).nodup (CM ws)
 ·have U:x.dropLast≠[]:=λe2=>e ((EM X).2 e2);obtain⟨k,h1,h2⟩:=acQ (ws:=ws) x.dropLast;refine⟨k,_,h1,h2,?_⟩;rw[<-anK U,<-Z]
  rfl
end
end
section
abbrev Sv:=Option Addr×Nat×Nat
abbrev svV(v:Sv):Vk:=T v.1 v.2.1 v.2.2
structure GM(g n:Nat)(l:Lb)(W:World):Prop where
 ex:∃vs:List Sv,W.heap[g]?=some (.cells (vs.map svV).toArray 32 (0,0))/\vs.length=n/\l.length<=n/\∀(i:Nat)(v:Sv)(x:List Int),vs[i]?=some v->l[i]?=some x->Bys W v.1 v.2.1 x/\v.2.1<=v.2.2
theorem aj9:(ZP.info? 32).map (λi=>(i.zero,i.size,i.bytes))=E (E (T O 0 0),1,24):=by kernel_rfl
def GW(n:Nat):Array Vk:=Array.replicate n (T O 0 0)
theorem agW(n:Nat):madeCells (T O 0 0).cells n=GW n:=by
 apply Array.ext
 ·simp[madeCells,GW]
 ·intro i h1 h2;simp[madeCells,GW,Value.cells,Nat.mod_one]
theorem aiI{Ta:Ay}{i:Nat}(Y:1<=i)(h:Cy Ta i=O):∀k,i<=k->Cy Ta k=O:=by
 intro k hk;obtain⟨d,rfl⟩:∃d,k=i+d:=⟨k-i,by omega⟩;clear hk
 induction d with
 |zero=>exact h
 |succ d ih=>
  obtain⟨j,Z⟩:∃j,i+d=j+1:=⟨i+d-1,by omega⟩;rw[show i+(d+1)=j+2 by omega];unfold Cy;rw[<-Z,ih]
  rfl
theorem Bys.setSl{w:Wa}{a:Option Addr}{n:Nat}{x:List Int}(h:Bys w a n x){g i:Nat}{N:List Sv}{t:TypeId}(H:w.heap[g]?=E (i7 (N.map svV).toArray t (0,0)))(u:Vk):Bys (w.setCell ⟨g,i,O⟩ u) a n x:=by
 refine⟨⟨h.1.1,?_⟩,h.2⟩
 rcases h.1.2 with h0|⟨b,off,e,Z,U⟩
 ·exact .inl h0
 ·by_cases I:x=[]
  ·left;have:=h.1.1;rw[I]at this;simpa using this.symm
  ·refine .inr ⟨b,off,e,by simpa[World.setCell]using Z,λj y V=>?_⟩;have X:g≠b:=by
    rintro rfl;have Y:=U j y V;rw[cell_of_row w g (off+j) _ _ _ H]at Y;simp only[Dy,BU,Fo]at Y;obtain⟨v,_,J⟩:=Y
    cases J
   rw[OG _ _ _ _ X];exact U j y V
theorem GM.step{g n i:Nat}{l:Lb}{W U:Wa}(s:GM g n l W)(A:lc l=i)(e:i<n)(hB:La W U){a:Option Addr}{m c:Nat}{x:List Int}(D:Bys U a m x)(C:m<=c) :GM g n (l++[x]) (U.setCell ⟨g,i,O⟩ (T a m c)):=by
 obtain⟨H,Y,N,B,X⟩:=s.ex;have h2:U.heap[g]?=_:=(hB.block g (AD.1 Y).1).trans Y;refine⟨H.set i (a,m,c),?_,by simp[N],by simp;omega,λj v y V Z=>?_⟩
 ·have:=AJ (i:=i) h2 (T a m c)
  simpa[Is,svV]using this
 ·by_cases I:j=i
  ·subst I;rw[FU om]at V;obtain rfl:=AK V;rw[<-A,MX]at Z;obtain rfl:=AK Z;exact⟨D.setSl h2 _,C⟩
  ·rw[FH (Ne.symm I)]at V;have J:=(AP.1 Z).1;rw[By (by simp at J;omega)]at Z;obtain⟨h3,h4⟩:=X j v y V Z;exact⟨(h3.below hB).setSl h2 _,h4⟩
theorem Ol{Ta:Ay}:∀{i:Nat}{l:Lb},Cy Ta i=E l->∀x∈l,lc x<i
 |0,l,h=>by simp[Cy]at h
 |1,l,h=>by simp[Cy]at h;subst h;simp
 |i+2,l,h=>by
  unfold Cy at h;obtain⟨V,h0,h1⟩:=Io.1 h;have Y:=Ol h0
  split at h1
  ·split at h1
   ·obtain⟨p,X,rfl⟩:=Fo.1 h1;intro x Z
    rcases Bf.1 Z with Z|Z
    ·have:=Y x Z;omega
    ·rw[Fq]at Z;subst Z;have:=Y p (AX X);simp;omega
   ·cases h1
  ·cases h1
theorem Mt{P:Program}{w:Wa}{V:Array Oper}{o:Oper}{a:Act}{KB:Act->Wa->Prop}{Q:Exit->Act->Wa->Prop}{Eo:Prop}(H:o.guard=O)(s x:Operand)(t:TypeId)
  (ho:o.op=.call {callee:=.builtin .append,args:=#[s,x],argTypes:=#[t,t]}) {α:Type} {enc:α->Vk} (N:∀x,(enc x).oneCell'=G)
  (base:Nat) (e:TypeId) (i:TypeInfo) (z:Vk) (bytes:Nat) (ht:P.underlying t=E (.slice e)) (hi:P.info? e=E i) (B:i.zero=E z) (Y:i.size=1) (D:i.bytes=bytes) (J:z.cells.size=1)
  (v:Vk) (n:Nat) (xs:List Vk) (hs:a.eval s=v) (U:w.ownsRow base e 1 v n xs) (A:Option Addr) (m c:Nat) (ys:List α) (j:a.eval x=T A m c) (I:Sl1 enc w A m ys)
  (C:n+m<=maxLen) (Z:(n+m)*bytes<=140737488355328) (X:base<=w.heap.size)
  (h:∀v' w',w'.ownsRow base e 1 v' (n+m) (xs++ys.map enc)->w.grownBy w' v.ownBlock->(v'.ownBlock=v.ownBlock∨v'.ownBlock=E w.heap.size)->KB (a.put o.dst v') w') :
  if Region.wanted o (yielded V a.tmps)=G then Oper.wp P o a w KB Q else Eo:=by
 have hw:Region.wanted o (yielded V a.tmps)=G:=by simp[Region.wanted,H]
 rw[Lq hw];obtain⟨v',w',hr,h2,h3,h4⟩:=aak (P:=P) N w base t o.type e i z bytes ht hi B Y D J v n xs U A m c ys I C Z X;unfold Oper.wp execOp;simp only[ho,resolve,invoke,builtin,IN,IM,Result.andThen_ok,LI,BO,DE,hs,j,hr];exact h v' w' h2 h3 h4
attribute[local go_sem ↓] Go.wp_at_zero Go.wp_at_succ
theorem ajf(t:TV)(Ta:Ay)(w:Wa)(hT:Tri w t Ta)(hb:t.un<=140737488351232) :Calls ZP 276 #[i8 t.cells] w λe w'=>(∀D,spO Ta=E D->∃g,e=ra (ta #[T (E ⟨g,0,O⟩) (lc D) (lc D),i6 G])/\w.heap.size<=g/\GM g (lc D) D w')/\(spO Ta=O->e=ra (ta #[T O 0 0,i6 M]))/\La w w':=by
  obtain⟨ua,un,uc,da,dn,dc,xa,xn,xc,ba,bn,bc⟩:=t;dsimp only at hb;obtain⟨W,hW⟩:∃W,W=w.alloc (i7 #[T ua un uc,T da dn dc,T xa xn xc,T ba bn bc] 150):=⟨_,rfl⟩;have hB:La w W:=by rw[hW];exact AL _ _
  have hO:Bx w.heap.size [i7 #[T ua un uc,T da dn dc,T xa xn xc,T ba bn bc] 150] W:=by rw[hW];exact(Bx.nil _ w).snoc _ rfl
  have al:=hT.below hB
  by_cases ag:1<=un/\un<=400/\bn=un/\dn=un/\xn=un
  ·
    obtain⟨h1,h2,e1,e2,e3⟩:=ag;subst e1 e2 e3;have HO:Hid (spO Ta=Cy Ta xn):=by unfold Hid spO;rw[hT.up.1,hT.byt.1.1,hT.dep.1,hT.wrd.1,Lq ⟨h1,h2,rfl,rfl,rfl⟩]
    have c0:W.cell? ⟨w.heap.size,0,O⟩=E (T ua _ uc):=hO.cell (i:=0) rfl rfl;have c1:W.cell? ⟨w.heap.size,1,O⟩=E (T da _ dc):=hO.cell (i:=0) rfl rfl;have c2:W.cell? ⟨w.heap.size,2,O⟩=E (T xa _ xc):=hO.cell (i:=0) rfl rfl;have c3:W.cell? ⟨w.heap.size,3,O⟩=E (T ba _ bc):=hO.cell (i:=0) rfl rfl;have az:∀V:Wa,(Instr.makeSlice 22 (R K xn) (R K xn)).run ZP V=.ok (T (E ⟨V.heap.size,0,O⟩) xn xn) (V.alloc (i7 (GW xn) 32)):=λV=>by
      obtain⟨i0,hi,B,J,C⟩:=Vh aj9;have h:=run_makeSlice (P:=ZP) (w:=V) 22 32 i0 (.slice O 0 0) underlying22 hi B .i64 .i64 (xn:Int) (xn:Int) om om (by rw[J];omega) (by rw[C];omega) om;rw[J]at h;have e1:(xn:Int).toNat*1=xn:=by omega
      rw[e1,agW,Aa]at h;exact h
    go_enter func276,ntmps276;go_upto_region 1 with fail
    rw[<-hW];clear hW;go_upto_region 5 with fail
    clear az c0 c1 c2 c3;obtain⟨V,hV⟩:∃V,V=W.alloc (i7 (GW xn) 32):=⟨_,rfl⟩;obtain⟨g,hg⟩:∃g,g=W.heap.size:=⟨_,rfl⟩;have hR:GM g xn [[]] V:=by
      rw[hV,hg];refine⟨List.replicate xn (O,0,0),?_,by simp,by simpa using h1,λi v x s hx=>?_⟩
      ·rw[AT];simp[GW,svV]
      ·
        rw[Jo]at s
        split at s
        ·
          obtain rfl:=AK s
          cases i with
          |zero=>simp at hx;subst hx;exact⟨Bys.nil _ _,AC _⟩
          |succ i=>simp at hx
        ·cases s
    have X:La W V:=by rw[hV];exact AL _ _
    have aa:=hO.below X;rw[<-hV,<-hg];clear hV;have HG:=AA hg;clear hg;go_wp2
    go_loopw[6,7] (λs6 _ wr=>∃(i:Nat)(l:Lb),1<=i/\i<=xn/\s6=R K i/\Hid (Cy Ta i=E l)/\GM g xn l wr/\La W wr/\Bx w.heap.size [i7 #[T ua xn uc,T da xn dc,T xa xn xc,T ba xn bc] 150] wr) (λs6 _ _=>xn-(intOf s6).toNat)
    case atStart=>exact⟨1,[[]],AC _,h1,rfl,rfl,hR,X,aa⟩
    case round=>
      clear hR X aa;obtain⟨i,l,aX,aW,rfl,HS,hR,X,aa⟩:=hrel;have c0:wr.cell? ⟨w.heap.size,0,O⟩=E (T ua xn uc):=aa.cell (i:=0) rfl rfl
      by_cases ai:i<xn
      ·
        have aB:decide ((i:Int)<xn)=G:=by simp;omega
        obtain⟨b0,o0,u,aG,aU,cu,hu⟩:=DG (al.up.below X) ai;subst aG;have HU:=AA hu;clear hu
        by_cases ax:0<=u/\u<i
        ·
          have aq:decide (u<0)=M:=by simp;omega
          have aC:decide ((i:Int)<=u)=M:=by simp;omega
          obtain⟨k,rfl⟩:∃k:Nat,u=k:=⟨u.toNat,by omega⟩;have aV:k<i:=by omega
          clear ax;obtain⟨vs,A,aS,aA,af⟩:=hR.ex;have ap:lc l=i:=Mv HS.out;obtain⟨⟨va,H,vc⟩,s⟩:∃v,vs[k]?=E v:=⟨vs[k]'om,by simp⟩;obtain⟨p,hp⟩:∃p,l[k]?=E p:=⟨l[k]'om,by simp⟩;obtain⟨a6,aw⟩:=af k _ _ s hp;dsimp only at a6 aw;obtain⟨b3,o3,c,rfl,aF,cb,hc⟩:=DG (al.byt.1.below X) ai;have aD:=al.byt.2 c (AX hc);have aM:Hid (Cy Ta (i+1)=E (l++[p++[c]])):=by
            obtain⟨j,rfl⟩:∃j,i=j+1:=⟨i-1,by omega⟩;show Cy Ta (j+1+1)=_;unfold Cy;rw[HS.out,EV,HU.out,hc];dsimp only;rw[Lq (show 0<=(k:Int)/\(k:Int)<(j:Int)+1 by omega),Aa,hp]
            rfl
          have aN:Hid (lc p<i):=Ol HS.out p (AX hp);have aj:g<wr.heap.size:=(AD.1 A).1;have HK:Hid (∀w',La wr w'->w'.cell? ⟨g,k,O⟩=E (T va H vc)/\w'.cell? ⟨w.heap.size,3,O⟩=E (T (E ⟨b3,o3,O⟩) xn bc)/\w'.cell? ⟨b3,o3+i,O⟩=E (.int .u8 c)):=by intro w' U;have aJ:=aa.below U;refine⟨?_,aJ.cell (i:=0) rfl rfl,(U.cell (p:=⟨b3,o3+i,O⟩) aF).trans cb⟩;rw[cell_of_row w' g k _ _ _ ((U.block g aj).trans A)];simp[s,svV]
          have aQ:w.heap.size<g:=by have h:=HG.out;have:=hO 0 _ rfl;have:=(AD.1 this).1;omega
          have aL:g≠b3:=by
            rintro rfl;rw[cell_of_row wr g _ _ _ _ A]at cb;simp only[Dy,BU,Fo]at cb;obtain⟨v,_,s⟩:=cb
            cases s
          have aP:Hid (∀w',La wr w'->∀u,(w'.setCell ⟨g,i,O⟩ u).cell? ⟨g,k,O⟩=E (T va H vc)/\(w'.setCell ⟨g,i,O⟩ u).cell? ⟨w.heap.size,3,O⟩=E (T (E ⟨b3,o3,O⟩) xn bc)/\(w'.setCell ⟨g,i,O⟩ u).cell? ⟨b3,o3+i,O⟩=E (.int .u8 c)):=by
            intro w' U u;obtain⟨_,h2,h3⟩:=HK.out w' U;refine⟨?_,?_,?_⟩
            ·rw[cell_of_row _ g k _ _ _ (AJ (i:=i) ((U.block g aj).trans A) u),Array.getElem?_setIfInBounds_ne om];simp[s,svV]
            ·rw[OG _ _ _ _ (by show g≠w.heap.size;omega)];exact h2
            ·rw[OG _ _ _ _ aL];exact h3
          have HF:Hid (∀w',La wr w'->w'.cell? ⟨g,i,O⟩=E (svV (vs[i]'om))/\w'.frozen? ⟨g,i,O⟩=M):=by
            intro w' U;have:=(U.block g aj).trans A;refine⟨?_,by simp[frozen?,this]⟩;rw[cell_of_row w' g i _ _ _ this,Dy,BU,Ar om]
            rfl
          clear cb hc s hp af A aA;go_wp2;have av:La wr wr.drew:=(AH _ _).drew;have i1:k<xn:=by omega
          have i2:(0:Int)<=(k:Int):=by omega
          have i3:(k:Int)<(xn:Int):=by omega
          have i4:(0:Int)<=(i:Int):=by omega
          have i5:(i:Int)<(xn:Int):=by omega
          obtain⟨k1,k2,k3⟩:=HK.out wr (AH _ _);have f0:=HF.out wr (AH _ _);have ay:Bys wr.drew va H p:=a6.below ((AH _ _).drew);have aR:H<400:=by have:=aN.out;have:=a6.len;omega
          obtain⟨i0,hi,B,J,C⟩:=Vh Gs;have am:∀o,La wr (wr.alloc o).drew:=λo=>((AH _ _).alloc (AC _) o).drew;have ao:∀o,Bys (wr.alloc o).drew va H p:=λo=>a6.below (am o);have ac:∀o,wr.heap.size<=(wr.alloc o).drew.heap.size:=λo=>(am o).size;have aH:∀(c:Int)(t:TypeId),Sl1 (Value.int .u8) (wr.alloc (i7 #[.int .u8 c] t)).drew (E ⟨wr.heap.size,0,O⟩) 1 [c]:=λc t=>(Sl1.lay (Value.int .u8) wr [c] t _ rfl).below ((AH _ _).drew);have aK:∀o,La wr (wr.drew.alloc o):=λo=>av.alloc (AC _) o
          go_region_held3 (λw'=>w'.cell? ⟨g,k,O⟩=E (.slice va H vc)/\w'.cell? ⟨w.heap.size,3,O⟩=E (.slice (E ⟨b3,o3,O⟩) xn bc)/\w'.cell? ⟨b3,o3+i,O⟩=E (.int .u8 c)) (first | (go_keep;done) | exact HK.out _ (aK _) | exact HK.out _ (Y.alloc Y.size _) | exact aP.out _ N _) (first
            | (refine Mt (by rfl) _ _ 32 (by rfl) JB wr.heap.size 5 i0 (.int .u8 0) 1 underlying32 hi B J C rfl (.slice O 0 0) 0 [] (by rfl) (BN _ _ _ _) va H vc p (by rfl) ay.1 (by unfold maxLen;omega) om (AC _) ?_
               intro v1 w1 Z ab a8;have Y:La wr w1:=av.grown ab (AC _) (λk e=>by cases e);rw[DD,Av]at Z;obtain⟨a1,c1,rfl,aE,_⟩:=Co (enc:=Value.int .u8) (xs:=p) Z;obtain⟨d1,d2,d3⟩:=HK.out w1 Y;clear a8)
            | (refine Mt (by rfl) _ _ 32 (by rfl) JB wr.heap.size 5 i0 (.int .u8 0) 1 underlying32 hi B J C rfl (.slice O 0 0) 0 [] (by rfl) (BN _ _ _ _) va H vc p (by rfl) (ao _).1 (by unfold maxLen;omega) om (ac _) ?_
               intro v1 w1 Z ab a8;have Y:La wr w1:=(am _).grown ab (ac _) (λk e=>by cases e);have aI:Sl1 (Value.int .u8) w1 (E ⟨wr.heap.size,0,O⟩) 1 [c]:=(aH c _).below ((AH _ _).grown ab (AC _) (λk e=>by cases e));rw[DD,Av]at Z;obtain⟨a1,c1,rfl,aE,_⟩:=Co (enc:=Value.int .u8) (xs:=p) Z;obtain⟨d1,d2,d3⟩:=HK.out w1 Y;clear a8)
            | (refine Mt (by rfl) _ _ 32 (by rfl) JB wr.heap.size 5 i0 (.int .u8 0) 1 underlying32 hi B J C rfl (.slice a1 H c1) H (p.map (Value.int .u8)) (by rfl) (Z.alloc _) (E ⟨w1.heap.size,0,O⟩) 1 1 [c] (by rfl) (Sl1.lay (Value.int .u8) w1 [c] _ _ rfl) (by unfold maxLen;omega) om (by have:=Y.size;simp;omega) ?_
               intro v2 w2 I ak a7;have N:La wr w2:=(Y.alloc Y.size _).grown ak (by have:=Y.size;simp;omega) (λj hj=>(Z.lt j hj).1);obtain⟨a2,c2,rfl,ar,ae⟩:=Co (enc:=Value.int .u8) (xs:=p++[c]) (by simpa using I);obtain⟨e1,e2,e3⟩:=HK.out w2 N;obtain⟨e4,e5⟩:=HF.out w2 N;clear a7)
            | (refine Mt (by rfl) _ _ 32 (by rfl) JB wr.heap.size 5 i0 (.int .u8 0) 1 underlying32 hi B J C rfl (.slice a1 H c1) H (p.map (Value.int .u8)) (by rfl) Z (E ⟨wr.heap.size,0,O⟩) 1 1 [c] (by rfl) aI (by unfold maxLen;omega) om Y.size ?_
               intro v2 w2 I ak a7;have N:La wr w2:=Y.grown ak Y.size (λj hj=>(Z.lt j hj).1);obtain⟨a2,c2,rfl,ar,ae⟩:=Co (enc:=Value.int .u8) (xs:=p++[c]) (by simpa using I);obtain⟨e1,e2,e3⟩:=HK.out w2 N;obtain⟨e4,e5⟩:=HF.out w2 N;clear a7))
          all_goals
            go_wp2;have au:La W (w2.setCell ⟨g,i,O⟩ (T a2 (H+1) c2)):=(X.trans (N.mono X.size)).setCell (by show W.heap.size<=g;exact Gq HG.out.symm) _
            go_roundw
            case rel=>
              refine⟨i+1,_,by omega,by omega,by go_num,aM,hR.step ap ai N ⟨ae,λx hx=>?_⟩ ar,au,hO.below au⟩
              rcases Bf.1 hx with hx|hx
              ·exact a6.2 x hx
              ·rw[Fq]at hx;subst hx;exact aD
            case measure=>simp[intOf];omega
        ·
          have HN:Hid (∀k,i+1<=k->Cy Ta k=O):=by
            refine aiI om ?_;obtain⟨j,rfl⟩:∃j,i=j+1:=⟨i-1,by omega⟩;unfold Cy;rw[HS.out,EV,HU.out]
            cases aY:Ta.byt[j+1]? with
            |none=>rfl
            |some c=>simp;omega
          by_cases aT:u<0
          ·
            have aq:decide (u<0)=G:=by simp;omega
            have HZ:Hid (spO Ta=O):=by rw[Hid,HO.out];exact HN.out xn om
            go_wp2;go_ret2;exact⟨λD h=>(by rw[HZ.out]at h;cases h),λ_=>rfl,hB.trans (X.mono hB.size)⟩
          ·
            have aq:decide (u<0)=M:=by simp;omega
            have aC:decide ((i:Int)<=u)=G:=by simp;omega
            have HZ:Hid (spO Ta=O):=by rw[Hid,HO.out];exact HN.out xn om
            go_wp2;go_ret2;exact⟨λD h=>(by rw[HZ.out]at h;cases h),λ_=>rfl,hB.trans (X.mono hB.size)⟩
      ·
        obtain rfl:i=xn:=by omega
        have aB:decide ((i:Int)<i)=M:=by simp
        have aO:Hid (lc l=i):=Mv HS.out;go_wp2;go_ret2;refine⟨λD h=>?_,λh=>?_,hB.trans (X.mono hB.size)⟩
        ·rw[HO.out,HS.out]at h;obtain rfl:=AK h;rw[aO.out];exact⟨g,rfl,by rw[HG.out];exact hB.size,hR⟩
        ·rw[HO.out,HS.out]at h;cases h
  ·
    have HZ:Hid (spO Ta=O):=by unfold Hid spO;rw[Lc];rw[hT.up.1,hT.byt.1.1,hT.dep.1,hT.wrd.1];exact ag
    have c0:W.cell? ⟨w.heap.size,0,O⟩=E (T ua un uc):=hO.cell (i:=0) rfl rfl;have c1:W.cell? ⟨w.heap.size,1,O⟩=E (T da dn dc):=hO.cell (i:=0) rfl rfl;have c2:W.cell? ⟨w.heap.size,2,O⟩=E (T xa xn xc):=hO.cell (i:=0) rfl rfl;have c3:W.cell? ⟨w.heap.size,3,O⟩=E (T ba bn bc):=hO.cell (i:=0) rfl rfl
    by_cases q1:un<1
    ·
      have g1:decide ((un:Int)<1)=G:=by simp;omega
      go_enter func276,ntmps276;go_upto_region 1 with fail
      rw[<-hW];clear hW;go_wp2;go_ret2;exact⟨λD h=>(by rw[HZ.out]at h;cases h),λ_=>rfl,hB⟩
    ·
      have g1:decide ((un:Int)<1)=M:=by simp;omega
      by_cases q2:400<un
      ·
        have g2:decide (400<(un:Int))=G:=by simp;omega
        go_enter func276,ntmps276;go_upto_region 1 with fail
        rw[<-hW];clear hW;go_wp2;go_ret2;exact⟨λD h=>(by rw[HZ.out]at h;cases h),λ_=>rfl,hB⟩
      ·
        have g2:decide (400<(un:Int))=M:=by simp;omega
        by_cases q3:bn=un
        ·
          subst q3
          by_cases q4:dn=bn
          ·
            subst q4;have q5:xn≠dn:=λe=>ag ⟨by omega,by omega,rfl,rfl,e⟩;have g5:((xn:Int) != dn)=G:=by simp;omega
            go_enter func276,ntmps276;go_upto_region 1 with fail
            rw[<-hW];clear hW;go_wp2;go_ret2;exact⟨λD h=>(by rw[HZ.out]at h;cases h),λ_=>rfl,hB⟩
          ·
            have g4:((dn:Int) != bn)=G:=by simp;omega
            go_enter func276,ntmps276;go_upto_region 1 with fail
            rw[<-hW];clear hW;go_wp2;go_ret2;exact⟨λD h=>(by rw[HZ.out]at h;cases h),λ_=>rfl,hB⟩
        ·
          have g3:((bn:Int) != un)=G:=by simp;omega
          go_enter func276,ntmps276;go_upto_region 1 with fail
          rw[<-hW];clear hW;go_wp2;go_ret2;exact⟨λD h=>(by rw[HZ.out]at h;cases h),λ_=>rfl,hB⟩
end
def AU(g:Nat)(l:List Int)(W:Wa):Prop:=W.heap[g]?=E (i7 (l.map (R K)).toArray 3 (0,0))
def GE(n:Nat):Array Vk:=Array.replicate n (R K 0)
theorem Nc(n:Nat):madeCells (R K 0).cells n=GE n:=by
 apply Array.ext
 ·simp[madeCells,GE]
 ·intro i h1 h2;simp[madeCells,GE,Value.cells,Nat.mod_one]
theorem aiH{Ta:Ay}{n i:Nat}(h:Dl Ta n i=O):∀k,i<=k->Dl Ta n k=O:=by
 intro k hk;obtain⟨d,rfl⟩:∃d,k=i+d:=⟨k-i,by omega⟩;clear hk
 induction d with
 |zero=>exact h
 |succ d ih=>
  show Dl Ta n (i+d+1)=O;unfold Dl;rw[ih]
  rfl
theorem akU{Ta:Ay}{Z:Lb}{i:Nat}(Y:i<=lc Ta.wrd)(h:Dl Ta (lc Z) i=O):nuO Ta Z=O:=by
 unfold nuO;rw[aiH h _ Y]
 rfl
theorem akc{Z:Lb}{l:List Int}{i:Nat}(h:Df Z l i=O):∀k,i<=k->Df Z l k=O:=by
 intro k hk;obtain⟨d,rfl⟩:∃d,k=i+d:=⟨k-i,by omega⟩;clear hk
 induction d with
 |zero=>exact h
 |succ d ih=>
  show Df Z l (i+d+1)=O;unfold Df;rw[ih]
  rfl
theorem Mh{Z:Lb}{l:List Int}:∀{i:Nat}{r:Lb},Df Z l i=E r->lc r=i
 |0,r,h=>by simp[Df]at h;simp[<-h]
 |i+1,r,h=>by
  unfold Df at h;obtain⟨r0,h0,h⟩:=Io.1 h;have Y:=Mh h0
  split at h
  ·split at h
   ·cases h
   ·obtain⟨p,X,rfl⟩:=Fo.1 h;simp[Y]
  ·cases h
theorem akq{P:Sv->List Int->Prop}{X:List Sv}{r:Lb}{v0:Sv}{U:List Int}(J:lc X=lc r)(h:∀(i:Nat)(v:Sv)(x:List Int),X[i]?=E v->r[i]?=E x->P v x)(h0:P v0 U) :∀(i:Nat)(v:Sv)(x:List Int),(X++[v0])[i]?=E v->(r++[U])[i]?=E x->P v x:=λi v x Z Y=>by
 rw[List.getElem?_append]at Z Y
 by_cases N:i<lc X
 ·rw[Lq N]at Z;rw[Lq om]at Y;exact h i v x Z Y
 ·rw[Lc N]at Z;rw[Lc om]at Y;have V:i-(lc X)=0:=by
   have:=(AP.1 Z).1;simp at this;omega
  rw[V]at Z;rw[<-J,V]at Y;simp at Z Y;subst Z Y;exact h0
theorem AU.new(W:Wa)(n:Nat):AU W.heap.size (List.replicate n 0) (W.alloc (i7 (GE n) 3)):=by unfold AU;rw[AT];simp[GE]
theorem agd(t:TV)(Ta:Ay)(g n:Nat)(J:Lb)(w:Wa)(hT:Tri w t Ta)(hR:GM g n J w)(hn:lc J=n)(b2:n<=400)(X:t.xn=n) :Calls ZP 277 #[i8 t.cells,T (E ⟨g,0,O⟩) n n] w λe w'=>(∀ws,nuO Ta J=E ws->∃v c,e=ra (ta #[T v (lc ws) c,i6 G])/\Wds w' v (lc ws) ws/\lc ws<=c)/\(nuO Ta J=O->e=ra (ta #[T O 0 0,i6 M]))/\La w w':=by
 obtain⟨ua,un,uc,da,dn,dc,xa,xn,xc,ba,bn,bc⟩:=t;dsimp only at X
 replace X:=X.symm
 subst X;obtain⟨W,hW⟩:∃W,W=w.alloc (i7 #[T ua un uc,T da dn dc,T xa n xc,T ba bn bc] 150):=⟨_,rfl⟩;have hB:La w W:=by rw[hW];exact AL _ _
 have hO:Bx w.heap.size [i7 #[T ua un uc,T da dn dc,T xa n xc,T ba bn bc] 150] W:=by rw[hW];exact(Bx.nil _ w).snoc _ rfl
 have aM:=hT.below hB;have c2:W.cell? ⟨w.heap.size,2,O⟩=E (T xa n xc):=hO.cell (i:=0) rfl rfl;have aE:∀V:Wa,(Instr.makeSlice 30 (R K n) (R K n)).run ZP V=.ok (T (E ⟨V.heap.size,0,O⟩) n n) (V.alloc (i7 (GE n) 3)):=λV=>by
  obtain⟨i0,hi,aa,B,a8⟩:=Vh JS;have h:=run_makeSlice (P:=ZP) (w:=V) 30 3 i0 (.int .i64 0) underlying30 hi aa .i64 .i64 (n:Int) (n:Int) om om (by rw[B];omega) (by rw[a8];omega) om;rw[B]at h;have e1:(n:Int).toNat*1=n:=by omega
  rw[e1,Nc,Aa]at h;exact h
 go_enter func277,ntmps277;go_upto_region 1 with fail
 rw[<-hW];clear hW;go_upto_region 2 with fail
 clear aE;obtain⟨V,hV⟩:∃V,V=W.alloc (i7 (GE n) 3):=⟨_,rfl⟩;obtain⟨q,hq⟩:∃q,q=W.heap.size:=⟨_,rfl⟩;have hI:AU q (List.replicate n 0) V:=by rw[hV,hq];exact AU.new W n
 have Y:La W V:=by rw[hV];exact AL _ _
 have aw:=hO.below Y;have aQ:V.cell? ⟨w.heap.size,2,O⟩=E (T xa n xc):=aw.cell (i:=0) rfl rfl;rw[<-hV,<-hq];have HQ:=AA hq;clear hV hq;go_wp2
 go_loopw[7,19] (λm s wr=>∃(i:Nat)(l:List Int)(k:Nat),i<=n/\s=R K i/\m=R K k/\Hid (Dl Ta n i=E (l,(k:Int)))/\lc l=n/\Hid (l.countP (λx=>x != 0)=k)/\Hid (∀x∈l,0<=x/\x<n)/\AU q l wr/\La W wr) (λ_ s _=>n-(intOf s).toNat)
 case atStart=>
  refine⟨0,List.replicate n 0,0,AR _,rfl,rfl,rfl,by simp,by simp[Hid],?_,hI,Y⟩;intro x X;obtain⟨h0,rfl⟩:=List.mem_replicate.1 X;omega
 case round=>
  clear hI Y aw aQ;obtain⟨i,l,k,b8,rfl,rfl,HS,aq,HC,HE,hI,Y⟩:=hrel
  by_cases aF:i<n
  ·have aJ:decide ((i:Int)<n)=G:=by simp;omega
   obtain⟨b0,o0,x,aK,a1,cx,X⟩:=DG (aM.wrd.below Y) aF;subst aK;have HX:=AA X;clear X
   by_cases h1:x=-1
   ·have ai:Hid (Dl Ta n (i+1)=E (l,(k:Int))):=by
     unfold Hid Dl;rw[HS.out,EV,HX.out];simp[h1]
    subst h1;go_wp2
    go_roundw
    case rel=>exact⟨i+1,l,k,by omega,by go_num,rfl,ai,aq,HC,HE,hI,Y⟩
    case measure=>simp[intOf];omega
   ·by_cases h2:0<=x/\x<n/\i≠0/\(l[x.toNat]?).getD 0=0
    ·obtain⟨h3,h4,h5,h6⟩:=h2;obtain⟨Z,rfl⟩:∃Z:Nat,x=Z:=⟨x.toNat,by omega⟩;rw[Aa]at h6;have ar:Z<n:=by omega
     have I:Z<lc l:=by omega
     have a1:l[Z]=0:=by rw[Ar I]at h6;exact h6
     have ai:Hid (Dl Ta n (i+1)=E (l.set Z i,((k+1:Nat):Int))):=by unfold Hid Dl;rw[HS.out,EV,HX.out];dsimp only;rw[Lc h1,Lc (by rw[Aa,h6];omega),Aa];simp
     have aV:Hid ((l.set Z (i:Int)).countP (λx=>x != 0)=k+1):=by rw[Hid,List.countP_set I,HC.out,a1];simp;omega
     have aU:Hid (∀x∈l.set Z (i:Int),0<=x/\x<n):=λx X=>by
      rcases List.mem_or_eq_of_mem_set X with h|rfl
      ·exact HE.out x h
      ·omega
     have aN:AU q (l.set Z i) (wr.setCell ⟨q,Z,O⟩ (R K i)):=by
      have:=AJ (i:=Z) hI (R K i);unfold AU
      simpa[Is]using this
     have aP:La W (wr.setCell ⟨q,Z,O⟩ (R K i)):=Y.setCell (by show W.heap.size<=q;exact Gq HQ.out.symm) _;have cq:wr.cell? ⟨q,Z,O⟩=E (R K 0):=by rw[cell_of_row wr q Z _ _ _ hI];simp[I,a1]
     have fq:wr.frozen? ⟨q,Z,O⟩=M:=by simp[frozen?,show wr.heap[q]?=_ from hI]
     have ap:(l.set Z (i:Int)).length=n:=by simpa using aq
     have d1:(((Z:Int))==-1)=M:=by simp
     have b3:k<=n:=by have:=HC.out;have:=List.countP_le_length (p:=λx:Int=>x != 0) (l:=l);omega
     have d2:decide ((Z:Int)<0)=M:=by simp
     have d3:decide ((n:Int)<=(Z:Int))=M:=by simp;omega
     have d4:((i:Int)==0)=M:=by simp;omega
     have i2:(0:Int)<=(Z:Int):=by omega
     have i3:(Z:Int)<(n:Int):=by omega
     clear hI a1 h6;go_wp2
     go_roundw
     case rel=>exact⟨i+1,_,k+1,by omega,by go_num,by go_num,ai,ap,aV,aU,aN,aP⟩
     case measure=>simp[intOf];omega
    ·have HN:Hid (nuO Ta J=O):=by
      refine akU (i:=i+1) (by have h7:=hT.wrd.1;dsimp only at h7;omega) ?_;rw[hn];unfold Dl;rw[HS.out,EV,HX.out];dsimp only;rw[Lc h1,Lq]
      rcases Classical.em (x<0)with h3|h3
      ·exact .inl h3
      ·rcases Classical.em ((n:Int)<=x)with h4|h4
       ·exact .inr (.inl h4)
       ·rcases Classical.em (i=0)with h5|h5
        ·exact .inr (.inr (.inl h5))
        ·exact .inr (.inr (.inr λh6=>h2 ⟨by omega,by omega,h5,h6⟩))
     have a2:La w wr:=hB.trans (Y.mono hB.size);have d1:(x==-1)=M:=by simpa using h1
     by_cases h3:x<0
     ·have d2:decide (x<0)=G:=by simpa using h3
      clear h2 h3 h1;go_wp2;go_ret2;exact⟨λws h=>(by rw[HN.out]at h;cases h),λ_=>rfl,a2⟩
     ·have d2:decide (x<0)=M:=by simpa using h3
      by_cases h4:(n:Int)<=x
      ·have d3:decide ((n:Int)<=x)=G:=by simpa using h4
       clear h2 h3 h1 h4;go_wp2;go_ret2;exact⟨λws h=>(by rw[HN.out]at h;cases h),λ_=>rfl,a2⟩
      ·have d3:decide ((n:Int)<=x)=M:=by simpa using h4
       by_cases h5:i=0
       ·have d4:((i:Int)==0)=G:=by simpa using h5
        clear h2 h3 h1 h4 h5;go_wp2;go_ret2;exact⟨λws h=>(by rw[HN.out]at h;cases h),λ_=>rfl,a2⟩
       ·have d4:((i:Int)==0)=M:=by simpa using h5
        obtain⟨Z,rfl⟩:∃Z:Nat,x=Z:=⟨x.toNat,by omega⟩;have ar:Z<n:=by omega
        have I:Z<lc l:=by omega
        have ao:l[Z]≠0:=λe=>h2 ⟨by omega,by omega,h5,by rw[Aa,Ar I];exact e⟩;obtain⟨y,C⟩:∃y,l[Z]=y:=⟨_,rfl⟩;rw[C]at ao;have cq:wr.cell? ⟨q,Z,O⟩=E (R K y):=by rw[cell_of_row wr q Z _ _ _ hI];simp[I,C]
        have d5:(y != 0)=G:=by simpa using ao
        have i2:(0:Int)<=(Z:Int):=by omega
        have i3:(Z:Int)<(n:Int):=by omega
        clear h2 h3 h1 h4 C;go_wp2;go_ret2;exact⟨λws h=>(by rw[HN.out]at h;cases h),λ_=>rfl,a2⟩
  ·obtain rfl:i=n:=by omega
   have aJ:decide ((i:Int)<i)=M:=by simp
   have ar:k<=i:=by have:=HC.out;have:=List.countP_le_length (p:=λx:Int=>x != 0) (l:=l);omega
   have b5:(0:Int)<=(k:Int):=by omega
   have b4:(k:Int)<=(i:Int):=by omega
   have ag:Hid (nuO Ta J=Df J l k):=by unfold Hid nuO;have h7:=hT.wrd.1;dsimp only at h7;rw[hn,h7,HS.out,EV,Aa]
   have H:La w wr:=hB.trans (Y.mono hB.size);have aD:q<wr.heap.size:=(AD.1 hI).1;obtain⟨ak,ab,b1,_,a6⟩:=hR.ex;have aG:g<w.heap.size:=(AD.1 ab).1;have af:wr.heap[g]?=_:=(H.block g aG).trans ab;have av:g<wr.heap.size:=(AD.1 af).1;have ay:=AA a6;have HI:=AA hI;have aS:=AA af;clear a6 hI af ab;obtain⟨i0,hi,aa,B,a8⟩:=Vh aj9;obtain⟨V2,aL⟩:∃V,V=wr:=⟨_,rfl⟩;subst aL;go_wp2
   go_loopw[10,12,56] (λaz _ a7 wq=>∃(j:Nat)(vs:List Sv)(r:Lb),j<=k/\a7=R K j/\wq.ownsRow V2.heap.size 32 1 az j (vs.map svV)/\lc vs=j/\Hid (Df J l j=E r)/\Hid (∀(i:Nat)(v:Sv)(x:List Int),vs[i]?=E v->r[i]?=E x->Bys V2 v.1 v.2.1 x/\v.2.1<=v.2.2)/\La V2 wq) (λ_ _ a7 _=>k-(intOf a7).toNat)
   case atStart=>exact⟨0,[],[],AR _,rfl,BN _ _ _ _,rfl,rfl,(by intro i v x h;simp at h),AH _ _⟩
   case round=>
    obtain⟨j,vs,r,b7,rfl,D,ac,HW,aj,U⟩:=hrel
    by_cases b6:j<k
    ·have aI:decide ((j:Int)<k)=G:=by simp;omega
     have au:j<lc l:=by omega
     obtain⟨y,C⟩:∃y,l[j]?=E y:=⟨l[j],by simp[au]⟩;have aZ:=HE.out y (AX C);have cj:wr.cell? ⟨q,j,O⟩=E (R K y):=by rw[cell_of_row wr q j _ _ _ ((U.block q aD).trans HI.out)];simp[C]
     have i2:(0:Int)<=(j:Int):=by omega
     have i3:(j:Int)<(k:Int):=by omega
     have aY:((j:Nat):Int).toNat=j:=by simp
     by_cases A:y=0
     ·subst A;have HZ:Hid (nuO Ta J=O):=by
       rw[Hid,ag.out];refine akc (i:=j+1) ?_ k om;unfold Df;rw[HW.out,EV,C];simp
      clear C;go_wp2;go_ret2;exact⟨λws h=>(by rw[HZ.out]at h;cases h),λ_=>rfl,H.trans (U.mono H.size)⟩
     ·have d1:(y==0)=M:=by simpa using A
      obtain⟨N,rfl⟩:∃N:Nat,y=N:=⟨y.toNat,by omega⟩;have aX:N<i:=by omega
      have al:N<lc J:=by omega
      obtain⟨x,X⟩:∃x,J[N]?=E x:=⟨J[N],by simp[al]⟩;obtain⟨⟨va,vn,vc⟩,hv⟩:∃v,ak[N]?=E v:=⟨ak[N]'om,by simp⟩;have HV:=ay.out N _ _ hv X;have cg:wr.cell? ⟨g,N,O⟩=E (T va vn vc):=by rw[cell_of_row wr g N _ _ _ ((U.block g av).trans aS.out)];simp[hv,svV]
      have aR:Hid (Df J l (j+1)=E (r++[x])):=by
       unfold Hid Df;rw[HW.out,EV,C];dsimp only;rw[Lc A,Aa,X]
       rfl
      have aT:Hid (∀(i:Nat)(v:Sv)(x1:List Int),(vs++[((va,vn,vc):Sv)])[i]?=E v->(r++[x])[i]?=E x1->Bys V2 v.1 v.2.1 x1/\v.2.1<=v.2.2):=
       akq (by rw[ac,Mh HW.out]) aj.out ⟨HV.1.below H,HV.2⟩
      have am:Hid ((vs++[((va,vn,vc):Sv)]).length=j+1):=by simp[Hid,ac]
      have i4:(0:Int)<=(N:Int):=by omega
      have i5:(N:Int)<(i:Int):=by omega
      have aC:=U.size;clear C X hv HV A
      go_wp2_with (at_builtin;refine wpList_append_own _ rfl _ _ 22 rfl V2.heap.size 32 i0 (.slice O 0 0) 1 24 underlying22 hi aa B a8 rfl (by decide) _ _ _ rfl (D.alloc _) ⟨wr.heap.size,0,O⟩ 1 1 [svV (va,vn,vc)] rfl rfl (GI _ _ sm) (by simp[Value.oneCell']) (by unfold maxLen;omega) om (by simp;omega) ?_;intro v' w6 ae aH aW)
      have aO:La V2 w6:=(U.alloc aC _).grown aH (by simp;omega) (λk e=>(D.lt k e).1)
      go_roundw
      case rel=>exact⟨j+1,_,_,by omega,by go_num,(by simpa using ae),am,aR,aT,aO⟩
      case measure=>simp[intOf];omega
    ·obtain rfl:j=k:=by omega
     have aI:decide ((j:Int)<j)=M:=by simp
     have ax:=AA (Mh HW.out);obtain⟨va,vc,rfl,aA,aB⟩:=Co (enc:=svV) D;go_wp2;go_ret2;refine⟨λws h=>?_,λh=>?_,H.trans (U.mono H.size)⟩
     ·rw[ag.out,HW.out]at h;obtain rfl:=AK h;rw[ax.out];exact⟨va,vc,rfl,⟨vs,aB,by rw[ac,ax.out],λi v x hv X=>⟨(aj.out i v x hv X).1.below U,(aj.out i v x hv X).2⟩⟩,aA⟩
     ·rw[ag.out,HW.out]at h;cases h
structure apo(W:World)(g:Nat)(t:TV)(sp ws:Lb):Prop where
 ex:∃(sa:Option Addr)(sc:Nat)(wa:Option Addr)(wc:Nat),W.heap[g]?=some (.cells #[T t.ua t.un t.uc,T t.da t.dn t.dc,T t.xa t.xn t.xc,T t.ba t.bn t.bc,T sa sp.length sc,T wa ws.length wc] 378 (0,0))/\Wds W sa sp.length sp/\Wds W wa ws.length ws/\sp.length<=sc/\ws.length<=wc
theorem GM.wds{g n:Nat}{l:Lb}{W:Wa}(h:GM g n l W)(X:lc l=n):Wds W (E ⟨g,0,O⟩) n l:=by obtain⟨Z,h1,h2,h3,h4⟩:=h.ex;refine⟨Z,⟨h2,.inr ⟨g,0,rfl,(AD.1 h1).1,λj x Y=>?_⟩⟩,by omega,h4⟩;rw[cell_of_row W g (0+j) _ _ _ h1];simp[Y]
theorem GM.below{g n:Nat}{l:Lb}{W V:Wa}(h:GM g n l W)(X:La W V):GM g n l V:=by obtain⟨U,h1,h2,h3,h4⟩:=h.ex;exact⟨U,(X.block g (AD.1 h1).1).trans h1,h2,h3,λi v x Y Z=>⟨(h4 i v x Y Z).1.below X,(h4 i v x Y Z).2⟩⟩
theorem aoz{Ta:Ay}{Z:Lb}(h:spO Ta=E Z):lc Z=lc Ta.up/\lc Ta.up<=400/\lc Ta.wrd=lc Ta.up/\∀x∈Z,lc x<400:=by
 unfold spO at h
 split at h
 ·rename_i Y
  refine⟨Mv h,Y.2.1,Y.2.2.2.2,λx X=>?_⟩;have:=Ol h x X;omega
 ·cases h
theorem agp{Y:Lb}{l:List Int}:∀{i:Nat}{r:Lb},Df Y l i=E r->∀x∈r,x∈Y
 |0,r,h=>by unfold Df at h;obtain rfl:=AK h;simp
 |i+1,r,h=>by
  unfold Df at h;obtain⟨r0,h0,h⟩:=Io.1 h;have X:=agp h0
  split at h
  ·split at h
   ·cases h
   ·obtain⟨p,V,rfl⟩:=Fo.1 h;intro x Z
    rcases Bf.1 Z with Z|Z
    ·exact X x Z
    ·rw[Fq]at Z;subst Z;exact AX V
  ·cases h
theorem aiV{Ta:Ay}{n:Nat}:∀{i:Nat}{s:List Int×Int},Dl Ta n i=E s->s.2<=i
 |0,s,h=>by simp[Dl]at h;simp[<-h]
 |i+1,s,h=>by
  unfold Dl at h;obtain⟨Z,h0,h⟩:=Io.1 h;have Y:=aiV h0
  split at h
  ·split at h
   ·obtain rfl:=AK h;omega
   ·split at h
    ·cases h
    ·obtain rfl:=AK h;dsimp only;omega
  ·cases h
theorem aog{Ta:Ay}{Z ws:Lb}(h:nuO Ta Z=E ws):lc ws<=lc Ta.wrd/\∀x∈ws,x∈Z:=by unfold nuO at h;obtain⟨s,h0,h⟩:=Io.1 h;have:=aiV h0;have:=Mh h;exact⟨by omega,agp h⟩
theorem anv{fold:Bool}{ws:Lb}{m MH:Nat}(h1:lc ws<=m)(h2:∀x∈ws,lc x<=MH):(Ad fold ws).length<=m*MH:=by
 refine AS ?_ (IO MH h1);clear h1
 revert h2
 refine IT (P:=λws=>(∀x∈ws,lc x<=MH)->(Ad fold ws).length<=lc ws*MH) (by simp[Ad]) (λl x Z h=>?_) ws;have:=Z (λy Y=>h y (by simp[Y]));have:=h x sm;rw[abQ,List.length_append,Ks,Ew,List.length_append,OK,Nat.add_mul];omega
theorem agS(t:TV)(Ta:Ay)(w:Wa)(hT:Tri w t Ta)(hb:t.un<=140737488351232) :Calls ZP 252 #[i8 t.cells] w λe w'=>(∀N ws,CI Ta=E (N,ws)->∃g,e=ra (ta #[L (E ⟨g,0,O⟩),i6 G])/\apo w' g t N ws/\w.heap.size<=g)/\(CI Ta=O->e=ra (ta #[L O,i6 M]))/\La w w':=by
 have ay:=AA hT;obtain⟨ua,un,uc,da,dn,dc,xa,xn,xc,ba,bn,bc⟩:=t;dsimp only at hb;obtain⟨W,hW⟩:∃W,W=w.alloc (i7 #[T ua un uc,T da dn dc,T xa xn xc,T ba bn bc] 150):=⟨_,rfl⟩;have hB:La w W:=by rw[hW];exact AL _ _
 have hO:Bx w.heap.size [i7 #[T ua un uc,T da dn dc,T xa xn xc,T ba bn bc] 150] W:=by rw[hW];exact(Bx.nil _ w).snoc _ rfl
 have ac:=hT.below hB;have cells:∀V,La W V->V.cell? ⟨w.heap.size,0,O⟩=E (T ua un uc)/\V.cell? ⟨w.heap.size,1,O⟩=E (T da dn dc)/\V.cell? ⟨w.heap.size,2,O⟩=E (T xa xn xc)/\V.cell? ⟨w.heap.size,3,O⟩=E (T ba bn bc):=λV hV=>by have h:=hO.below hV;exact⟨h.cell (i:=0) rfl rfl,h.cell (i:=0) rfl rfl,h.cell (i:=0) rfl rfl,h.cell (i:=0) rfl rfl⟩
 have HC:=AA cells;clear cells hO;obtain⟨c0,c1,c2,c3⟩:=HC.out W (AH _ _);have k1:=AA (ajf _ Ta W ac hb);go_enter func252,ntmps252;go_upto_region 1 with fail
 rw[<-hW];clear hW
 go_wp2_with fail
 refine k1.out.mono ?_;rintro e w1 ⟨hs,hn,D⟩
 cases Z:spO Ta with
 |none=>
  obtain rfl:=hn Z;have B:Hid (CI Ta=O):=by unfold Hid CI;rw[Z];rfl
  clear hs hn Z;go_wp2;go_ret2;exact⟨λN ws h=>(by rw[B.out]at h;cases h),λ_=>rfl,hB.trans (D.mono hB.size)⟩
 |some N=>
  obtain⟨g,rfl,hg,hR⟩:=hs N Z;obtain⟨o1,o2,o3,o4⟩:=aoz Z;have al:=AA Z;clear hs hn Z c0 c1 c2 c3;have ax:lc Ta.up=un:=hT.up.1;have aw:lc Ta.wrd=xn:=hT.wrd.1;obtain⟨n,aa⟩:∃n,lc N=n:=⟨_,rfl⟩;rw[aa]at hR⊢;obtain⟨c0,c1,c2,c3⟩:=HC.out w1 D;have aq:=ac.below D;have k2:=AA (agd _ Ta g n N w1 aq hR aa om (by show xn=n;omega))
  go_wp2_with fail
  refine k2.out.mono ?_;rintro e w2 ⟨hs,hn,ab⟩;have J:La W w2:=D.trans (ab.mono D.size)
  cases Y:nuO Ta N with
  |none=>
   obtain rfl:=hn Y;have B:Hid (CI Ta=O):=by unfold Hid CI;rw[al.out,EV,Y];rfl
   clear hs hn Y;go_wp2;go_ret2;exact⟨λN ws h=>(by rw[B.out]at h;cases h),λ_=>rfl,hB.trans (J.mono hB.size)⟩
  |some ws=>
   obtain⟨v,c,rfl,j,ae⟩:=hs ws Y;obtain⟨p1,p2⟩:=aog Y;have ar:=AA Y;clear hs hn Y c0 c1 c2 c3;obtain⟨c0,c1,c2,c3⟩:=HC.out w2 J;have ao:lc ws<=400:=by omega
   have a8:∀x∈ws,lc x<=400:=λx hx=>DP (o4 x (p2 x hx));have af:(Ad M ws).length<=1000000:=AS (anv ao a8) om;obtain⟨m,hm⟩:∃m,lc ws=m:=⟨_,rfl⟩;rw[hm]at j ae⊢;have I:Hid (CI Ta=if(An M ws&&eqT (AG ws) Ta)=G then E (N,ws) else O):=by unfold Hid CI;rw[al.out,EV,ar.out,EV]
   cases hr:An M ws with
   |false=>
    have k3:=AA (amr M v m c ws w2 j om (λx hx=>by have:=a8 x hx;omega) af hr);have B:Hid (CI Ta=O):=by unfold Hid;rw[I.out,hr];rfl
    clear hr
    go_wp2_with fail
    refine k3.out.mono ?_;rintro e U ⟨rfl,H⟩;have a2:La W U:=J.trans (H.mono J.size);go_wp2;go_ret2;have X:La w U:=hB.trans (a2.mono hB.size);exact⟨λN ws h=>(by rw[B.out]at h;cases h),λ_=>rfl,X.alloc X.size _⟩
   |true=>
    have k3:=AA (abH M v m c ws w2 j om (λx hx=>by have:=a8 x hx;omega) af hr);have nn:=NE hr;have am:=AA hr;clear hr
    go_wp2_with fail
    refine k3.out.mono ?_;rintro e U ⟨u,rfl,hU,H⟩;have a2:La W U:=J.trans (H.mono J.size);have ap:u.un<=400/\u.dn<=400/\u.xn<=400/\u.bn<=400:=by obtain⟨l1,l2,l3,l4⟩:=aeh (ws:=ws);have:=hU.up.1;have:=hU.dep.1;have:=hU.wrd.1;have:=hU.byt.1.1;omega
    obtain⟨va,vn,vc,ea,en,ec,ya,yn,yc,fa,fn,fc⟩:=u;dsimp only at ap;go_upto_region 8 with fail
    obtain⟨w4,A⟩:∃w4,w4=U.alloc (i7 #[T va vn vc,T ea en ec,T ya yn yc,T fa fn fc] 150):=⟨_,rfl⟩;have s:La U w4:=by rw[A];exact AL _ _
    have C:Bx U.heap.size [i7 #[T va vn vc,T ea en ec,T ya yn yc,T fa fn fc] 150] w4:=by rw[A];exact(Bx.nil _ U).snoc _ rfl
    rw[<-A];clear A;have a1:La W w4:=a2.trans (s.mono a2.size);have q0:w4.cell? ⟨U.heap.size,0,O⟩=E (T va vn vc):=C.cell (i:=0) rfl rfl;have q1:w4.cell? ⟨U.heap.size,1,O⟩=E (T ea en ec):=C.cell (i:=0) rfl rfl;have q2:w4.cell? ⟨U.heap.size,2,O⟩=E (T ya yn yc):=C.cell (i:=0) rfl rfl;have q3:w4.cell? ⟨U.heap.size,3,O⟩=E (T fa fn fc):=C.cell (i:=0) rfl rfl;obtain⟨c0,c1,c2,c3⟩:=HC.out w4 a1;have k4:=AA (aiD _ _ (AG ws) Ta w4 (hU.below s) (ac.below a1) (by dsimp only;omega));clear C hU
    go_wp2_with fail
    refine k4.out.mono ?_;rintro e w5 ⟨rfl,ai⟩;have ak:La W w5:=a1.trans (ai.mono a1.size);have X:La w w5:=hB.trans (ak.mono hB.size);clear c0 c1 c2 c3 q0 q1 q2 q3;obtain⟨c0,c1,c2,c3⟩:=HC.out w5 ak
    cases he:eqT (AG ws) Ta with
    |false=>
     have B:Hid (CI Ta=O):=by unfold Hid;rw[I.out,am.out,he];rfl
     clear he;go_wp2;go_ret2;exact⟨λN ws h=>(by rw[B.out]at h;cases h),λ_=>rfl,X⟩
    |true=>
     have B:Hid (CI Ta=E (N,ws)):=by unfold Hid;rw[I.out,am.out,he];rfl
     clear he;have a6:=AA aa;have HM:=AA hm;go_wp2;go_ret2;refine⟨λav au h=>?_,λh=>(by rw[B.out]at h;cases h),X.alloc X.size _⟩;rw[B.out]at h
     injection h with h
     injection h with e1 e2
     subst e1 e2;have ag:La w5 (w5.alloc (i7 #[T ua un uc,T da dn dc,T xa xn xc,T ba bn bc,T (E ⟨g,0,O⟩) n n,T v m c] 378)):=AL _ _;have a7:La w2 w5:=H.trans ((s.trans (ai.mono s.size)).mono H.size);have aj:La w1 w5:=ab.trans (a7.mono ab.size);refine⟨_,rfl,⟨_,n,_,c,by rw[a6.out,HM.out];exact AT _ _,?_,?_,by rw[a6.out];exact AC _,by rw[HM.out];exact ae⟩,X.size⟩
     ·rw[a6.out];exact((hR.below aj).wds a6.out).below ag
     ·rw[HM.out];exact(j.below a7).below ag
theorem amc(t:TV)(Ta:Ay)(Z ws:Lb)(w:Wa)(V:Tri w t Ta)(X:t.un<=140737488351232)(Y:CI Ta=E (Z,ws)) :Calls ZP 252 #[i8 t.cells] w λe w'=>∃g,e=ra (ta #[L (E ⟨g,0,O⟩),i6 G])/\apo w' g t Z ws/\La w w':=(agS t Ta w V X).mono λe w' ⟨h1,_,h3⟩=>(h1 Z ws Y).elim λg ⟨U,e2,_⟩=>⟨g,U,e2,h3⟩
theorem ao0(t:TV)(Ta:Ay)(w:Wa)(X:Tri w t Ta)(Y:t.un<=140737488351232)(Z:CI Ta=O) :Calls ZP 252 #[i8 t.cells] w λe w'=>e=ra (ta #[L O,i6 M])/\La w w':=(agS t Ta w X Y).mono λe w' ⟨_,h2,h3⟩=>⟨h2 Z,h3⟩
theorem abf{Ta:Ay}{Z ws:Lb}(h:CI Ta=E (Z,ws)):lc Z<=400/\lc ws<=400/\lc Z=lc Ta.up:=by obtain⟨h1,rfl,rfl⟩:=Fy.1 h;have:=NE h1;have:=OS h1;exact⟨by omega,by omega,aeh.1.symm⟩
def JF(Ta:Ay):Bool:=(CI Ta).isSome
theorem ai5(t:TV)(Ta:Ay)(w:Wa)(D:Tri w t Ta)(H:t.un<=140737488351232) :Calls ZP 215 #[i8 t.cells] w λe w'=>e=ra (i6 (JF Ta))/\La w w':=by
 obtain⟨ua,un,uc,da,dn,dc,xa,xn,xc,ba,bn,bc⟩:=t;dsimp only at H;obtain⟨W,hW⟩:∃W,W=w.alloc (i7 #[T ua un uc,T da dn dc,T xa xn xc,T ba bn bc] 150):=⟨_,rfl⟩;have hB:La w W:=by rw[hW];exact AL _ _
 have J:Bx w.heap.size [i7 #[T ua un uc,T da dn dc,T xa xn xc,T ba bn bc] 150] W:=by rw[hW];exact(Bx.nil _ w).snoc _ rfl
 have X:=D.below hB;have c0:W.cell? ⟨w.heap.size,0,O⟩=E (T ua un uc):=J.cell (i:=0) rfl rfl;have c1:W.cell? ⟨w.heap.size,1,O⟩=E (T da dn dc):=J.cell (i:=0) rfl rfl;have c2:W.cell? ⟨w.heap.size,2,O⟩=E (T xa xn xc):=J.cell (i:=0) rfl rfl;have c3:W.cell? ⟨w.heap.size,3,O⟩=E (T ba bn bc):=J.cell (i:=0) rfl rfl;have a2:lc Ta.up=un:=D.up.1
 cases Z:CI Ta with
 |none=>
  have B:Hid (JF Ta=M):=by unfold Hid JF;rw[Z];rfl
  have I:=AA (ao0 _ Ta W X H Z);clear Z D X;go_enter func215,ntmps215;go_upto_region 1 with fail
  rw[<-hW];clear hW
  go_wp2_with fail
  refine I.out.mono ?_;rintro e U ⟨rfl,Y⟩;have V:La w U:=hB.trans (Y.mono hB.size);go_wp2;go_ret;exact⟨(by rw[B.out];rfl),V⟩
 |some r=>
  obtain⟨A,ws⟩:=r;have B:Hid (JF Ta=G):=by unfold Hid JF;rw[Z];rfl
  have I:=AA (amc _ Ta A ws W X H Z);obtain⟨j,v,s⟩:=abf Z;clear Z;go_enter func215,ntmps215;go_upto_region 1 with fail
  rw[<-hW];clear hW
  go_wp2_with fail
  refine I.out.mono ?_;rintro e U ⟨g,rfl,C,Y⟩;obtain⟨sa,sc,wa,wc,N,hS,a7,a6,a1⟩:=C.ex;dsimp only at N;have V:La w U:=hB.trans (Y.mono hB.size);have g0:U.cell? ⟨g,0,O⟩=E (T ua un uc):=by simp[cell?,N]
  have g4:U.cell? ⟨g,4,O⟩=E (T sa (lc A) sc):=by simp[cell?,N]
  have g5:U.cell? ⟨g,5,O⟩=E (T wa (lc ws) wc):=by simp[cell?,N]
  go_wp2;go_ret;exact⟨(by rw[B.out];rfl),V⟩
section
open Go Go.RowKit Go.Sort
def OE{β:Type}(B:Nat)(Pb:Nat->Wa->Wa->Prop)(J:β->Wa->Prop):Prop:=
 ∀(s:β)(W Z:Wa)(row:Option Nat),J s W->W.grownBy Z row->(∀r,row=E r->(B<=r/\∃o:Obj,W.heap[r]?=E o/\o.isWalk=G)∨Pb r W Z)->J s Z
def BT{β:Type}(B:Nat)(Pb:Nat->Wa->Wa->Prop)(I:β->Wa->Prop):Prop:=
 ∀(s:β)(W Z:Wa)(row:Option Nat),I s W->W.grownBy Z row->(∀r,row=E r->(B<=r/\∃o:Obj,W.heap[r]?=E o/\o.isCells=M)∨Pb r W Z)->I s Z
def Hi{α:Type}(F:Fence)(n:Nat)(P:Program)(g:Nat)(I:Array Vk)(X:α->Array Vk)(D:Wa->Wa->Prop)(Pb:Nat->Wa->Wa->Prop)(S:List α->Wa->Prop)(H:List α->Prop)(N:Nat)(w:Wa):Prop:=
 ∀(l:Nat) (J U:List α->Wa->Prop) (W:Wa),Below w.heap.size w W->OE W.heap.size Pb J->OE W.heap.size Pb U->
  (∀Z x V,J Z V->lc Z<N->YieldAt F (n-1) P l (X x) V λe Y=>(e=ra (i6 G)/\J (Z++[x]) Y/\D V Y)∨(e=ra (i6 M)/\U (Z++[x]) Y))->
  J [] W->
  CallsIn F n P g (#[.func (.yield l) #[] #[]]++I) W λe Y=>(∃v,e=ra v)/\((∃xs,S xs Y/\J xs Y)∨(∃Z,H Z/\U Z Y))
theorem BT.and{β:Type}{B:Nat}{Pb:Nat->Wa->Wa->Prop}{I U:β->Wa->Prop}(h:BT B Pb I)(N:BT B Pb U):BT B Pb (λs W=>I s W/\U s W):=λs W V row Z X Y=>⟨h s W V row Z.1 X Y,N s W V row Z.2 X Y⟩
theorem BT.below{β:Type}{B Z:Nat}{Pb:Nat->Wa->Wa->Prop}{w:Wa}(hB:Z<=B)(U:Z<=w.heap.size)(J:∀r W X,Pb r W X->Z<=r):BT B Pb (λ(_:β) W=>Below Z w W):=λs W X row Y N V=>
 Y.grown N (AS U Y.size) (λk e=>by rcases V k e with⟨h,_⟩|h;exact AS hB h;exact J k _ _ h)
theorem BT.size{β:Type}(B:Nat)(Pb:Nat->Wa->Wa->Prop)(n:Nat):BT B Pb (λ(_:β) W=>n<=W.heap.size):=λs W X row Z Y _=>AS Z Y.size
theorem BT.block{β:Type}(B:Nat)(Pb:Nat->Wa->Wa->Prop)(b:Nat)(cs:β->Array Vk)(t:TypeId)(fr:Nat×Nat)(J:∀W X,¬Pb b W X):BT B Pb (λs W=>W.heap[b]?=E (i7 (cs s) t fr)):=λs W X row Y U V=>
 (U.block b (AD.1 Y).1 (λe=>by
  rcases V b e.symm with⟨_,o,ho,N⟩|h
  ·have Z:W.heap[b]?=E (i7 (cs s) t fr):=Y;rw[Z]at ho;cases ho;cases N
  ·exact J _ _ h)).trans Y
theorem Jf{β:Type}{B:Nat}{Pb:Nat->Wa->Wa->Prop}{J:β->Wa->Prop}(h:OE B Pb J){s:β}{w w':Wa}(Z:J s w)(Y:La w w'):J s w':=h s w w' O Z (Km Y) (λr e=>by cases e)
theorem aet{β:Type}{B:Nat}{Pb:Nat->Wa->Wa->Prop}{J:β->Wa->Prop}(h:OE B Pb J){s:β}{w:Wa}(Y:J s w){p:Nat}(i:Nat)(u:Vk)(Z:Pb p w (w.setCell ⟨p,i,O⟩ u)):J s (w.setCell ⟨p,i,O⟩ u):=h s w _ (E p) Y ⟨rfl,rfl,rfl,by simp,λk _ hk=>AQ w ⟨p,i,O⟩ u k (λe=>hk (by rw[e]))⟩ (λr e=>by cases e;exact .inr Z)
def ajr(A B:Wa):Prop:=B.heap.size=A.heap.size/\∀(k:Nat)(cs:Array Vk)(t:TypeId)(f:Nat×Nat),A.heap[k]?=E (Obj.cells cs t f)->B.heap[k]?=E (Obj.cells cs t f)
theorem NL{P:Program}{α:Type}{g:Operand}{ps:Array Tmp}{assign body:Code}{Q:Exit->Act->Wa->Prop}{a:Act}{w:Wa}{gf:Nat}{lb:Array Vk}
  (hg:a.eval g=.func (.func gf) #[] lb) (eg:∀args w,(callFunc gf args).run P w=.ok (.enter gf args) w)
  {aa:α->Array Vk} {Kp:Wa->Wa->Prop} {Pb:Nat->Wa->Wa->Prop} {S:List α->Wa->Prop} {Sp:List α->Prop} {N:Nat} (ap:Hi Fence.wide 8 P gf lb aa Kp Pb S Sp N w) (aF:∀r W W',Pb r W W'->r<w.heap.size) (hSk:∀(xs:List α)(W:Wa)(l:Nat)(o o':Obj),w.heap.size<=l->W.heap[l]?=E o->o.isCells=M->S xs W->S xs (W.putObj l o'))
  (ao:∀{A B C:Wa},Kp A B->Kp B C->Kp A C) (hKb:∀(W:Wa)(l:Nat)(o o':Obj),w.heap.size<=l->W.heap[l]?=E o->o.isCells=M->o.isWalk=M->Kp W (W.putObj l o')) (aw:∀x,(aa x).size=ps.size)
  (I:List α->Wa->Prop) (Ix:Code->List α->Wa->Prop) (hI:BT w.heap.size Pb I) (hIx:∀c,BT w.heap.size Pb (Ix c)) (h0:I [] w) (a₁:α->Wa->Act) (wA:α->Wa->Wa) (hwA:∀x W,La W (wA x W)) (hKg:∀x W,w.heap.size<=W.heap.size->Kp W (wA x W))
  (hassign:∀(l:Nat) (x:α) (W:Wa) (KB:Act->Wa->Prop),KB (a₁ x W) (wA x W)->
   assign.wpIn (Fence.wide.inRound l) 7 P (Exit.then KB (λ_ _ _=>False)) {tmps:=(ps.zip (aa x)).foldl (λt (p,v)=>t.setIfInBounds p v) a.tmps,defers:=[]} W)
  (hbody:∀(l:Nat)(Y:List α)(x:α)(W V:Wa),ajr (wA x W) V->I Y V->lc Y<N->body.wpIn (Fence.wide.inRound l) 7 P (ownPostG w.heap.size Kp I Ix (Y++[x]) V) (a₁ x W) V)
  (hdone:∀(D:Nat)(xs:List α)(W:Wa),w.heap.size<=D->S xs W->I xs W->W.heap[D]?=E (.deferred (E []))->Q .normal {a with defers:={target:=.collected D,args:=#[]}::a.defers} W)
  (hstop:∀(D:Nat)(c:Code)(Y:List α)(W:Wa),w.heap.size<=D->Sp Y->Ix c Y W->W.heap[D]?=E (.deferred (E []))->c.wp P Q {a with defers:={target:=.collected D,args:=#[]}::a.defers} W) :
  (Code.rangeFunc g ps assign body).wp P Q a w:=by
 refine(wpIn_wide (n:=9)).1 (wpIn_rangeFunc λfn aD=>?_)
 let rec_:LoopState->Option Code->Loop:=λst pe=>{state:=st,pending:=pe,fn,tmps:=a.tmps,params:=ps,assign,body,defers:=w.heap.size}
 have U:∀st pe,rec_ st pe={state:=st,pending:=pe,fn,tmps:=a.tmps,params:=ps,assign,body,defers:=w.heap.size}:=λ_ _=>rfl
 clear_value rec_
 have ae:∀{J:List α->Wa->Prop},BT w.heap.size Pb J->∀{s:List α}{W:Wa}{q:Nat}{o:Obj}(o':Obj),J s W->w.heap.size<=q->W.heap[q]?=E o->o.isCells=M->J s (W.putObj q o'):=λhJ _ W q o o' hs hq ho hc=>
  hJ _ _ _ _ hs (grownBy_putObj' W q o') (λr e=>by cases e;exact .inl ⟨hq,o,ho,hc⟩)
 have al:∀{J:List α->Wa->Prop},BT w.heap.size Pb J->∀{s:List α}{W:Wa}(o:Obj),J s W->J s (W.alloc o):=λhJ _ W o hs=>hJ _ _ _ O hs (MR W o O) (λr e=>by cases e);obtain⟨W1,ac⟩:∃W1,(w.alloc (.deferred (E []))).alloc (.loop (rec_ .ready O))=W1:=⟨_,rfl⟩;have aG:W1.heap[w.heap.size+1]?=E (.loop (rec_ .ready O)):=by rw[<-ac];have:=AT (w.alloc (.deferred (E []))) (.loop (rec_ .ready O));rwa[DN]at this
 have aI:W1.heap[w.heap.size]?=E (.deferred (E [])):=by rw[<-ac];exact(Bg _ _ _ sm).trans (AT w _)
 have aJ:I [] W1:=by rw[<-ac];exact al hI _ (al hI _ h0)
 have aE:La w W1:=by rw[<-ac];exact((AH _ w).alloc (AC _) _).alloc sm _
 have aL:W1.heap.size=w.heap.size+1+1:=by rw[<-ac];simp
 refine⟨w.heap.size+1,[{target:=.collected w.heap.size,args:=#[]}],W1,{target:=.fn (.func gf) lb,args:=#[.func (.yield (w.heap.size+1)) #[] #[]]},W1,gf,
  #[.func (.yield (w.heap.size+1)) #[] #[]]++lb,W1,?_,?_,?_,?_,λ_=>(by decide),?_⟩
 ·rw[<-ac,U];exact run_enterLoop_outer _ _ _ _ _
 ·simp only[resolve,hg];simp[go_sem]
 ·intro f' aM;trivial
 ·simp[invoke,go_sem,eg]
 ·have j:∀{A B:Wa}{row:Option Nat},A.grownBy B row->(∀r,row=E r->(W1.heap.size<=r/\∃o:Obj,A.heap[r]?=E o/\o.isWalk=G)∨Pb r A B)->∀q,w.heap.size<=q->q<W1.heap.size->∀o,A.heap[q]?=E o->B.heap[q]?=E o:=λa2 hr q h1 h2 o ho=>
   (a2.block q (AD.1 ho).1 (λe=>by
    rcases hr q e.symm with⟨h,_⟩|h
    ·omega
    ·have:=aF q _ _ h;omega)).trans ho
  have own:∀{A B:Wa}{row:Option Nat},(∀r,row=E r->(W1.heap.size<=r/\∃o:Obj,A.heap[r]?=E o/\o.isWalk=G)∨Pb r A B)->∀r,row=E r->(w.heap.size<=r/\∃o:Obj,A.heap[r]?=E o/\o.isCells=M)∨Pb r A B:=λhr r e=>by
   rcases hr r e with⟨h,o,ho,hw⟩|h
   ·exact .inl ⟨by omega,o,ho,Obj.not_cells_of_walk hw⟩
   ·exact .inr h
  refine (ap (w.heap.size+1)
   (λY W=>I Y W/\W.heap[w.heap.size+1]?=E (.loop (rec_ .ready O))/\W.heap[w.heap.size]?=E (.deferred (E [])))
   (λY W=>∃c,Ix c Y W/\W.heap[w.heap.size+1]?=E (.loop (rec_ .done (E c)))/\W.heap[w.heap.size]?=E (.deferred (E [])))
   W1 aE
   (λs A B row hs a2 hr=>⟨hI s A B row hs.1 a2 (own hr),j a2 hr _ om om _ hs.2.1,j a2 hr _ om om _ hs.2.2⟩)
   (λs A B row hs a2 hr=>by obtain⟨c,hc,hl,hk⟩:=hs;exact⟨c,hIx c s A B row hc a2 (own hr),j a2 hr _ om om _ hl,j a2 hr _ om om _ hk⟩)
   ?_ ⟨aJ,aG,aI⟩).mono ?_
  ·rintro Y x W ⟨hi,hl,hk⟩ ar;have ax:w.heap.size+1<W.heap.size:=(AD.1 hl).1;have hy:=run_yield (P:=P) (args:=aa x) hl (by rw[U];exact aw x);rw[U]at hy;obtain⟨WA,ai⟩:∃X,wA x W=X:=⟨_,rfl⟩;have am:La W WA:=by rw[<-ai];exact hwA x W
   have af:WA.heap[w.heap.size+1]?=E (.loop (rec_ .ready O)):=(am.block _ ax).trans hl;have az:WA.heap[w.heap.size]?=E (.deferred (E [])):=(am.block _ om).trans hk;have aC:I Y WA:=hI _ _ _ O hi (Km am) (λr e=>by cases e);have aH:Kp W WA:=by rw[<-ai];exact hKg x W om
   have aq:w.heap.size+1<WA.heap.size:=(AD.1 af).1;refine⟨fn,_,assign,body,hy,roundIn_of_wpIn aD (hassign _ x W _ ?_)⟩;rw[ai];refine⟨_,run_beginRound af (by rw[U]),?_⟩;obtain⟨V,hV⟩:∃V,WA.putObj (w.heap.size+1) (.loop {rec_ .ready O with state:=.busy})=V:=⟨_,rfl⟩;rw[hV];have ay:V.heap[w.heap.size+1]?=E (.loop {rec_ .ready O with state:=.busy}):=by rw[<-hV];exact apF aq
   have aA:V.heap[w.heap.size]?=E (.deferred (E [])):=by rw[<-hV];exact(Cm om).trans az
   have av:Kp W V:=by rw[<-hV];exact ao aH (hKb _ _ _ _ om af rfl rfl)
   have aB:I Y V:=by rw[<-hV];exact ae hI _ aC om af rfl
   have aK:ajr (wA x W) V:=by
    rw[ai,<-hV];refine⟨by simp[World.putObj],λk cs t f hc=>(Cm (λe=>?_)).trans hc⟩;rw[e,af]at hc
    cases hc
   refine wpIn_mono (hbody _ Y x W V aK aB ar) ?_;have ag:∀(Z:Option Code) (H:Wa),KeepsFrom w.heap.size V H->
     (Instr.endRound (w.heap.size+1) Z).run P H=.ok (i6 Z.isNone) (H.putObj (w.heap.size+1) (.loop (rec_ (if Z.isNone then .ready else .done) Z)))/\
     H.heap[w.heap.size+1]?=E (.loop {rec_ .ready O with state:=.busy})/\
     (H.putObj (w.heap.size+1) (.loop (rec_ (if Z.isNone then .ready else .done) Z))).heap[w.heap.size+1]?=E (.loop (rec_ (if Z.isNone then .ready else .done) Z))/\
     (H.putObj (w.heap.size+1) (.loop (rec_ (if Z.isNone then .ready else .done) Z))).heap[w.heap.size]?=E (.deferred (E [])):=λZ H ab=>by
    have a6:=ab.same _ _ om ay rfl;have a1:=ab.same _ _ (AC _) aA rfl;have aj:=run_endRound (P:=P) Z a6;rw[U]at aj;refine⟨?_,a6,apF (AD.1 a6).1,(Cm om).trans a1⟩;rw[U];exact aj
   have a7:∀(c:Code)(H:Wa),KeepsFrom w.heap.size V H->Ix c (Y++[x]) H->∃(c':Code),Ix c' (Y++[x]) (H.putObj (w.heap.size+1) (.loop (rec_ .done (E c))))/\c'=c:=λc H ab ak=>by obtain⟨_,a6,_,_⟩:=ag (E c) H ab;exact⟨c,ae (hIx _) _ ak om a6 rfl,rfl⟩
   rintro e a3 H hp
   cases e with
   |normal=>
    obtain⟨ab,au,ak⟩:=hp;obtain⟨hr,a6,a8,a1⟩:=ag O H ab;exact⟨_,_,hr,.inl ⟨rfl,⟨ae hI _ ak om a6 rfl,a8,a1⟩,ao (ao av au) (hKb _ _ _ _ om a6 rfl rfl)⟩⟩
   |ret=>
    obtain⟨hr,_,a8,a1⟩:=ag (E .ret) H hp.1;obtain⟨_,h,rfl⟩:=a7 .ret H hp.1 hp.2;exact⟨_,_,hr,.inr ⟨rfl,_,h,a8,a1⟩⟩
   |exit id=>
    obtain⟨hr,_,a8,a1⟩:=ag (E (.exit id)) H hp.1;obtain⟨_,h,rfl⟩:=a7 (.exit id) H hp.1 hp.2;exact⟨_,_,hr,.inr ⟨rfl,_,h,a8,a1⟩⟩
   |goto t=>
    obtain⟨hr,_,a8,a1⟩:=ag (E (.goto t)) H hp.1;obtain⟨_,h,rfl⟩:=a7 (.goto t) H hp.1 hp.2;exact⟨_,_,hr,.inr ⟨rfl,_,h,a8,a1⟩⟩
   |panic ch=>exact hp.elim
   |outgrown=>exact hp.elim
  ·rintro e W2 ⟨⟨v,rfl⟩,(⟨xs,hS,hi,hl,hk⟩|⟨Y,hSp,c,hi,hl,hk⟩)⟩
   ·exact⟨O,_,by have:=run_endLoop (P:=P) hl (by rw[U];simp);rw[U]at this;exact this,hdone _ xs _ (AC _) (hSk _ _ _ _ _ om hl rfl hS) (ae hI _ hi om hl rfl) ((Cm om).trans hk)⟩
   ·exact⟨E c,_,by have:=run_endLoop (P:=P) hl (by rw[U];simp);rw[U]at this;exact this,wpIn_wide.2 (hstop _ c Y _ (AC _) hSp (ae (hIx c) _ hi om hl rfl) ((Cm om).trans hk))⟩
end
section
open Go Go.RowKit Go.Sort
def OF{β:Type}(B:Nat)(Pb:Nat->Prop)(J:β->Wa->Prop):Prop:=
 ∀(s:β)(W Z:Wa)(row:Option Nat),J s W->W.grownBy Z row->(∀r,row=E r->(B<=r/\∃o:Obj,W.heap[r]?=E o/\o.isWalk=G)∨Pb r)->J s Z
def BL{β:Type}(B:Nat)(Pb:Nat->Prop)(I:β->Wa->Prop):Prop:=
 ∀(s:β)(W Z:Wa)(row:Option Nat),I s W->W.grownBy Z row->(∀r,row=E r->(B<=r/\∃o:Obj,W.heap[r]?=E o/\o.isCells=M)∨Pb r)->I s Z
def abI{α:Type}(F:Fence)(n:Nat)(P:Program)(g:Nat)(I:Array Vk)(X:α->Array Vk)(D:Wa->Wa->Prop)(Pb:Nat->Prop)(S H:List α->Prop)(N:Nat)(w:Wa):Prop:=
 ∀(l:Nat) (J U:List α->Wa->Prop) (W:Wa),Below w.heap.size w W->OF W.heap.size Pb J->OF W.heap.size Pb U->
  (∀Z x V,J Z V->lc Z<N->YieldAt F (n-1) P l (X x) V λe Y=>(e=ra (i6 G)/\J (Z++[x]) Y/\D V Y)∨(e=ra (i6 M)/\U (Z++[x]) Y))->
  J [] W->
  CallsIn F n P g (#[.func (.yield l) #[] #[]]++I) W λe Y=>(∃v,e=ra v)/\((∃xs,S xs/\J xs Y)∨(∃Z,H Z/\U Z Y))
theorem BL.and{β:Type}{B:Nat}{Pb:Nat->Prop}{I U:β->Wa->Prop}(h:BL B Pb I)(N:BL B Pb U):BL B Pb (λs W=>I s W/\U s W):=λs W V row Z X Y=>⟨h s W V row Z.1 X Y,N s W V row Z.2 X Y⟩
theorem BL.pure{β:Type}(B:Nat)(Pb:Nat->Prop)(p:β->Prop):BL B Pb (λs (_:Wa)=>p s):=λs W Y row Z _ _=>Z
theorem BL.box{β:Type}(B:Nat)(Pb:Nat->Prop)(b:Nat)(t:TypeId)(f:β->Vk)(N:¬Pb b):BL B Pb (λs W=>Boxed W b t (f s)):=λs W J row Y V X=>
 (V.block b (AD.1 Y).1 (λe=>by
  rcases X b e.symm with⟨_,o,ho,U⟩|h
  ·have Z:W.heap[b]?=E (i7 #[f s] t (0,0)):=Y;rw[Z]at ho;cases ho;cases U
  ·exact N h)).trans Y
theorem BL.below{β:Type}{B Z:Nat}{Pb:Nat->Prop}{w:Wa}(hB:Z<=B)(V:Z<=w.heap.size)(N:∀r,Pb r->Z<=r):BL B Pb (λ(_:β) W=>Below Z w W):=λs W J row Y U X=>
 Y.grown U (AS V Y.size) (λk e=>by rcases X k e with⟨h,_⟩|h;exact AS hB h;exact N k h)
theorem BL.size{β:Type}(B:Nat)(Pb:Nat->Prop)(n:Nat):BL B Pb (λ(_:β) W=>n<=W.heap.size):=λs W X row Z Y _=>AS Z Y.size
theorem al1{β:Type}{B:Nat}{Pb:Nat->Prop}{J:β->Wa->Prop}(h:OF B Pb J){s:β}{w w':Wa}(Z:J s w)(Y:La w w'):J s w':=h s w w' O Z (Km Y) (λr e=>by cases e)
theorem adx{β:Type}{B:Nat}{Pb:Nat->Prop}{J:β->Wa->Prop}(h:OF B Pb J){s:β}{w:Wa}(Y:J s w){p:Nat}(Z:Pb p)(i:Nat)(u:Vk):J s (w.setCell ⟨p,i,O⟩ u):=h s w _ (E p) Y ⟨rfl,rfl,rfl,by simp,λk _ hk=>AQ w ⟨p,i,O⟩ u k (λe=>hk (by rw[e]))⟩ (λr e=>by cases e;exact .inr Z)
theorem amM{P:Program}{α:Type}{g:Operand}{j:Array Tmp}{assign body:Code}{Q:Exit->Act->Wa->Prop}{a:Act}{w:Wa}{H:Nat}{lb:Array Vk}
  (hg:a.eval g=.func (.func H) #[] lb) (eg:∀args w,(callFunc H args).run P w=.ok (.enter H args) w)
  {Y:α->Array Vk} {X:Wa->Wa->Prop} {Pb:Nat->Prop} {S Sp:List α->Prop} {N:Nat} (U:abI Fence.wide 8 P H lb Y X Pb S Sp N w) (a1:∀r,Pb r->r<w.heap.size)
  (a2:∀{A B C:Wa},X A B->X B C->X A C) (hKb:∀(W:Wa)(l:Nat)(o o':Obj),w.heap.size<=l->W.heap[l]?=E o->o.isCells=M->o.isWalk=M->X W (W.putObj l o')) (e:∀x,(Y x).size=j.size)
  (I:List α->Wa->Prop) (s:Code->List α->Wa->Prop) (hI:BL w.heap.size Pb I) (hIx:∀c,BL w.heap.size Pb (s c)) (h0:I [] w) (a₁:α->Act)
  (hassign:∀(l:Nat) (x:α) (W:Wa) (KB:Act->Wa->Prop),KB (a₁ x) W->
   assign.wpIn (Fence.wide.inRound l) 7 P (Exit.then KB (λ_ _ _=>False)) {tmps:=(j.zip (Y x)).foldl (λt (p,v)=>t.setIfInBounds p v) a.tmps,defers:=[]} W)
  (hbody:∀(l:Nat)(Z:List α)(x:α)(W:Wa),I Z W->lc Z<N->body.wpIn (Fence.wide.inRound l) 7 P (ownPostG w.heap.size X I s (Z++[x]) W) (a₁ x) W)
  (hdone:∀(D:Nat)(xs:List α)(W:Wa),w.heap.size<=D->S xs->I xs W->W.heap[D]?=E (.deferred (E []))->Q .normal {a with defers:={target:=.collected D,args:=#[]}::a.defers} W)
  (hstop:∀(D:Nat)(c:Code)(Z:List α)(W:Wa),w.heap.size<=D->Sp Z->s c Z W->W.heap[D]?=E (.deferred (E []))->c.wp P Q {a with defers:={target:=.collected D,args:=#[]}::a.defers} W)
  (hKr:∀W,X W W) :
  (Code.rangeFunc g j assign body).wp P Q a w:=
 NL hg eg (Pb:=λr _ _=>Pb r) (S:=λxs _=>S xs) (λl J Jx W h1 h2 h3 h4 h5=>U l J Jx W h1 h2 h3 h4 h5) (λr _ _ h=>a1 r h) (λ_ _ _ _ _ _ _ _ h=>h) a2 hKb e I s hI hIx h0 (λx _=>a₁ x) (λ_ W=>W) (λ_ _=>AH _ _) (λ_ W _=>hKr W)
  (λl x W KB hK=>hassign l x W KB hK) (λl Z x W V _ hI hN=>hbody l Z x V hI hN) hdone hstop
end
section
open Go.RowKit Go.Sort Go.Maps Go.WideAt Go.WideMaps
theorem alU:laidOutB ZP=G:=by kernel_rfl
theorem Np:Keyed ZP 313:=Keyed.of_law (deep_law_laid alU (m:=ZP.types.size+1) (Kf kr) (Kf kr) kr kr)
theorem apr(n c:Int)(J:-9223372036854775808<=n/\n<=9223372036854775807)(I:0<=c/\c<=255):∃X,keyOf ZP 313 (i8 #[R K n,.int .u8 c])=E X:=by
 have hk:ZP.keyType 313=G:=by kernel_rfl
 have h0:0<ZP.types.size:=Kf kr;obtain⟨m,V⟩:∃m,ZP.types.size+1=m+1+1:=⟨ZP.types.size-1,by omega⟩;have N:ZP.cellsOf 313=2:=by kernel_rfl
 have e2:ZP.cellsOf 3=1:=by kernel_rfl
 have U:ZP.cellsOf 5=1:=by kernel_rfl
 have Y:(Lit.int .i64 n).wf=G:=by simp[Lit.wf,IntKind.min,IntKind.max,IntKind.signed,IntKind.bits];omega
 have Z:(Lit.int .u8 c).wf=G:=by simp[Lit.wf,IntKind.min,IntKind.max,IntKind.signed,IntKind.bits];omega
 unfold keyOf;rw[underlying313,V];refine⟨.string (keyBytes [.int .i64 n,.int .u8 c]),?_⟩;simp[hk,Value.formed,Value.cells,Program.keyLits,underlying313,underlying3,underlying5,N,e2,U,Y,Z]
def FK(D:DataW Unit)(f:Int×Int->Option Int):Prop:=IsMap D/\∀n c Z,keyOf ZP 313 (i8 #[R K n,.int .u8 c])=E Z->
 Maps.has D Z=(f (n,c)).isSome/\D.atKey Z (.lit (.int .i64 0))=.lit (.int .i64 ((f (n,c)).getD 0))
theorem FK.start:FK (.map []) (λ_=>O):=⟨isMap_empty,λn c Z _=>⟨rfl,rfl⟩⟩
theorem FK.put{D:DataW Unit}{f:Int×Int->Option Int}(h:FK D f){n c m:Int}{V:Lit}(hk:keyOf ZP 313 (i8 #[.int .i64 n,.int .u8 c])=E V) :FK (D.put V (.lit (.int .i64 m))) (λq=>if q=(n,c) then E m else f q):=by
 have X:=Np.key hk;refine⟨h.1.put _ _,λN J Y Z=>?_⟩
 by_cases e:Y=V
 ·subst e;have:=Np.inj Z hk;simp only[Value.agg.injEq,Array.mk.injEq,MY,Value.int.injEq,true_and,and_true]at this;obtain⟨rfl,rfl⟩:=this;refine⟨by rw[has_put_same h.1 X];simp,?_⟩;rw[atKey_put_same h.1 X];simp
 ·have U:¬((N,J)=(n,c)):=by
   intro e2;simp only[Jk]at e2;obtain⟨rfl,rfl⟩:=e2;rw[hk]at Z;exact e (AK Z).symm
  simp only[Lc U];obtain⟨h1,h2⟩:=h.2 N J Y Z;exact⟨by rw[has_put_other e,h1],by rw[atKey_put_other e,h2]⟩
def FM(W:Wa)(b n:Nat)(f:Int×Int->Option Int):Prop:=∃D:DataW Unit,W.ownsMap ZP 313 (plainElem ZP 3) b n D/\FK D f
theorem FM.start(w:Wa):FM (w.alloc (.map #[] 0)) w.heap.size 0 (λ_=>O):=⟨_,MQ w ZP 313 (plainElem ZP 3),FK.start⟩
theorem FM.lt{W:Wa}{b n:Nat}{f:Int×Int->Option Int}(h:FM W b n f):b<W.heap.size:=by obtain⟨D,h1,_⟩:=h;exact h1.lt
theorem FM.kept{W Y:Wa}{b n:Nat}{f:Int×Int->Option Int}{row:Option Nat}(h:FM W b n f)(X:W.grownBy Y row)(Z:row≠E b):FM Y b n f:=by obtain⟨D,h1,h2⟩:=h;exact⟨D,h1.kept X (λe=>Z e.symm),h2⟩
theorem FM.below{W Z:Wa}{b n:Nat}{f:Int×Int->Option Int}(h:FM W b n f)(Y:La W Z):FM Z b n f:=h.kept (Km Y) sm
theorem FM.alloc{W:Wa}{b n:Nat}{f:Int×Int->Option Int}(h:FM W b n f)(o:Obj):FM (W.alloc o) b n f:=h.below (AL W o)
theorem FM.set{w:Wa}{b n m i:Nat}{f:Int×Int->Option Int}(h:FM w b n f)(Z:m≠b)(u:Vk):FM (w.setCell ⟨m,i,O⟩ u) b n f:=h.kept (BH w m i u) (by intro e;injection e with e;exact Z e)
theorem ajR(w:Wa):(zeroValue 3).run ZP w=.ok (R K 0) w:=by kernel_rfl
theorem FM.look{W:Wa}{b n:Nat}{f:Int×Int->Option Int}(h:FM W b n f){z c:Int}(V:-9223372036854775808<=z/\z<=9223372036854775807)(J:0<=c/\c<=255) :Sem.run ZP (Instr.lookup 275 (.map (E b)) (i8 #[R K z,.int .u8 c]) G) W=.ok (ta #[R K ((f (z,c)).getD 0),i6 (f (z,c)).isSome]) W:=by
 obtain⟨D,h1,h2,h3⟩:=h;obtain⟨X,Y⟩:=apr z c V J;obtain⟨h4,h5⟩:=h3 z c X Y;obtain⟨v,I,Z,U⟩:=h1.look_ok Np underlying275 (ajR W) (zd:=.lit (.int .i64 0)) (zp:=[]) (plainElem_int underlying3 (by decide)) Y;obtain⟨q,rfl,N,_⟩:=plainElem_int_inv underlying3 U;have h6:D.atKey X (.lit (.int .i64 0))=.lit (.int .i64 q):=congrArg Prod.fst N;rw[h5]at h6;have h7:(f (z,c)).getD 0=q:=by simpa using h6
 rw[Z,h4,h7]
section
variable {w:Wa}{ops:Array Oper}{rest:List Oper}{o:Oper}{a:Act}{Q:Exit->Act->Wa->Prop}{b n:Nat}{f:Int×Int->Option Int}
theorem adb(A:o.guard=O)(m x y:Operand)(X:o.op=Op.mapUpdate 275 m x y)(B:a.eval m=.map (E b))(Z:FM w b n f)(C:n<maxLen)(z c:Int)(v:Int)(H:(Lit.int .i64 v).wf=G)(U:-9223372036854775808<=z/\z<=9223372036854775807)(s:0<=c/\c<=255)(J:a.eval x=i8 #[.int .i64 z,.int .u8 c])(N:a.eval y=.int .i64 v)
  (j:∀w',FM w' b (n+1) (λq=>if q=(z,c) then E v else f q)->w.grownBy w' (E b)->wpList ZP ops Q rest (a.put o.dst undef) w'):wpList ZP ops Q (o::rest) a w:=by
 obtain⟨D,h1,h2⟩:=Z;obtain⟨e,Y⟩:=apr z c U s;refine wpList_mapUpdate_own _ A m x y 275 X 313 3 Np underlying275 _ b n D B h1 C _ _ _ J N Y _ [] (plainElem_int underlying3 H) ?_;intro w' I V;exact j w' ⟨_,I,h2.put Y⟩ V
end
end
section
attribute[local go_sem] Oper.semAt_some
attribute[local simp] Ak Al
attribute[local go_sem] Ak Al
abbrev ChP:={z:Nat // z<=1000000}
def anp(z:ChP):Array Vk:=#[R K (z.1:Int)]
theorem aiY(LO:List Int):∀(f z:Nat),(chN LO f z).length<=f+1/\1<=(chN LO f z).length
 |0,z=>by simp[chN]
 |f+1,z=>by
  unfold chN
  split
  ·simp
  ·have:=aiY LO f ((LO[z]?).getD 0).toNat;simp;omega
theorem amH(LO:List Int)(f z:Nat):chN LO (f+1) z=if z=0 then [z] else z::chN LO f ((LO[z]?).getD 0).toNat:=rfl
theorem amf(LO:List Int)(f:Nat):chN LO f 0=[0]:=by cases f<;>simp[chN]
theorem amb(LO:List Int)(f z:Nat):∃r,chN LO f z=z::r:=by
 cases f with
 |zero=>exact⟨[],rfl⟩
 |succ f=>
  unfold chN
  split
  ·exact⟨[],rfl⟩
  ·exact⟨_,rfl⟩
theorem aie(g:Nat)(node:Int)(w:Wa) :Calls ZP 253 #[.pointer (E ⟨g,0,O⟩),.int .i64 node] w λe w'=>e=ra (.func (.func 279) #[] #[.pointer (E ⟨w.heap.size+1,0,O⟩),.pointer (E ⟨w.heap.size,0,O⟩)])/\
   w'=(w.alloc (i7 #[L (E ⟨g,0,O⟩)] 272)).alloc (i7 #[R K node] 3):=by
 go_enter func253,ntmps253;go_wp2;go_ret;exact⟨rfl,rfl⟩
def Ic(p:Nat)(w:Wa):Nat:=match w.cell? ⟨p,0,O⟩with|some v=>(intOf v).toNat|none=>0
theorem Lm{w:Wa}{p z:Nat}{t:TypeId}(h:Boxed w p t (R K (z:Int))):Ic p w=z:=by unfold Ic;rw[h.cell];simp[intOf]
theorem afc(g p1 p2 q n:Nat)(LO:List Int)(node:Nat)(cs:Array Vk)(S:Nat->Prop)(m:Nat)(w:Wa)
  (hg:w.heap[g]?=E (i7 cs 277 (0,0))) (a1:cs[5]?=E (T (E ⟨q,0,O⟩) n n)) (hq:AU q LO w) (hL:lc LO=n) (hn:n<=1000000)
  (h1:Boxed w p1 272 (L (E ⟨g,0,O⟩))) (h2:Boxed w p2 3 (R K (node:Int)))
  (hS:S g/\S q/\S p1/\S p2) (D:∀k,S k->k<w.heap.size) (hp:p2≠g/\p2≠q/\p2≠p1)
  (a7:node<n) (A:∀j,1<=j->j<=node->∃k:Nat,LO[j]?=E (k:Int)/\k<j) :
  abI Fence.wide m ZP 279 #[L (E ⟨p2,0,O⟩),L (E ⟨p1,0,O⟩)] anp (Cc S) (λr=>r=p2) (λzs=>zs.map Subtype.val=chN LO node node) (λZ=>∃r,chN LO node node=Z.map Subtype.val++r) (node+2) w:=by
 intro l J Jx W hW hJ ar hY h0;obtain⟨s1,s2,s3,s4⟩:=hS;obtain⟨p3,p4,p5⟩:=hp;have cells:∀v:Wa,(∀k,S k->k≠p2->v.heap[k]?=w.heap[k]?)->v.cell? ⟨p1,0,O⟩=E (L (E ⟨g,0,O⟩))/\v.cell? ⟨g,5,O⟩=E (T (E ⟨q,0,O⟩) n n)/\∀(j:Nat)(x:Int),LO[j]?=E x->v.cell? ⟨q,j,O⟩=E (R K x):=by intro v hv;have e1:v.heap[p1]?=E (i7 #[L (E ⟨g,0,O⟩)] 272 (0,0)):=(hv p1 s3 (Ne.symm p5)).trans h1;have e2:v.heap[g]?=_:=(hv g s1 (Ne.symm p3)).trans hg;have e3:v.heap[q]?=E (i7 (LO.map (R K)).toArray 3 (0,0)):=(hv q s2 (Ne.symm p4)).trans hq;refine⟨by simp[cell?,e1],by simp[cell?,e2,a1],λj x hx=>?_⟩;rw[cell_of_row v q j _ _ _ e3];simp[hx]
 have HC:=AA cells;have aa:∀k,S k->k≠p2->W.heap[k]?=w.heap[k]?:=λk hk _=>hW.block k (D k hk);have ab:Boxed W p2 3 (R K (node:Int)):=(hW.block p2 h2.lt).trans h2;have al:=AA A;have ai:=AA s4;have au:=AA D;clear hg a1 hq h1 h2 cells A D;refine callsIn_of_wp func279 rfl trivial ?_ rfl;simp only[ntmps279,Cw,Ao,Bw,Nat.reduceAdd,Nat.reduceSub,Dd,Dc,DX,Da,Av,CT]
 gi_wp2
 gi_loopw[4] (λs4 wr=>∃(z f:Nat)(Z:List ChP),z<=f/\z<=node/\Hid (chN LO node node=Z.map Subtype.val++chN LO f z)/\Boxed wr p2 3 (R K (z:Int))/\J Z wr/\Hid (∀k,S k->k≠p2->wr.heap[k]?=w.heap[k]?)) (λ_ wr=>Ic p2 wr)
 case atStart=>exact⟨node,node,[],AC _,AC _,rfl,ab,h0,aa⟩
 case round=>
  obtain⟨z,f,Z,ap,a6,HP,V,hj,HK⟩:=hrel;have cz:=V.cell;have ak:=AA (Lm V);have s:lc Z<node+2:=by have h1:=congrArg List.length HP.out;rw[List.length_append,BP]at h1;have h2:=aiY LO node node;omega
  obtain⟨fn,tmps,assign,body,H,C⟩:=hY Z ⟨z,by omega⟩ wr hj s;dsimp only[anp]at H
  gi_wp2
  refine C.mono ?_;rintro e N (⟨rfl,hJ4,hk4⟩|⟨rfl,hJx4⟩)
  ·have X:Boxed N p2 3 (R K (z:Int)):=(hk4 p2 ai.out).trans V;have B:Hid (∀k,S k->k≠p2->N.heap[k]?=w.heap[k]?):=λk h1 h2=>(hk4 k h1).trans (HK.out k h1 h2);have ag:=X.cell
   by_cases hz:z=0
   ·subst hz;have HF:Hid (chN LO node node=(Z++[(⟨0,by omega⟩:ChP)]).map Subtype.val):=by have:=HP.out;rw[amf]at this;rw[Hid,this];simp
    clear cz V C H
    gi_wp2
    go_end0
    exact⟨⟨_,rfl⟩,.inl ⟨_,HF.out.symm,hJ4⟩⟩
   ·obtain⟨k,hk,a8⟩:=al.out z om a6;obtain⟨f,rfl⟩:∃f',f=f'+1:=⟨f-1,by omega⟩;have I:z<=1000000:=by omega
    have HF:Hid (chN LO node node=(Z++[(⟨z,I⟩:ChP)]).map Subtype.val++chN LO f k):=by have:=HP.out;rw[amH,Lc hz,hk,CG,Aa]at this;rw[Hid,this];simp
    obtain⟨c1,c2,c3⟩:=HC.out N B.out;have c4:=c3 z k hk;have aq:((z:Int) != 0)=G:=by simp;omega
    have i1:(0:Int)<=(z:Int):=by omega
    have i2:(z:Int)<(n:Int):=by omega
    have ao:=X.lt;have af:=X.frozen;clear cz V C H c3 hk
    gi_wp2
    refine Ld (FL _ _) 7 mixed kr kr ?_;dsimp only[List.take_succ_cons,List.take_zero,List.drop_succ_cons,List.drop_zero]
    repeat (go_big_quiet_step (fail))
    refine wpQuiet_nil ?_;rintro _ ⟨nq,rfl⟩;have ac:La N (N.drewN nq):=⟨rfl,rfl,rfl,AC _,λ_ _=>rfl⟩;have a2:=al1 hJ hJ4 ac;have ae:=adx hJ a2 (p:=p2) rfl 0 (R K (k:Int));have Y:Boxed (N.drewN nq) p2 3 (R K (z:Int)):=X;have U:=Y.set (R K (k:Int));have aj:=AA (Lm U);have am:Hid (∀j,S j->j≠p2->((N.drewN nq).setCell ⟨p2,0,O⟩ (R K (k:Int))).heap[j]?=w.heap[j]?):=λj h1 h2=>(AQ _ _ _ _ (by show j≠p2;exact h2)).trans (B.out j h1 h2);have d1:=Y.cell;have d2:=Y.frozen;have d3:=Y.lt;clear c1 c2 c4 ag af B a2 hJ4
    gi_wp2
    go_roundw
    case rel=>exact⟨k,f,_,by omega,by omega,HF,U,ae,am⟩
    case measure=>rw[ak.out,aj.out];exact a8
  ·have I:z<=1000000:=by omega
   have HF:Hid (∃r,chN LO node node=(Z++[(⟨z,I⟩:ChP)]).map Subtype.val++r):=by obtain⟨r,hr⟩:=amb LO f z;exact⟨r,by rw[HP.out,hr];simp⟩
   gi_wp2
   go_end0
   exact⟨⟨_,rfl⟩,.inr ⟨_,HF.out,hJx4⟩⟩
end
section
attribute[local go_sem] Oper.semAt_some
attribute[local simp] Ak Al
attribute[local go_sem] Ak Al
theorem aaH{fn:Func}{p:Tmp}{tmps:Array Vk}{W:Wa}{B:Nat}(h:fn.results=#[.cell p 3])(Y:tmps.getD p undef=L (E ⟨B,0,O⟩)){v:Int}(hB:Boxed W B 3 (R K v)) :(results fn tmps).run ZP W=.ok (R K v) W:=by
 have Z:tmps[p]?.getD undef=L (E ⟨B,0,O⟩):=by simpa using Y
 have X:=hB.cell;simp[results,h,Z,asAddr,X,go_sem,loadVar]
abbrev Ex(ws:Lb):Int×Int->Option Int:=Dp (AG ws).up (AG ws).byt ((AB ws).length-1)
theorem akb(g mb q n nm i z:Nat)(ws:Lb)(LO:List Int)(cs:Array Vk)(x:List Int)(c:Int)(w:Wa)
  (hg:w.heap[g]?=E (i7 cs 277 (0,0))) (ag:cs[4]?=E (.map (E mb))) (ap:cs[5]?=E (T (E ⟨q,0,O⟩) n n)) (hm:FM w mb nm (Ex ws)) (hq:AU q LO w) (hL:lc LO=n) (hN:(AB ws).length=n) (hn:n<=1000000)
  (a7:IK ws LO i) (hi:i<=n) (hz:z<i) (hx:(AB ws)[z]?=E x) (hc:0<=c/\c<=255) :
  Calls ZP 216 #[L (E ⟨g,0,O⟩),R K (z:Int),.int .u8 c] w λe w'=>e=ra (R K (CW (AB ws) (lsf (AB ws) (x++[c]))))/\La w w':=by
 obtain⟨J,hW⟩:∃W,W=((w.alloc (i7 #[L (E ⟨g,0,O⟩)] 272)).alloc (i7 #[.int .u8 c] 5)).alloc (i7 #[R K 0] 3):=⟨_,rfl⟩;have hB:La w J:=by rw[hW];exact((AL _ _).alloc (by simp only[DN];omega) _).alloc (by simp only[DN];omega) _
 have hO:Bx w.heap.size [i7 #[L (E ⟨g,0,O⟩)] 272,i7 #[.int .u8 c] 5,i7 #[R K 0] 3] J:=by rw[hW];exact(((Bx.nil _ w).snoc _ rfl).snoc _ sm).snoc _ sm
 have aj:J.heap.size=w.heap.size+1+1+1:=by rw[hW];simp
 have bG:Boxed J w.heap.size 272 (L (E ⟨g,0,O⟩)):=hO 0 _ rfl;have bC:Boxed J (w.heap.size+1) 5 (.int .u8 c):=hO 1 _ rfl;have bR:Boxed J (w.heap.size+1+1) 3 (R K 0):=hO 2 _ rfl;have c0:=bG.cell;clear hO;refine Hc func216 rfl ?_;simp only[ntmps216,Cw,Ao,Bw,Nat.reduceAdd,Nat.reduceSub,Dd,Dc,DX,Da,Av,CT];go_upto_region 1 with fail
 rw[<-hW];clear hW
 go_wp2_with (go_at_call 253;refine(aie g z J).mono ?_;rintro e w' ⟨rfl,rfl⟩)
 obtain⟨N,a1⟩:∃W,W=(J.alloc (i7 #[L (E ⟨g,0,O⟩)] 272)).alloc (i7 #[R K (z:Int)] 3):=⟨_,rfl⟩;have V:La J N:=by rw[a1];exact(AL _ _).alloc sm _
 have h1:Boxed N J.heap.size 272 (L (E ⟨g,0,O⟩)):=by rw[a1];exact(Boxed.new J 272 _).alloc _
 have h2:Boxed N (J.heap.size+1) 3 (R K (z:Int)):=by
  rw[a1];have:=Boxed.new (J.alloc (i7 #[L (E ⟨g,0,O⟩)] 272)) 3 (R K (z:Int))
  rwa[DN]at this
 rw[<-a1];clear a1 c0;have aa:La w N:=hB.trans (V.mono hB.size);have ax:Boxed N w.heap.size 272 (L (E ⟨g,0,O⟩)):=(V.block _ bG.lt).trans bG;have ay:Boxed N (w.heap.size+1) 5 (.int .u8 c):=(V.block _ bC.lt).trans bC;have av:Boxed N (w.heap.size+1+1) 3 (R K 0):=(V.block _ bR.lt).trans bR;have ae:g<w.heap.size:=(AD.1 hg).1;have ak:q<w.heap.size:=(AD.1 (show w.heap[q]?=_ from hq)).1;have az:=hm.lt;have af:N.heap[g]?=_:=(aa.block g ae).trans hg;have ab:AU q LO N:=(aa.block q ak).trans hq;have ac:∀j,1<=j->j<=z->∃k:Nat,LO[j]?=E (k:Int)/\k<j:=λj h1 h2=>by obtain⟨y,hy⟩:∃y,(AB ws)[j]?=E y:=⟨(AB ws)[j]'om,by simp⟩;obtain⟨k,e1,e2,_⟩:=a7.at_ om hy om;exact⟨k,e1,e2⟩
 have ai:=h2.lt;rw[aj]at h1 h2 ai;have al:=afc g (w.heap.size+1+1+1) (w.heap.size+1+1+1+1) q n LO z cs (λk=>k<N.heap.size) 8 N af ap ab hL hn h1 h2 ⟨by omega,by omega,by omega,by omega⟩ (λk hk=>hk) ⟨by omega,by omega,by omega⟩ om ac;clear bG bC bR hB V ac af ab
 apply amM rfl (enters_of func279 kr rfl) al (λr hr=>by rw [hr];exact h2.lt) GD (JR λ_ h=>h) (λ_=>rfl) (hKr:=λ_ _ _=>rfl)
  (λU W=>Boxed W w.heap.size 272 (L (E ⟨g,0,O⟩))/\Boxed W (w.heap.size+1) 5 (.int .u8 c)/\Boxed W (w.heap.size+1+1) 3 (R K 0)/\La w W/\N.heap.size<=W.heap.size/\∀y∈U.map Subtype.val,Ex ws ((y:Int),c)=O)
  (λc' U W=>∃k:Int,Boxed W (w.heap.size+1+1) 3 (R K k)/\La w W/\(c'=.ret/\∃(p:List Nat)(y:Nat),U.map Subtype.val=p++[y]/\(∀y∈p,Ex ws ((y:Int),c)=O)/\Ex ws ((y:Int),c)=E k))
 case hI=>exact BL.and (BL.box _ _ _ _ _ (by show ¬(_=_);omega)) (BL.and (BL.box _ _ _ _ _ (by show ¬(_=_);omega)) (BL.and (BL.box _ _ _ _ _ (by show ¬(_=_);omega)) (BL.and (BL.below om (AC _) (λr hr=>by rw[hr];omega)) (BL.and (BL.size _ _ _) (BL.pure _ _ _)))))
 case hIx=>
  intro c' s A C row ⟨k,hs⟩ hg hr;have h:BL N.heap.size (λr=>r=w.heap.size+1+1+1+1) (λ(s:List ChP)(W:Wa)=>Boxed W (w.heap.size+1+1) 3 (R K k)/\La w W/\(c'=.ret/\∃(p:List Nat)(y:Nat),s.map Subtype.val=p++[y]/\(∀y∈p,Ex ws ((y:Int),c)=O)/\Ex ws ((y:Int),c)=E k)):=
   BL.and (BL.box _ _ _ _ _ (by show ¬(_=_);omega)) (BL.and (BL.below om (AC _) (λr hr=>by rw[hr];omega)) (BL.pure _ _ _))
  exact⟨k,h s A C row hs hg hr⟩
 case h0=>exact⟨ax,ay,av,aa,AC _,by simp⟩
 case hassign=>
  intro l x W KB hK;unfold anp
  gi_wp2
  exact hK
 case hbody=>
  rintro l U ⟨y,hy⟩ W ⟨hG,hC,I,X,hs,Y⟩ aA;have q0:=I.cell;have q1:=I.frozen;have aB:∀d os,(grow (redrawn W d) os).cell? ⟨g,4,O⟩=E (.map (E mb)):=λd os=>by have:(grow (redrawn W d) os).heap[g]?=E (i7 cs 277 (0,0)):=((Vc W d os).block g (by have:=X.size;omega)).trans ((X.block g ae).trans hg);simp[cell?,this,ag]
  have aC:∀d os,(grow (redrawn W d) os).cell? ⟨w.heap.size,0,O⟩=E (L (E ⟨g,0,O⟩)):=λd os=>((Vc W d os).cell (p:=⟨w.heap.size,0,O⟩) hG.lt).trans hG.cell;have aD:∀d os,(grow (redrawn W d) os).cell? ⟨w.heap.size+1,0,O⟩=E (.int .u8 c):=λd os=>((Vc W d os).cell (p:=⟨w.heap.size+1,0,O⟩) hC.lt).trans hC.cell;obtain⟨Ob,hO⟩:∃Ob,Ex ws ((y:Int),c)=Ob:=⟨_,rfl⟩;have ao:∀d os,Sem.run ZP (Instr.lookup 275 (.map (E mb)) (i8 #[R K (y:Int),.int .u8 c]) G) (grow (redrawn W d) os)=.ok (ta #[R K (Ob.getD 0),i6 Ob.isSome]) (grow (redrawn W d) os):=λd os=>by
   have:=((hm.below X).below (Vc W d os)).look (z:=(y:Int)) (c:=c) om hc
   rwa[hO]at this
  have a6:=AA Y;have HO:=AA hO;clear Y hO
  cases Ob with
  |none=>
   have HF:Hid (∀v∈(U++[(⟨y,hy⟩:ChP)]).map Subtype.val,Ex ws ((v:Int),c)=O):=λv hv=>by
    rw[Aj,Bf]at hv
    rcases hv with hv|hv
    ·exact a6.out v hv
    ·simp at hv;rw[hv];exact HO.out
   dsimp only
   gi_wp2
   refine Le (OV _ _ _) mixed kr kr ?_
   repeat (go_big_quiet_step (fail))
   refine wpQuiet_nil ?_;rintro _ ⟨⟨dq,H⟩,rfl⟩;have Z:=Vc W dq H
   gi_wp2
   exact⟨Nj Z,Ke Z (λk hk=>by omega),(Z.block _ hG.lt).trans hG,(Z.block _ hC.lt).trans hC,(Z.block _ I.lt).trans I,X.trans (Z.mono X.size),AS hs Z.size,HF.out⟩
  |some v=>
   have HF:Hid (∃(p:List Nat)(t:Nat),(U++[(⟨y,hy⟩:ChP)]).map Subtype.val=p++[t]/\(∀y∈p,Ex ws ((y:Int),c)=O)/\Ex ws ((t:Int),c)=E v):=⟨_,y,by simp,a6.out,HO.out⟩;dsimp only
   gi_wp2
   refine Le (OV _ _ _) mixed kr kr ?_
   repeat (go_big_quiet_step (fail))
   refine wpQuiet_nil ?_;rintro _ ⟨⟨dq,H⟩,rfl⟩;have Z:=Vc W dq H;have a2:Boxed (grow (redrawn W dq) H) (w.heap.size+1+1) 3 (R K 0):=(Z.block _ I.lt).trans I;have d1:=a2.cell;have d2:=a2.frozen;have d3:=a2.lt;have ar:=X.trans (Z.mono X.size);have kO:=(Nj (B:=N.heap.size) Z).trans ((Jp (grow (redrawn W dq) H) ⟨w.heap.size+1+1,0,O⟩ (R K v)).from N.heap.size);have au:=a2.set (R K v)
   gi_wp2
   exact⟨kO,v,au,ar.setCell (by show w.heap.size<=w.heap.size+1+1;omega) _,rfl,HF.out⟩
 case hdone=>
  rintro D zs W hD hS ⟨hG,hC,I,X,hs,Y⟩ a8;rw[hS]at Y;have HZ:=AA (ajN a7 hz (AC _) hx Y);have q1:=I.cell;have q2:=I.frozen;go_wp2;have aw:Boxed ((W.setCell ⟨w.heap.size+1+1,0,O⟩ (R K 0)).putObj D (.deferred O)) (w.heap.size+1+1) 3 (R K 0):=(Cm om).trans (I.set _);have aq:(W.setCell ⟨w.heap.size+1+1,0,O⟩ (R K 0)).heap[D]?=E (.deferred (E [])):=(AQ _ _ _ _ (by simp;omega)).trans a8;refine Gg rfl aq (aaH rfl rfl aw) ⟨by rw[<-HZ.out],FZ (X.setCell (by simp;omega) _) om (AC _) _⟩
 case hstop=>
  rintro D c' U W hD ⟨r,hS⟩ ⟨k,I,X,rfl,p,y,am,Y,hk⟩ a8;rw[am]at hS;have HZ:=AA (aiZ a7 hz (AC _) hx hS Y hk);go_wp2;have bT:Boxed (W.putObj D (.deferred O)) (w.heap.size+1+1) 3 (R K k):=(Cm om).trans I;refine Gg rfl a8 (aaH rfl rfl bT) ⟨by rw[<-HZ.out],FZ X om (AC _) _⟩
end
abbrev anu(t:TV)(Z q n:Nat):Array Vk:=#[T t.ua t.un t.uc,T t.da t.dn t.dc,T t.xa t.xn t.xc,T t.ba t.bn t.bc,.map (E Z),T (E ⟨q,0,O⟩) n n]
structure apx(W:World)(base g:Nat)(t:TV)(ws:Lb)(L:List Int)(E:Int×Int->Option Int):Prop where
 ex:∃mb q nm:Nat,W.heap[g]?=some (.cells (anu t mb q (AB ws).length) 277 (0,0))/\FM W mb nm E/\AU q L W/\L.length=(AB ws).length/\base<=g/\base<=mb/\base<=q/\g≠mb/\g≠q/\mb≠q/\nm<=1000000
def Cq(ws:Lb)(n j:Nat):List Int:=(Bo ws).take j++List.replicate (n-j) 0
theorem JO(ws:Lb):(Bo ws).length=(AB ws).length:=by simp[Bo]
theorem alf{ws:Lb}{n j:Nat}(Z:(AB ws).length=n)(Y:j<=n):(Cq ws n j).length=n:=by unfold Cq;rw[List.length_append,Ag,CS,JO];omega
theorem ajl{ws:Lb}{n j i:Nat}(Z:i<j)(X:j<=n)(Y:(AB ws).length=n):(Cq ws n j)[i]?=(Bo ws)[i]?:=by unfold Cq;rw[By (by rw[Ag,JO];omega),FT,Lq Z]
theorem an2{ws:Lb}{n j:Nat}(X:j<=n)(Y:(AB ws).length=n):IK ws (Cq ws n j) j:=λi x V Z=>by rw[ajl V X Y];exact JP Z
theorem aif{ws:Lb}{n:Nat}(X:(AB ws).length=n)(h1:1<=n):Cq ws n 1=List.replicate n 0:=by obtain⟨m,rfl⟩:∃m,n=m+1:=⟨n-1,by omega⟩;have h0:=JP (CM ws);have Z:Gc ws []=0:=CV (CL ws).nodup (CM ws);rw[Z]at h0;have Y:=As h0;unfold Cq;rw[Y,Ip];simp
theorem agy{ws:Lb}{n j:Nat}{v:Int}(V:(AB ws).length=n)(U:j<n)(Z:(Bo ws)[j]?=E v):(Cq ws n j).set j v=Cq ws n (j+1):=by
 unfold Cq;obtain⟨m,Y⟩:∃m,n-j=m+1:=⟨n-j-1,by omega⟩;have X:((Bo ws).take j).length=j:=by rw[Ag,JO];omega
 rw[Jm _ _ om,X,FG,Y,Ip,List.set_cons_zero,As Z,show n-(j+1)=m by omega,CE]
 rfl
theorem aiW{ws:Lb}{n j:Nat}(Y:(AB ws).length=n)(U:j<n)(Z:(Bo ws)[j]?=E 0):Cq ws n j=Cq ws n (j+1):=by
 rw[<-agy Y U Z];unfold Cq;obtain⟨m,X⟩:∃m,n-j=m+1:=⟨n-j-1,by omega⟩;have V:((Bo ws).take j).length=j:=by rw[Ag,JO];omega
 rw[Jm _ _ om,V,FG,X,Ip,List.set_cons_zero]
theorem FM.mono{W:Wa}{b n m:Nat}{f:Int×Int->Option Int}(h:FM W b n f)(Z:n<=m):FM W b m f:=by obtain⟨D,h1,h2⟩:=h;exact⟨D,h1.mono Z,h2⟩
theorem AU.set{g j:Nat}{l:List Int}{W:Wa}(h:AU g l W)(v:Int):AU g (l.set j v) (W.setCell ⟨g,j,O⟩ (R K v)):=by
 have:=AJ (i:=j) h (R K v);unfold AU
 simpa[Is]using this
theorem aiQ(t:TV)(Ta:Ay)(sp ws:Lb)(w:Wa)(hT:Tri w t Ta)(hb:t.un<=140737488351232)(hr:CI Ta=E (sp,ws)) :Calls ZP 176 #[i8 t.cells] w λe w'=>∃g,e=ra (ta #[L (E ⟨g,0,O⟩),i6 G])/\apx w' w.heap.size g t ws (Bo ws) (Ex ws)/\La w w':=by
 obtain⟨r1,rfl,rfl⟩:=Fy.1 hr;obtain⟨ua,un,uc,da,dn,dc,xa,xn,xc,ba,bn,bc⟩:=t;dsimp only at hb;have hn:un=(AB ws).length:=by have:=hT.up.1;simp[AG]at this;exact this.symm
 have H:bn=(AB ws).length:=by have:=hT.byt.1.1;simp[AG]at this;exact this.symm
 have ak:(AB ws).length<=400:=(abf hr).1;have aD:1<=(AB ws).length:=by have:=Lo ws;have:(AB ws).length≠0:=λe=>this (Bz e);omega
 obtain⟨n,aj⟩:∃n,(AB ws).length=n:=⟨_,rfl⟩;rw[aj]at hn H ak aD
 replace hn:=hn.symm
 subst hn
 replace H:=H.symm
 subst H;have Y:=AA aj;obtain⟨W,hW⟩:∃W,W=w.alloc (i7 #[T ua n uc,T da dn dc,T xa xn xc,T ba n bc] 150):=⟨_,rfl⟩;have hB:La w W:=by rw[hW];exact AL _ _
 have hO:Bx w.heap.size [i7 #[T ua n uc,T da dn dc,T xa xn xc,T ba n bc] 150] W:=by rw[hW];exact(Bx.nil _ w).snoc _ rfl
 have c0:W.cell? ⟨w.heap.size,0,O⟩=E (T ua n uc):=hO.cell (i:=0) rfl rfl;have c1:W.cell? ⟨w.heap.size,1,O⟩=E (T da dn dc):=hO.cell (i:=0) rfl rfl;have c2:W.cell? ⟨w.heap.size,2,O⟩=E (T xa xn xc):=hO.cell (i:=0) rfl rfl;have c3:W.cell? ⟨w.heap.size,3,O⟩=E (T ba n bc):=hO.cell (i:=0) rfl rfl;have HR:Hid (JF (AG ws)=G):=by unfold Hid JF;rw[hr];rfl
 have HC:=AA (ai5 _ (AG ws) W (hT.below hB) hb);have HT:=AA hT;have aU:=@run_makeMap ZP;have aV:∀V:Wa,(Instr.makeSlice 30 (R K n) (R K n)).run ZP V=.ok (T (E ⟨V.heap.size,0,O⟩) n n) (V.alloc (i7 (GE n) 3)):=λV=>by
  obtain⟨i0,hi,aR,ar,aQ⟩:=Vh JS;have h:=run_makeSlice (P:=ZP) (w:=V) 30 3 i0 (.int .i64 0) underlying30 hi aR .i64 .i64 (n:Int) (n:Int) om om (by rw[ar];omega) (by rw[aQ];omega) om;rw[ar]at h;have e1:(n:Int).toNat*1=n:=by omega
  rw[e1,Nc,Aa]at h;exact h
 clear hT hr r1 aj;go_enter func176,ntmps176;go_upto_region 1 with fail
 rw[<-hW];clear hW
 go_wp2_with fail
 refine HC.out.mono ?_;rintro e X ⟨rfl,aN⟩;rw[HR.out];have ab:La w X:=hB.trans (aN.mono hB.size);have A:=hO.below aN;have k0:X.heap[w.heap.size]?=E (i7 #[T ua n uc,T da dn dc,T xa xn xc,T ba n bc] 150 (0,0)):=A 0 _ rfl;clear c0 c1 c2 c3;have c0:X.cell? ⟨w.heap.size,0,O⟩=E (T ua n uc):=A.cell (i:=0) rfl rfl;have c1:X.cell? ⟨w.heap.size,1,O⟩=E (T da dn dc):=A.cell (i:=0) rfl rfl;have c2:X.cell? ⟨w.heap.size,2,O⟩=E (T xa xn xc):=A.cell (i:=0) rfl rfl;have c3:X.cell? ⟨w.heap.size,3,O⟩=E (T ba n bc):=A.cell (i:=0) rfl rfl;have aG:w.heap.size<X.heap.size:=(AD.1 k0).1;have aF:w.heap.size<X.heap.size+1:=by omega
 have aC:w.heap.size≠X.heap.size:=by omega
 have aB:w.heap.size≠X.heap.size+1:=by omega
 go_upto_region 3 with fail
 go_cut[4] (λs4 wx=>∃g N q:Nat,s4=L (E ⟨g,0,O⟩)/\wx.heap[g]?=E (i7 #[T ua n uc,T da dn dc,T xa xn xc,T ba n bc,.map (E N),T (E ⟨q,0,O⟩) n n] 277 (0,0))/\FM wx N 0 (λ_=>O)/\AU q (List.replicate n 0) wx/\g≠N/\g≠q/\N≠q/\w.heap.size<N/\w.heap.size<g/\w.heap.size<q/\La X wx)
 case first=>
  go_wp2
  go_region
  ·go_wp2_with fail
   go_meet
   refine⟨_,X.heap.size,X.heap.size+1,rfl,Hf sm _,?_,?_,by omega,by omega,by omega,by omega,by omega,by omega,?_⟩
   ·exact(((FM.start X).alloc _).alloc _).below ⟨rfl,rfl,rfl,AC _,λ_ _=>rfl⟩
   ·have h:=AU.new (X.alloc (.map #[] 0)) n;rw[DN]at h;exact(Bg _ _ _ sm).trans h
   ·exact(((AL X _).alloc sm _).alloc (by simp;omega) _).trans ⟨rfl,rfl,rfl,AC _,λ_ _=>rfl⟩
  ·go_wp2_with fail
   go_meet
   refine⟨_,X.heap.size+1,X.heap.size,rfl,Hf sm _,?_,?_,by omega,by omega,by omega,by omega,by omega,by omega,?_⟩
   ·have h:=FM.start (X.alloc (i7 (GE n) 3));rw[DN]at h;exact(h.alloc _).below ⟨rfl,rfl,rfl,AC _,λ_ _=>rfl⟩
   ·exact(Bg _ _ _ (by simp;omega)).trans ((Bg _ _ _ sm).trans (AU.new X n))
   ·exact(((AL X _).alloc sm _).alloc (by simp;omega) _).trans ⟨rfl,rfl,rfl,AC _,λ_ _=>rfl⟩
 case rest=>
  obtain⟨g,N,q,rfl,ao,am,ai,aM,aL,al,b9,bb,b8,aq⟩:=hcut;clear aU aV c0 c1 c2 c3 aF aC aB;have bj:=AA ab;have af:=ab.trans (aq.mono ab.size);have b6:=AA k0;clear ab;have J:wc.heap[w.heap.size]?=E (i7 #[T ua n uc,T da dn dc,T xa xn xc,T ba n bc] 150 (0,0)):=(aq.block _ aG).trans k0;clear aq b6 k0;have bi:g<wc.heap.size:=(AD.1 ao).1;have bd:q<wc.heap.size:=(AD.1 (show wc.heap[q]?=_ from ai)).1;have b7:N<wc.heap.size:=am.lt;go_upto_region 4 with fail
  go_wp2
  go_loopw[5] (λs5 wr=>∃j:Nat,1<=j/\j<=n/\s5=R K j/\FM wr N j (Dp (AG ws).up (AG ws).byt (j-1))/\wr.heap[g]?=E (i7 #[T ua n uc,T da dn dc,T xa xn xc,T ba n bc,.map (E N),T (E ⟨q,0,O⟩) n n] 277 (0,0))/\AU q (List.replicate n 0) wr/\wr.heap[w.heap.size]?=E (i7 #[T ua n uc,T da dn dc,T xa xn xc,T ba n bc] 150 (0,0))/\La w wr) (λs5 _=>n-(intOf s5).toNat)
  case atStart=>exact⟨1,AC _,aD,rfl,(show FM wc N 1 (λ_=>O) from am.mono om),ao,ai,J,af⟩
  case round=>
   clear am ao ai J af;obtain⟨j,aK,aX,rfl,hm,D,C,J,Z⟩:=hrel;have k0:wr.cell? ⟨w.heap.size,0,O⟩=E (T ua n uc):=by simp[cell?,J]
   have k3:wr.cell? ⟨w.heap.size,3,O⟩=E (T ba n bc):=by simp[cell?,J]
   have g4:wr.cell? ⟨g,4,O⟩=E (.map (E N)):=by simp[cell?,D]
   by_cases aJ:j<n
   ·have hd:decide ((j:Int)<n)=G:=by simp;omega
    obtain⟨y,hy⟩:∃y,(AB ws)[j]?=E y:=⟨(AB ws)[j]'(by have:=Y.out;omega),by simp⟩;obtain⟨b0,o0,u,e0,aI,cu,hu⟩:=DG (HT.out.below Z).up aJ;obtain⟨b3,o3,c,e3,aH,cb,hc⟩:=DG (HT.out.below Z).byt.1 aJ;dsimp only at e0 e3;subst e0 e3;have ap:=HT.out.byt.2 c (AX hc);obtain⟨t1,t2,_⟩:=JC hy;obtain⟨k,hk⟩:=DR (LR (AX hy));have I:=CV (CL ws).nodup hk;have bg:k<n:=by have:=(AP.1 hk).1;have:=Y.out;omega
    rw[t1,I]at hu;obtain rfl:(k:Int)=u:=AK hu;have HE:Hid ((λp=>if p=((k:Int),c) then E (j:Int) else Dp (AG ws).up (AG ws).byt (j-1) p)=Dp (AG ws).up (AG ws).byt (j+1-1)):=by
     obtain⟨i,rfl⟩:∃i,j=i+1:=⟨j-1,by omega⟩
     funext p
     show _=Dp _ _ (i+1) p
     conv=>rhs;unfold Dp
     rw[t1,I,hc];simp
    have i1:(0:Int)<=(j:Int):=by omega
    have i2:(j:Int)<(n:Int):=by omega
    clear t1 t2 hk I hy hu hc;go_upto_region 7 with fail
    refine Hw 16 mixed kr ?_;dsimp only[List.take_succ_cons,List.take_zero,List.drop_succ_cons,List.drop_zero]
    repeat (go_big_quiet_step (fail))
    refine wpQuiet_nil ?_;rintro _ ⟨nq,rfl⟩;have H:=AN wr nq;refine adb rfl _ _ _ rfl rfl (hm.below H) (by unfold maxLen;omega) (k:Int) c j (by simp[Lit.wf,IntKind.min,IntKind.max,IntKind.signed,IntKind.bits];omega) om ap rfl rfl ?_;intro w5 aE a8;rw[HE.out]at aE;have gg:w5.heap[g]?=_:=(a8.block g (AD.1 D).1 (by intro e;injection e with e;exact aM e)).trans D;have gq:AU q (List.replicate n 0) w5:=(a8.block q (AD.1 (show wr.heap[q]?=_ from C)).1 (by intro e;injection e with e;exact al e.symm)).trans C;have gw:w5.heap[w.heap.size]?=_:=(a8.block _ (AD.1 J).1 (by intro e;injection e with e;omega)).trans J;have aZ:La w w5:=(Z.trans (H.mono Z.size)).grown a8 Z.size (λk e=>by cases e;omega);go_wp2
    go_roundw
    case rel=>exact⟨j+1,by omega,by omega,by go_num,aE,gg,gq,gw,aZ⟩
    case measure=>simp[intOf];omega
   ·obtain rfl:j=n:=by omega
    have hd:decide ((j:Int)<j)=M:=by simp
    have aw:AU q (Cq ws j 1) wr:=by rw[aif Y.out aK];exact C
    have HE:Hid (Dp (AG ws).up (AG ws).byt (j-1)=Ex ws):=by unfold Hid Ex;rw[Y.out]
    rw[HE.out]at hm;clear C aX hd k3 g4;go_upto_region 8 with fail
    clear k0;go_wp2
    go_loopw[6] (λs6 wr=>∃i:Nat,1<=i/\i<=j/\s6=R K i/\FM wr N j (Ex ws)/\wr.heap[g]?=E (i7 #[T ua j uc,T da dn dc,T xa xn xc,T ba j bc,.map (E N),T (E ⟨q,0,O⟩) j j] 277 (0,0))/\AU q (Cq ws j i) wr/\wr.heap[w.heap.size]?=E (i7 #[T ua j uc,T da dn dc,T xa xn xc,T ba j bc] 150 (0,0))/\La w wr) (λs6 _=>j-(intOf s6).toNat)
    case atStart=>exact⟨1,AC _,aK,rfl,hm,D,aw,J,Z⟩
    case round=>
     clear hm D aw J Z;obtain⟨i,bh,a7,rfl,hm,D,C,J,Z⟩:=hrel;have k0:wr.cell? ⟨w.heap.size,0,O⟩=E (T ua j uc):=by simp[cell?,J]
     by_cases a6:i<j
     ·have hd:decide ((i:Int)<j)=G:=by simp;omega
      obtain⟨y,hy⟩:∃y,(AB ws)[i]?=E y:=⟨(AB ws)[i]'(by have:=Y.out;omega),by simp⟩;obtain⟨b0,o0,u,e0,aI,cu,hu⟩:=DG HT.out.up a6;obtain⟨b3,o3,c,e3,aH,cb,hc⟩:=DG HT.out.byt.1 a6;dsimp only at e0 e3;subst e0 e3;have ap:=HT.out.byt.2 c (AX hc);obtain⟨t1,t2,_⟩:=JC hy;obtain⟨k,hk⟩:=DR (LR (AX hy));have I:=CV (CL ws).nodup hk;rw[t1,I]at hu;obtain rfl:(k:Int)=u:=AK hu;obtain⟨v,a1,aT,av,aS,ag,au⟩:=am7 hy om (show(AG ws).up[i]?=E (k:Int) by rw[t1,I]);rw[t2]at hc av;obtain rfl:DU y=c:=AK hc;have HP:=AA (JP hy);have i1:(0:Int)<=(i:Int):=by omega
      have i2:(i:Int)<(j:Int):=by omega
      have c1:wr.cell? ⟨b0,o0+i,O⟩=E (R K (k:Int)):=(Z.cell (p:=⟨b0,o0+i,O⟩) aI).trans cu;clear t1 t2 I hu hk hc av aS
      by_cases hz:k=0
      ·subst hz;have HS:Hid (Cq ws j i=Cq ws j (i+1)):=aiW Y.out a6 (by rw[HP.out,ag rfl]);clear ag au a1 hy;rw[HS.out]at C;go_wp2
       go_roundw
       case rel=>exact⟨i+1,by omega,by omega,by go_num,hm,D,C,J,Z⟩
       case measure=>simp[intOf];omega
      ·obtain⟨p,s,aA,az,ay⟩:=au hz;obtain⟨p2,e1,e2,e3⟩:=(aiJ ws (k+1)).at_ (Nat.lt_succ_self k) a1 hz;have a2:=JP a1;rw[aA]at a2;have be:p<k:=by rw[a2]at e1;have:=AK e1;omega
       have ae:(Cq ws j i)[k]?=E (p:Int):=by rw[ajl aT a7 Y.out];exact a2
       obtain⟨V,hV⟩:∃V,Gc ws y=V:=⟨_,rfl⟩;have b5:Hid ((Bo ws)[i]?=E V):=by rw[Hid,<-hV];exact HP.out
       have aW:=alf (ws:=ws) (j:=i) Y.out a7;have B:g<wr.heap.size:=(AD.1 D).1;have ax:q<wr.heap.size:=(AD.1 (show wr.heap[q]?=_ from C)).1;have ac:w.heap.size<wr.heap.size:=(AD.1 J).1;have row:∀d os,AU q (Cq ws j i) (grow (redrawn wr d) os):=λd os=>((Vc wr d os).block q ax).trans C;have aO:∀d os,Calls ZP 216 #[L (E ⟨g,0,O⟩),R K (p:Int),.int .u8 (DU y)] (grow (redrawn wr d) os) λe w'=>e=ra (R K V)/\Below (grow (redrawn wr d) os).heap.size (grow (redrawn wr d) os) w':=λd os=>by
        have hb:=Vc wr d os;have:=akb g N q j j i p ws (Cq ws j i) _ s (DU y) (grow (redrawn wr d) os) ((hb.block g B).trans D) rfl rfl (hm.below hb) (row d os) aW Y.out om (an2 a7 Y.out) a7 om az ap
        rwa[<-ay,hV]at this
       have b4:=AA aO;have g5:∀d os,(grow (redrawn wr d) os).cell? ⟨g,5,O⟩=E (T (E ⟨q,0,O⟩) j j):=λd os=>by have:(grow (redrawn wr d) os).heap[g]?=_:=((Vc wr d os).block g B).trans D;simp[cell?,this]
       have k3:∀d os,(grow (redrawn wr d) os).cell? ⟨w.heap.size,3,O⟩=E (T (E ⟨b3,o3,O⟩) j bc):=λd os=>by have:(grow (redrawn wr d) os).heap[w.heap.size]?=_:=((Vc wr d os).block _ ac).trans J;simp[cell?,this]
       have rq:∀d os,(grow (redrawn wr d) os).cell? ⟨q,k,O⟩=E (R K (p:Int)):=λd os=>by rw[cell_of_row _ q k _ _ _ (row d os)];simp[ae]
       have b1:∀d os,(grow (redrawn wr d) os).cell? ⟨b3,o3+i,O⟩=E (.int .u8 (DU y)):=λd os=>by have h1:=Z.cell (p:=⟨b3,o3+i,O⟩) aH;exact((Vc wr d os).cell (p:=⟨b3,o3+i,O⟩) (by show b3<wr.heap.size;have:=Z.size;omega)).trans (h1.trans cb)
       have b2:=AA row;have bf:((k:Int) != 0)=G:=by simp;omega
       have i3:(0:Int)<=(k:Int):=by omega
       have i4:(k:Int)<(j:Int):=by omega
       clear aO aA az ay hV ae e1 e2 e3 a2 row a1 ag hy;go_upto_region 13 with fail
       refine aaQ 20 mixed kr ?_;dsimp only[List.take_succ_cons,List.take_zero,List.drop_succ_cons,List.drop_zero]
       repeat (go_big_quiet_step (exact Eu (b4.out _ _)))
       refine wpQuiet_nil ?_;rintro _ ⟨⟨dq,U⟩,rfl⟩;have aa:=Vc wr dq U;have hI:=b2.out dq U;have fq:(grow (redrawn wr dq) U).frozen? ⟨q,i,O⟩=M:=by simp[frozen?,show(grow (redrawn wr dq) U).heap[q]?=_ from hI]
       have cq:∃z:Int,(grow (redrawn wr dq) U).cell? ⟨q,i,O⟩=E (R K z):=by refine⟨(Cq ws j i)[i]'om,?_⟩;rw[cell_of_row _ q i _ _ _ hI];simp
       obtain⟨z,cq⟩:=cq;have aP:=hI.set (j:=i) V;rw[agy Y.out a6 b5.out]at aP;have gg:((grow (redrawn wr dq) U).setCell ⟨q,i,O⟩ (R K V)).heap[g]?=_:=(AQ _ _ _ _ (by show g≠q;exact aL)).trans ((aa.block g B).trans D);have gw:((grow (redrawn wr dq) U).setCell ⟨q,i,O⟩ (R K V)).heap[w.heap.size]?=_:=(AQ _ _ _ _ (by show w.heap.size≠q;omega)).trans ((aa.block _ ac).trans J);have gm:FM ((grow (redrawn wr dq) U).setCell ⟨q,i,O⟩ (R K V)) N j (Ex ws):=(hm.below aa).set (Ne.symm al) _;have aY:La w ((grow (redrawn wr dq) U).setCell ⟨q,i,O⟩ (R K V)):=(Z.trans (aa.mono Z.size)).setCell (by show w.heap.size<=q;omega) _;clear g5 k3 rq b1;go_wp2
       go_roundw
       case rel=>exact⟨i+1,by omega,by omega,by go_num,gm,gg,aP,gw,aY⟩
       case measure=>simp[intOf];omega
     ·obtain rfl:i=j:=by omega
      have hd:decide ((i:Int)<i)=M:=by simp
      have HF:Hid (Cq ws i i=Bo ws):=by unfold Hid Cq;rw[FG,List.replicate_zero,Cx,Ap (by rw[JO,Y.out];exact AC _)]
      rw[HF.out]at C;go_wp2;go_ret2;exact⟨g,rfl,⟨⟨N,q,i,by rw[Y.out];exact D,hm,C,by rw[JO],by omega,by omega,by omega,aM,aL,al,by omega⟩⟩,Z⟩
section
attribute[local go_sem] Oper.semAt_some
attribute[local simp] Ak Al
attribute[local go_sem] Ak Al
theorem ack(t:TV)(Ta:Ay)(X ws:Lb)(w:Wa)(U:Tri w t Ta)(J:t.un<=140737488351232)(V:CI Ta=E (X,ws)) :Calls ZP 127 #[i8 t.cells] w λe w'=>∃q,e=ra (ta #[T (E ⟨q,0,O⟩) (AB ws).length (AB ws).length,R K 0])/\AU q (Bo ws) w'/\w.heap.size<=q/\La w w':=by
 obtain⟨ua,un,uc,da,dn,dc,xa,xn,xc,ba,bn,bc⟩:=t;have hB:=AL w (i7 #[T ua un uc,T da dn dc,T xa xn xc,T ba bn bc] 150);have I:=AA (aiQ _ Ta X ws _ (U.below hB) J V);clear U V;go_enter func127,ntmps127
 go_wp2_with fail
 refine I.out.mono ?_;rintro e N ⟨g,rfl,Y,Z⟩;obtain⟨D,q,H,h1,h2,h3,h4,h5,h6,h7,_⟩:=Y.ex;have c5:N.cell? ⟨g,5,O⟩=E (T (E ⟨q,0,O⟩) (AB ws).length (AB ws).length):=by simp[cell?,h1]
 simp only[DN]at h7;clear h1 h2 h4;go_wp2;go_ret2;exact⟨q,rfl,h3,by omega,hB.trans (Z.mono hB.size)⟩
end
theorem Hx{Ta:Ay}{Y ws:Lb}(Z:CI Ta=E (Y,ws)):(AB ws).length<=400:=by obtain⟨_,_,h⟩:=Fy.1 Z;rw[<-h];exact(abf Z).1
theorem AU.sl1{g:Nat}{l:List Int}{W:Wa}(h:AU g l W):Sl1 (R K) W (E ⟨g,0,O⟩) (lc l) l:=
 ⟨rfl,.inr ⟨g,0,rfl,(AD.1 (show W.heap[g]?=_ from h)).1,λi x Z=>by rw[cell_of_row W g (0+i) _ _ _ h];simp[Z]⟩⟩
theorem ako{wss:Lb}(h:Ev wss=M)(fold:Bool):lc wss<=80/\(∀x∈wss,lc x<=3000)/\(Ad fold wss).length<=3000:=by
 unfold Ev at h;have h:=of_decide_eq_false h;have h1:lc wss<=80:=by omega
 have h2:Cs wss<=3000:=by omega
 have Z:∀(l:Lb),Cs l<=3000->(∀x∈l,lc x<=3000)/\((Ad fold l).length:Int)=Cs l:=by
  intro l
  induction l with
  |nil=>intro _;exact⟨by simp,by simp[Ad,Cs]⟩
  |cons x l ih=>
   intro U;have e:Cs (x::l)=min (lc x:Int) 4000+Cs l:=by simp[Cs]
   have I:=aax l;rw[e]at U⊢;obtain⟨V,J⟩:=ih om;refine⟨λy Y=>?_,?_⟩
   ·rcases CR.1 Y with rfl|Y
    ·omega
    ·exact V y Y
   ·have e2:Ad fold (x::l)=Dt (AO fold x)++Ad fold l:=by simp[Ad]
    rw[e2,List.length_append,Ks,Ew];omega
 obtain⟨X,N⟩:=Z wss h2;exact⟨h1,X,by omega⟩
def Dn(LO:List Int)(m:Int)(row:Vk)(t:TV)(lk:Vk):List Vk:=(LO.map (R K)++[R K m])++[row,T t.ua t.un t.uc,T t.da t.dn t.dc,T t.xa t.xn t.xc,T t.ba t.bn t.bc,lk]
structure Mk(W:World)(M:Nat)(L:List Int)(m:Int)(row:Value)(t:TV)(lk:Value):Prop where
 box:W.heap[M]?=some (.cells (Dn L m row t lk).toArray 227 (0,0))
 len:L.length=256
theorem Mk.lt{W:Wa}{MH:Nat}{LO:List Int}{m:Int}{row lk:Vk}{t:TV}(h:Mk W MH LO m row t lk):MH<W.heap.size:=(AD.1 h.box).1
theorem Mk.below{W V:Wa}{MH:Nat}{LO:List Int}{m:Int}{row lk:Vk}{t:TV}(h:Mk W MH LO m row t lk)(Z:La W V):Mk V MH LO m row t lk:=⟨(Z.block MH h.lt).trans h.box,h.len⟩
theorem Mk.cls{W:Wa}{MH:Nat}{LO:List Int}{m:Int}{row lk:Vk}{t:TV}(h:Mk W MH LO m row t lk){c:Nat}{v:Int}(Z:LO[c]?=E v):W.cell? ⟨MH,c,O⟩=E (R K v):=by
 have Y:c<256:=by have:=(AP.1 Z).1;have:=h.len;omega
 have e:(Dn LO m row t lk)[c]?=E (R K v):=by
  unfold Dn;rw[By (by simp[h.len];omega),By (by simp[h.len];omega),BU,Z]
  rfl
 simp only[cell?,h.box];simp[e]
theorem Mk.off{W:Wa}{MH:Nat}{LO:List Int}{m:Int}{row lk:Vk}{t:TV}(h:Mk W MH LO m row t lk){i:Nat}{v:Vk}(Z:[R K m,row,T t.ua t.un t.uc,T t.da t.dn t.dc,T t.xa t.xn t.xc,T t.ba t.bn t.bc,lk][i]?=E v):W.cell? ⟨MH,256+i,O⟩=E v:=by
 have e:(Dn LO m row t lk)[256+i]?=E v:=by
  unfold Dn;rw[CE,DY (by simp[h.len])]
  simpa[h.len]using Z
 simp only[cell?,h.box];simp[e]
theorem Mk.cells{W:Wa}{MH:Nat}{LO:List Int}{m:Int}{row lk:Vk}{t:TV}(h:Mk W MH LO m row t lk):W.cell? ⟨MH,256,O⟩=E (R K m)/\W.cell? ⟨MH,257,O⟩=E row/\W.cell? ⟨MH,258,O⟩=E (T t.ua t.un t.uc)/\W.cell? ⟨MH,259,O⟩=E (T t.da t.dn t.dc)/\W.cell? ⟨MH,260,O⟩=E (T t.xa t.xn t.xc)/\W.cell? ⟨MH,261,O⟩=E (T t.ba t.bn t.bc)/\W.cell? ⟨MH,262,O⟩=E lk:=⟨h.off (i:=0) rfl,h.off (i:=1) rfl,h.off (i:=2) rfl,h.off (i:=3) rfl,h.off (i:=4) rfl,h.off (i:=5) rfl,h.off (i:=6) rfl⟩
theorem OP{x:Nat}(h:x<=1000000000000):IntKind.i64.wrap (x:Int)=(x:Int):=by simp[IntKind.wrap,IntKind.bits,IntKind.signed];omega
theorem aem(MH Ra n many node:Nat)(LO:List Int)(t:TV)(lk:Vk)(w:Wa)(h:Mk w MH LO (many:Int) (T (E ⟨Ra,0,O⟩) (many*n) (many*n)) t lk)(B:node<n)(s:many<=1000)(A:1<=many)(U:n<=1000000) :Calls ZP 178 #[L (E ⟨MH,0,O⟩),R K (node:Int)] w λe w'=>e=ra (T (E ⟨Ra,node*many,O⟩) many (many*n-node*many))/\La w w':=by
 have X:(node+1)*many<=many*n:=by rw[Nat.mul_comm many n];exact IO _ B
 have j:many*n<=1000*1000000:=GR s U;have Y:(node+1)*many=node*many+many:=Nat.succ_mul _ _;have c1:(node:Int)*(many:Int)=((node*many:Nat):Int):=(Iy _ _).symm;obtain⟨Q,D⟩:∃Q,many*n=Q:=⟨_,rfl⟩;obtain⟨P,C⟩:∃P,node*many=P:=⟨_,rfl⟩;rw[C]at Y c1⊢;rw[D]at h X j⊢;have e4:IntKind.i64.wrap (((node:Int)+1)*(many:Int))=((node:Int)+1)*(many:Int):=by
  have e:((node:Int)+1)*(many:Int)=((P+many:Nat):Int):=by rw[Jr,Int.one_mul,c1];omega
  rw[e];exact OP om
 have e1:IntKind.i64.wrap ((node:Int)*(many:Int))=(node:Int)*(many:Int):=by rw[c1];exact OP om
 have e2:IntKind.i64.wrap ((node:Int)+1)=(node:Int)+1:=OP (x:=node+1) om;have I:Hid (∀V,La w V->V.cell? ⟨MH,256,O⟩=E (R K (many:Int))/\V.cell? ⟨MH,257,O⟩=E (T (E ⟨Ra,0,O⟩) Q Q)):=λV Z=>⟨((h.below Z).cells).1,((h.below Z).cells).2.1⟩;have HC:=AA c1;have c3:((node:Int)+1)*(many:Int)=((P+many:Nat):Int):=by rw[Jr,Int.one_mul,c1];omega
 obtain⟨Eo,J⟩:∃Eo,P+many=Eo:=⟨_,rfl⟩;rw[J]at c3;have H:=AA c3;have HE:=AA J;have l1:Eo<=Q:=by omega
 have l3:P<=Eo:=by omega
 have l2:¬Q=P:=by omega
 clear Y c1 c3 C D h J;clear X;go_enter func178,ntmps178;go_upto_region 1 with fail
 refine Ve ?_;refine Vd (S:=La w) kr (AN w 1) (λhHeld=>?_);refine tkA 0 ?_;refine tkA 1 ?_;refine tkA 2 ?_;refine tkA 3 ?_;refine tkW 4 (v:=?_) ?_ ?_;rotate_left
 ·intro V Z;have r0:=(I.out V Z).2
  first|(go_simp;done)|(go_simp;with_reducible rfl)
 try simp only[pq]
 refine tkA 5 ?_;refine tkA 6 ?_;refine tkA 7 ?_;refine tkA 8 ?_;refine tkA 9 ?_;refine tkW 10 (v:=?_) ?_ ?_;rotate_left
 ·intro V Z;have r0:=(I.out V Z).1
  first|(go_simp;done)|(go_simp;with_reducible rfl)
 try simp only[pq]
 refine tkA 11 ?_;refine tkA 12 ?_;refine tkA 13 ?_;refine tkA 14 ?_;refine tkA 15 ?_;refine tkA 16 ?_;refine tkA 17 ?_;refine tkW 18 (v:=?_) ?_ ?_;rotate_left
 ·intro V Z;have r0:=(I.out V Z).1
  first|(go_simp;done)|(go_simp;with_reducible rfl)
 try simp only[pq]
 refine tkA 19 ?_;rw[HC.out,H.out];clear e1 e2 e4;refine tkA 20 ?_;refine tkA 21 ?_;refine Vg kr ?_ _;refine At ?_
 go_wp2_with fail
 have N:Eo-P=many:=by have:=HE.out;omega
 rw[N];go_ret;exact⟨rfl,AN w 1⟩
section
attribute[local go_sem] Oper.semAt_some
attribute[local simp] Ak Al
attribute[local go_sem] Ak Al
def GC(Ta:Ay)(node:Int):Nat->List (Int×Nat)
 |0=>[]
 |k+1=>GC Ta node k++(if 1<=k/\Ta.up[k]?=E node then [((Ta.byt[k]?).getD 0,k)] else [])
theorem ab5(Ta:Ay)(node:Int):∀k,(GC Ta node k).length<=k
 |0=>by simp[GC]
 |k+1=>by
  have:=ab5 Ta node k;unfold GC;rw[List.length_append]
  split<;>simp<;>omega
theorem ac0{Ta:Ay}{node:Int}{p:Int×Nat}:∀{k:Nat},p∈GC Ta node k↔1<=p.2/\p.2<k/\Ta.up[p.2]?=E node/\p.1=(Ta.byt[p.2]?).getD 0
 |0=>by simp[GC]
 |k+1=>by
  unfold GC;rw[Bf,ac0 (k:=k)]
  constructor
  ·rintro(⟨h1,h2,h3⟩|h)
   ·exact⟨h1,by omega,h3⟩
   ·split at h
    ·rename_i Z
     rw[Fq]at h;subst h;exact⟨Z.1,by dsimp only;omega,Z.2,rfl⟩
    ·cases h
  ·rintro⟨h1,h2,h3,h4⟩
   by_cases e:p.2=k
   ·right
    subst e;rw[Lq ⟨h1,h3⟩,Fq];exact Prod.ext h4 rfl
   ·exact .inl ⟨h1,by omega,h3,h4⟩
def Ec(LO:List Int)(Ta:Ay)(node:Int)(k:Nat):List (Nat×Nat):=(GC Ta node k).map λp=>(((LO[p.1.toNat]?).getD 0).toNat,p.2)
abbrev KdQ(many:Nat):={p:Nat×Nat // p.1<many}
def Ni{many:Nat}(p:KdQ many):Array Vk:=#[R K (p.1.1:Int),R K (p.1.2:Int)]
theorem acy(MH:Nat)(node:Int)(w:Wa) :Calls ZP 179 #[.pointer (E ⟨MH,0,O⟩),.int .i64 node] w λe w'=>e=ra (.func (.func 222) #[] #[.pointer (E ⟨w.heap.size,0,O⟩),.pointer (E ⟨w.heap.size+1,0,O⟩)])/\
   w'=(w.alloc (i7 #[L (E ⟨MH,0,O⟩)] 285)).alloc (i7 #[R K node] 3):=by
 go_enter func179,ntmps179;go_wp2;go_ret;exact⟨rfl,rfl⟩
theorem ab9(t:TV)(Ta:Ay)(MH Ra p1 p2 many:Nat)(node:Int)(m:Int)(row lk:Vk)(LO:List Int)(n:Nat)(w:Wa)(hT:Tri w t Ta)(hn:lc Ta.byt=lc Ta.up)(a8:lc Ta.up<=400)
  (A:Mk w MH LO m row t lk) (hL:∀(c:Nat)(v:Int),LO[c]?=E v->0<=v/\v<(many:Int))
  (h1:w.heap[p1]?=E (i7 #[L (E ⟨MH,0,O⟩)] 285 (0,0))) (h2:w.heap[p2]?=E (i7 #[R K node] 3 (0,0)))
  (hR:MH≠Ra/\p1≠Ra/\p2≠Ra/\(∀a,t.ua=E a->a.block≠Ra)/\(∀a,t.ba=E a->a.block≠Ra)) :
  SeqStopsK Fence.wide n ZP 222 #[L (E ⟨p1,0,O⟩),L (E ⟨p2,0,O⟩)] (Ni (many:=many)) (Cc (λk=>k<w.heap.size/\k≠Ra)) (λzs=>zs.map Subtype.val=Ec LO Ta node (lc Ta.up)) (λ_=>True) 1000001 w:=by
 intro l J Jx W hW hJ ap hY h0;have B:Cc (λk=>k<w.heap.size/\k≠Ra) w W:=Ke hW (λk hk=>hk.1);obtain⟨ua,un,uc,da,dn,dc,xa,xn,xc,ba,bn,bc⟩:=t;dsimp only at hR;obtain⟨r0,r1,r2,r3,r4⟩:=hR;have a7:p1<w.heap.size:=(AD.1 h1).1;have a6:p2<w.heap.size:=(AD.1 h2).1;have ac:MH<w.heap.size:=A.lt;have cells:∀v:Wa,Cc (λk=>k<w.heap.size/\k≠Ra) w v->v.cell? ⟨p1,0,O⟩=E (L (E ⟨MH,0,O⟩))/\v.cell? ⟨p2,0,O⟩=E (R K node)/\v.cell? ⟨MH,258,O⟩=E (T ua un uc)/\v.cell? ⟨MH,261,O⟩=E (T ba bn bc)/\(∀(c:Nat)(v':Int),LO[c]?=E v'->v.cell? ⟨MH,c,O⟩=E (R K v')):=by intro v Y;have e1:=(Y p1 ⟨a7,r1⟩).trans h1;have e2:=(Y p2 ⟨a6,r2⟩).trans h2;have s:Mk v MH LO m row ⟨ua,un,uc,da,dn,dc,xa,xn,xc,ba,bn,bc⟩ lk:=⟨(Y MH ⟨ac,r0⟩).trans A.box,A.len⟩;refine⟨by simp[cell?,e1],by simp[cell?,e2],s.cells.2.2.1,s.cells.2.2.2.2.2.1,λc v' h=>s.cls h⟩
 have kc:∀(v:Wa)(p:Addr),Cc (λk=>k<w.heap.size/\k≠Ra) w v->p.block<w.heap.size->p.block≠Ra->v.cell? p=w.cell? p:=λv p Y hp hr=>BC (Y _ ⟨hp,hr⟩);have KC:=AA kc;have HL:=AA hL;have ai:=AA A.len;have HC:=AA cells;have HT:=AA hT;have U:Hid (lc Ta.up=un):=hT.up.1;have af:bn=un:=by have h1:lc Ta.byt=bn:=hT.byt.1.1;have:=U.out;omega
 have al:un<=400:=by have:=U.out;omega
 subst af;clear hT hn a8 A h1 h2 cells hL kc;obtain⟨c1,c2,c3,c4,_⟩:=HC.out W B;refine callsIn_of_wp func222 rfl trivial ?_ rfl;simp only[ntmps222,Cw,Ao,Bw,Nat.reduceAdd,Nat.reduceSub,Dd,Dc,DX,Da,Av,CT]
 gi_wp2
 clear c1 c2 c3 c4
 gi_loopw[4] (λi wr=>∃(k:Nat)(Z:List (KdQ many)),1<=k/\i=R K k/\Hid (Z.map Subtype.val=Ec LO Ta node k)/\Hid (k<=max bn 1)/\J Z wr/\Cc (λk=>k<w.heap.size/\k≠Ra) w wr) (λi _=>bn-(intOf i).toNat)
 case atStart=>exact⟨1,[],AC _,rfl,(by simp[Hid,Ec,GC]),Nat.le_max_right _ _,h0,B⟩
 case round=>
  obtain⟨k,Z,hk,rfl,HP,HK,hj,V⟩:=hrel;obtain⟨c1,c2,c3,c4,c5⟩:=HC.out wr V
  by_cases D:k<bn
  ·have ae:decide ((k:Int)<bn)=G:=by simp;omega
   obtain⟨b0,o0,u,e0,ab,I,j⟩:=DG HT.out.up D;subst e0;obtain⟨b3,o3,c,s,aa,H,hc⟩:=DG HT.out.byt.1 D;subst s;have cu:wr.cell? ⟨b0,o0+k,O⟩=E (R K u):=(KC.out wr ⟨b0,o0+k,O⟩ V ab (r3 ⟨b0,o0,O⟩ rfl)).trans I;have cb:wr.cell? ⟨b3,o3+k,O⟩=E (.int .u8 c):=(KC.out wr ⟨b3,o3+k,O⟩ V aa (r4 ⟨b3,o3,O⟩ rfl)).trans H;have ao:=HT.out.byt.2 c (AX hc);have a2:lc Z<=k:=by have h1:=congrArg List.length HP.out;have:=ab5 Ta node k;unfold Ec at h1;rw[BP,BP]at h1;omega
   have i1:(0:Int)<=(k:Int):=by omega
   have i2:(k:Int)<(bn:Int):=by omega
   obtain⟨c,rfl⟩:∃c':Nat,c=(c':Int):=⟨c.toNat,by omega⟩;obtain⟨v,Y⟩:∃v,LO[c]?=E v:=⟨LO[c]'(by rw[ai.out];omega),by simp⟩;obtain⟨ak,aj⟩:=HL.out c v Y;obtain⟨v,rfl⟩:∃v':Nat,v=(v':Int):=⟨v.toNat,by omega⟩;have cv:=c5 c _ Y;have i3:(0:Int)<=(c:Int):=by omega
   have i4:(c:Int)<256:=by omega
   by_cases X:u=node
   ·subst X;have HS:Hid ((Z++[(⟨(v,k),by dsimp only;omega⟩:KdQ many)]).map Subtype.val=Ec LO Ta u (k+1)):=by
     unfold Hid Ec GC;rw[Lq ⟨hk,j⟩,Aj,Aj,HP.out,hc];unfold Ec;simp[Y]
    clear I H j hc c5 Y
    gi_wp2
    refine Ld (FL _ _) 27 mixed kr kr ?_;dsimp only[List.take_succ_cons,List.take_zero,List.drop_succ_cons,List.drop_zero]
    repeat (go_big_quiet_step (fail))
    refine wpQuiet_nil ?_;rintro _ ⟨nq,rfl⟩;have N:La wr (wr.drewN nq):=⟨rfl,rfl,rfl,AC _,λ_ _=>rfl⟩;obtain⟨fn,tmps,assign,body,a1,ag⟩:=hY Z ⟨(v,k),by dsimp only;omega⟩ (wr.drewN nq) (IJ hJ hj N) om;dsimp only[Ni]at a1
    gi_wp2
    refine ag.mono ?_;rintro e W4 (⟨rfl,hJ4,hk4⟩|⟨rfl,hJx4⟩)
    ·gi_wp2
     go_roundw
     case rel=>exact⟨k+1,_,by omega,by go_num,HS,(by unfold Hid;omega),hJ4,GD V hk4⟩
     case measure=>simp[intOf];omega
    ·gi_wp2
     refine Vi (results_none rfl _ _ _) rfl ?_;exact⟨⟨_,rfl⟩,.inr ⟨_,trivial,hJx4⟩⟩
   ·have hd:(u==node)=M:=by simpa using X
    have HS:Hid (Z.map Subtype.val=Ec LO Ta node (k+1)):=by
     unfold Hid Ec GC;rw[Lc (λh=>X (by have:=h.2;rw[j]at this;exact AK this)),HP.out,Cx]
     rfl
    clear I H j hc c5 Y
    gi_wp2
    refine KF (FL _ _) mixed kr kr ?_
    repeat (go_big_quiet_step (fail))
    refine wpQuiet_nil ?_;rintro _ ⟨nq,rfl⟩;have N:La wr (wr.drewN nq):=⟨rfl,rfl,rfl,AC _,λ_ _=>rfl⟩;have C:Cc (λk=>k<w.heap.size/\k≠Ra) w (wr.drewN nq):=V
    gi_wp2
    go_roundw
    case rel=>exact⟨k+1,_,by omega,by go_num,HS,(by unfold Hid;omega),IJ hJ hj N,C⟩
    case measure=>simp[intOf];omega
  ·have ae:decide ((k:Int)<bn)=M:=by simp;omega
   clear c5
   gi_wp2
   go_end0
   refine⟨⟨_,rfl⟩,.inl ⟨Z,?_,hj⟩⟩;show Z.map Subtype.val=Ec LO Ta node (lc Ta.up);rw[HP.out,U.out];have am:=HK.out
   by_cases e:bn=0
   ·obtain rfl:k=1:=by omega
    subst e;simp[Ec,GC]
   ·obtain rfl:k=bn:=by omega
    rfl
end
def spl(F:List Int)(P:Nat)(r:List Int):List Int:=F.take P++r++F.drop (P+lc r)
theorem Oj{F r:List Int}{P:Nat}(h:P+lc r<=lc F):(spl F P r).length=lc F:=by unfold spl;simp;omega
theorem alx{F:List Int}{P m:Nat}(h:P+m<=lc F):spl F P ((F.drop P).take m)=F:=by
 unfold spl;have Z:((F.drop P).take m).length=m:=by simp;omega
 rw[Z,CE,<-List.drop_drop,Dx,Dx]
theorem Ok{F r:List Int}{P i:Nat}(h:P+lc r<=lc F)(Z:i<lc r):(spl F P r)[P+i]?=r[i]?:=by unfold spl;rw[CE,DY (by simp;omega)];rw[Ag,Nat.min_eq_left om,Nat.add_sub_cancel_left,By Z]
theorem ajT{F r:List Int}{P i:Nat}(h:P+lc r<=lc F)(Z:i<lc r)(v:Int):(spl F P r).set (P+i) v=spl F P (r.set i v):=by
 unfold spl;have Y:(F.take P).length=P:=by simp;omega
 rw[BG,CE,Jm _ _ om,Y,Nat.add_sub_cancel_left,List.set_append_left _ _ Z,CE]
def DV(r:List Int)(Z:List (Nat×Nat)):List Int:=Z.foldl (λr p=>r.set p.1 (p.2:Int)) r
theorem aaW(Z:List (Nat×Nat)):∀r:List Int,(DV r Z).length=lc r:=by
 induction Z with
 |nil=>intro r;rfl
 |cons k Z ih=>intro r;show(DV (r.set k.1 _) Z).length=_;rw[ih];simp
theorem abW(r:List Int)(Z:List (Nat×Nat))(p:Nat×Nat):DV r (Z++[p])=(DV r Z).set p.1 (p.2:Int):=by unfold DV;rw[FI];rfl
theorem AU.cell{g:Nat}{l:List Int}{W:Wa}(h:AU g l W){i:Nat}{v:Int}(Z:l[i]?=E v):W.cell? ⟨g,i,O⟩=E (R K v):=by rw[cell_of_row W g i _ _ _ h];simp[Z]
theorem AU.frozen{g:Nat}{l:List Int}{W:Wa}(h:AU g l W)(i:Nat):W.frozen? ⟨g,i,O⟩=M:=by have h2:W.heap[g]?=E (i7 (l.map (R K)).toArray 3 (0,0)):=h;simp[frozen?,h2]
theorem AU.lt{g:Nat}{l:List Int}{W:Wa}(h:AU g l W):g<W.heap.size:=(AD.1 h).1
theorem acr{β:Type}(g:Nat)(f:β->List Int):Own (λs W=>AU g (f s) W):=λs X Y row U N V=>by have Z:X.heap[g]?=E (i7 ((f s).map (R K)).toArray 3 (0,0)):=U;exact(N.block g U.lt (λe=>by obtain⟨o,ho,J⟩:=V g e.symm;rw[Z]at ho;cases ho;cases J)).trans Z
theorem aoG(w:Wa)(Ra P KB m c1 c2:Nat)(F:List Int)(ty:TypeId)(V:AU Ra F w)(N:P+m<=lc F)(J:KB+m<=lc F) :(Builtin.copy_ #[30,30] ty #[T (E ⟨Ra,P,O⟩) m c1,T (E ⟨Ra,KB,O⟩) m c2]).run ZP w=.ok (R K m) (w.setRow Ra ((spl F P ((F.drop KB).take m)).map (R K)).toArray):=by
 have Y:((F.drop KB).take m).length=m:=by simp;omega
 have h:=run_copy_row (P:=ZP) w 30 30 ty 3 Ra P m c1 ⟨Ra,KB,O⟩ m c2 ((F.map (Value.int .i64)).toArray) 3 (((F.drop KB).take m).map (Value.int .i64)) underlying30 kr V
  (by rw[BP,Y];exact(Nat.min_self m).symm)
  (λj v Z=>by
   rw[BU,Fo]at Z;obtain⟨x,X,rfl⟩:=Z;have U:j<m:=by have:=(AP.1 X).1;omega
   rw[MW U,Hm]at X;have e:(⟨Ra,KB,O⟩:Addr).add j=⟨Ra,KB+j,O⟩:=by unfold Addr.add;split<;>simp_all
   rw[e];exact V.cell X)
  (by rw[BP,Y];simp;omega)
  (λv Z=>by obtain⟨x,_,rfl⟩:=Be.1 Z;rfl)
 rw[h,BP,Y];unfold spl;rw[Y];simp[goInt]
theorem ajm(w:Wa){o:Oper}{a:Act}{KB:Act->Wa->Prop}{Q:Exit->Act->Wa->Prop}(d s:Operand)(t Z:TypeId)
  (ho:o.op=.call {callee:=.builtin .copy,args:=#[d,s],argTypes:=#[t,Z]}) (v u:Vk) (V:a.eval d=v) (Y:a.eval s=u) {v':Vk} {w':Wa}
  (X:(Builtin.copy_ #[t,Z] o.type #[v,u]).run ZP w=.ok v' w') (h:KB (a.put o.dst v') w'):o.wp ZP a w KB Q:=by
 unfold Oper.wp;simp only[execOp,ho,resolve,invoke,builtin,IN,IM,Result.andThen_ok,LI,BO,DE,V,Y,X];exact h
end Go.Proofs.YtaamacoicojhnaaGreat
