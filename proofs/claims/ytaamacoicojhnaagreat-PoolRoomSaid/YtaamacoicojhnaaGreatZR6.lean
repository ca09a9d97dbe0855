/- Proofs over the given program, part 6. -/
import Derived.Test.YtaamacoicojhnaaGreatZR5
set_option linter.unusedVariables false
set_option linter.unusedSimpArgs false
set_option maxRecDepth 100000
set_option maxHeartbeats 16000000
open Go.Proofs.Tryz
open Go.Proofs.Tryz renaming prog→ZP
open Go.World(cell? frozen?)
open Go.Value(int slice pointer bool)
open Go.IntKind(i64)
namespace Go.Proofs.YtaamacoicojhnaaGreat
open Go.RowKit Go.Sort
def AU(g:Nat)(l:List Int)(W:World):Prop:=W.heap[g]?=some (.cells (l.map (int i64)).toArray 3 (0,0))
def GE(n:Nat):Array Value:=Array.replicate n (int i64 0)
theorem Nc(n:Nat):madeCells (int i64 0).cells n=GE n:=by
 apply Array.ext
 ·simp[madeCells,GE]
 ·intro i h1 h2;simp[madeCells,GE,Value.cells,Nat.mod_one]
theorem aiH{T:Ay}{n i:Nat}(h:Dl T n i=none):∀k,i<=k->Dl T n k=none:=by
 intro k hk;obtain⟨d,rfl⟩:∃d,k=i+d:=⟨k-i,by omega⟩;clear hk
 induction d with
 |zero=>exact h
 |succ d ih=>
  show Dl T n (i+d+1)=none;unfold Dl;rw[ih]
  rfl
theorem akU{T:Ay}{Z:La}{i:Nat}(Y:i<=T.wrd.length)(h:Dl T Z.length i=none):nuO T Z=none:=by
 unfold nuO;rw[aiH h _ Y]
 rfl
theorem akc{Z:La}{l:List Int}{i:Nat}(h:Df Z l i=none):∀k,i<=k->Df Z l k=none:=by
 intro k hk;obtain⟨d,rfl⟩:∃d,k=i+d:=⟨k-i,by omega⟩;clear hk
 induction d with
 |zero=>exact h
 |succ d ih=>
  show Df Z l (i+d+1)=none;unfold Df;rw[ih]
  rfl
theorem Mh{Z:La}{l:List Int}:∀{i:Nat}{r:La},Df Z l i=some r->r.length=i
 |0,r,h=>by simp[Df]at h;simp[<-h]
 |i+1,r,h=>by
  unfold Df at h;obtain⟨r0,h0,h⟩:=Io.1 h;have Y:=Mh h0
  split at h
  ·split at h
   ·cases h
   ·obtain⟨p,X,rfl⟩:=Fo.1 h;simp[Y]
  ·cases h
theorem akq{P:Sv->List Int->Prop}{X:List Sv}{r:La}{v0:Sv}{U:List Int}(J:X.length=r.length)(h:∀(i:Nat)(v:Sv)(x:List Int),X[i]?=some v->r[i]?=some x->P v x)(h0:P v0 U) :∀(i:Nat)(v:Sv)(x:List Int),(X++[v0])[i]?=some v->(r++[U])[i]?=some x->P v x:=λi v x Z Y=>by
 rw[List.getElem?_append]at Z Y
 by_cases N:i<X.length
 ·rw[Lc N]at Z;rw[Lc om]at Y;exact h i v x Z Y
 ·rw[Lb N]at Z;rw[Lb om]at Y;have V:i-X.length=0:=by
   have:=(AP.1 Z).1;simp at this;omega
  rw[V]at Z;rw[<-J,V]at Y;simp at Z Y;subst Z Y;exact h0
theorem AU.new(W:World)(n:Nat):AU W.heap.size (List.replicate n 0) (W.alloc (.cells (GE n) 3)):=by unfold AU;rw[AT];simp[GE]
theorem agd(t:TV)(T:Ay)(g n:Nat)(J:La)(w:World)(hT:Tri w t T)(hR:GM g n J w)(hn:J.length=n)(aY:n<=400)(X:t.xn=n) :Calls ZP 277 #[.agg t.cells,slice (some ⟨g,0,none⟩) n n] w λe w'=>(∀ws,nuO T J=some ws->∃v c,e=.returned (.tuple #[slice v ws.length c,bool true])/\Wds w' v ws.length ws/\ws.length<=c)/\(nuO T J=none->e=.returned (.tuple #[slice none 0 0,bool false]))/\Bt w w':=by
 obtain⟨ua,un,uc,da,dn,dc,xa,xn,xc,ba,bn,bc⟩:=t;dsimp only at X
 replace X:=X.symm
 subst X;obtain⟨W,hW⟩:∃W,W=w.alloc (.cells #[slice ua un uc,slice da dn dc,slice xa n xc,slice ba bn bc] 150):=⟨_,rfl⟩;have hB:Bt w W:=by rw[hW];exact AL _ _
 have hO:Bx w.heap.size [.cells #[slice ua un uc,slice da dn dc,slice xa n xc,slice ba bn bc] 150] W:=by rw[hW];exact(Bx.nil _ w).snoc _ rfl
 have aJ:=hT.below hB;have c2:W.cell? ⟨w.heap.size,2,none⟩=some (slice xa n xc):=hO.cell (i:=0) rfl rfl;have aB:∀V:World,(Instr.makeSlice 30 (int i64 n) (int i64 n)).run ZP V=.ok (slice (some ⟨V.heap.size,0,none⟩) n n) (V.alloc (.cells (GE n) 3)):=λV=>by
  obtain⟨i0,hi,a8,B,a7⟩:=Ve JS;have h:=run_makeSlice (P:=ZP) (w:=V) 30 3 i0 (.int .i64 0) underlying30 hi a8 .i64 .i64 (n:Int) (n:Int) om om (by rw[B];omega) (by rw[a7];omega) om;rw[B]at h;have e1:(n:Int).toNat*1=n:=by omega
  rw[e1,Nc,Aa]at h;exact h
 go_enter func277,ntmps277;go_upto_region 1 with fail
 rw[<-hW];clear hW;go_upto_region 2 with fail
 clear aB;obtain⟨V,hV⟩:∃V,V=W.alloc (.cells (GE n) 3):=⟨_,rfl⟩;obtain⟨q,hq⟩:∃q,q=W.heap.size:=⟨_,rfl⟩;have hI:AU q (List.replicate n 0) V:=by rw[hV,hq];exact AU.new W n
 have Y:Bt W V:=by rw[hV];exact AL _ _
 have ar:=hO.below Y;have aN:V.cell? ⟨w.heap.size,2,none⟩=some (slice xa n xc):=ar.cell (i:=0) rfl rfl;rw[<-hV,<-hq];have HQ:=AA hq;clear hV hq;go_wp2
 go_loopw[7,19] (λm s wr=>∃(i:Nat)(l:List Int)(k:Nat),i<=n/\s=int i64 i/\m=int i64 k/\Hid (Dl T n i=some (l,(k:Int)))/\l.length=n/\Hid (l.countP (λx=>x != 0)=k)/\Hid (∀x∈l,0<=x/\x<n)/\AU q l wr/\Bt W wr) (λ_ s _=>n-(intOf s).toNat)
 case atStart=>
  refine⟨0,List.replicate n 0,0,AR _,rfl,rfl,rfl,by simp,by simp[Hid],?_,hI,Y⟩;intro x X;obtain⟨h0,rfl⟩:=List.mem_replicate.1 X;omega
 case round=>
  clear hI Y ar aN;obtain⟨i,l,k,b5,rfl,rfl,HS,am,HC,HE,hI,Y⟩:=hrel
  by_cases aC:i<n
  ·have aG:decide ((i:Int)<n)=true:=by simp;omega
   obtain⟨b0,o0,x,aH,z,cx,X⟩:=DG (aJ.wrd.below Y) aC;subst aH;have HX:=AA X;clear X
   by_cases h1:x=-1
   ·have af:Hid (Dl T n (i+1)=some (l,(k:Int))):=by
     unfold Hid Dl;rw[HS.out,EV,HX.out];simp[h1]
    subst h1;go_wp2
    go_roundw
    case rel=>exact⟨i+1,l,k,by omega,by go_num,rfl,af,am,HC,HE,hI,Y⟩
    case measure=>simp[intOf];omega
   ·by_cases h2:0<=x/\x<n/\i≠0/\(l[x.toNat]?).getD 0=0
    ·obtain⟨h3,h4,h5,h6⟩:=h2;obtain⟨Z,rfl⟩:∃Z:Nat,x=Z:=⟨x.toNat,by omega⟩;rw[Aa]at h6;have ao:Z<n:=by omega
     have I:Z<l.length:=by omega
     have z:l[Z]=0:=by rw[Ar I]at h6;exact h6
     have af:Hid (Dl T n (i+1)=some (l.set Z i,((k+1:Nat):Int))):=by unfold Hid Dl;rw[HS.out,EV,HX.out];dsimp only;rw[Lb h1,Lb (by rw[Aa,h6];omega),Aa];simp
     have aS:Hid ((l.set Z (i:Int)).countP (λx=>x != 0)=k+1):=by rw[Hid,List.countP_set I,HC.out,z];simp;omega
     have aR:Hid (∀x∈l.set Z (i:Int),0<=x/\x<n):=λx X=>by
      rcases List.mem_or_eq_of_mem_set X with h|rfl
      ·exact HE.out x h
      ·omega
     have aK:AU q (l.set Z i) (wr.setCell ⟨q,Z,none⟩ (int i64 i)):=by
      have:=AJ (i:=Z) hI (int i64 i);unfold AU
      simpa[Is]using this
     have aM:Bt W (wr.setCell ⟨q,Z,none⟩ (int i64 i)):=Y.setCell (by show W.heap.size<=q;exact Gq HQ.out.symm) _;have cq:wr.cell? ⟨q,Z,none⟩=some (int i64 0):=by rw[cell_of_row wr q Z _ _ _ hI];simp[I,z]
     have fq:wr.frozen? ⟨q,Z,none⟩=false:=by simp[frozen?,show wr.heap[q]?=_ from hI]
     have al:(l.set Z (i:Int)).length=n:=by simpa using am
     have d1:(((Z:Int))==-1)=false:=by simp
     have aZ:k<=n:=by have:=HC.out;have:=List.countP_le_length (p:=λx:Int=>x != 0) (l:=l);omega
     have d2:decide ((Z:Int)<0)=false:=by simp
     have d3:decide ((n:Int)<=(Z:Int))=false:=by simp;omega
     have d4:((i:Int)==0)=false:=by simp;omega
     have i2:(0:Int)<=(Z:Int):=by omega
     have i3:(Z:Int)<(n:Int):=by omega
     clear hI z h6;go_wp2
     go_roundw
     case rel=>exact⟨i+1,_,k+1,by omega,by go_num,by go_num,af,al,aS,aR,aK,aM⟩
     case measure=>simp[intOf];omega
    ·have HN:Hid (nuO T J=none):=by
      refine akU (i:=i+1) (by have h7:=hT.wrd.1;dsimp only at h7;omega) ?_;rw[hn];unfold Dl;rw[HS.out,EV,HX.out];dsimp only;rw[Lb h1,Lc]
      rcases Classical.em (x<0)with h3|h3
      ·exact .inl h3
      ·rcases Classical.em ((n:Int)<=x)with h4|h4
       ·exact .inr (.inl h4)
       ·rcases Classical.em (i=0)with h5|h5
        ·exact .inr (.inr (.inl h5))
        ·exact .inr (.inr (.inr λh6=>h2 ⟨by omega,by omega,h5,h6⟩))
     have a1:Bt w wr:=hB.trans (Y.mono hB.size);have d1:(x==-1)=false:=by simpa using h1
     by_cases h3:x<0
     ·have d2:decide (x<0)=true:=by simpa using h3
      clear h2 h3 h1;go_wp2;go_ret2;exact⟨λws h=>(by rw[HN.out]at h;cases h),λ_=>rfl,a1⟩
     ·have d2:decide (x<0)=false:=by simpa using h3
      by_cases h4:(n:Int)<=x
      ·have d3:decide ((n:Int)<=x)=true:=by simpa using h4
       clear h2 h3 h1 h4;go_wp2;go_ret2;exact⟨λws h=>(by rw[HN.out]at h;cases h),λ_=>rfl,a1⟩
      ·have d3:decide ((n:Int)<=x)=false:=by simpa using h4
       by_cases h5:i=0
       ·have d4:((i:Int)==0)=true:=by simpa using h5
        clear h2 h3 h1 h4 h5;go_wp2;go_ret2;exact⟨λws h=>(by rw[HN.out]at h;cases h),λ_=>rfl,a1⟩
       ·have d4:((i:Int)==0)=false:=by simpa using h5
        obtain⟨Z,rfl⟩:∃Z:Nat,x=Z:=⟨x.toNat,by omega⟩;have ao:Z<n:=by omega
        have I:Z<l.length:=by omega
        have ak:l[Z]≠0:=λe=>h2 ⟨by omega,by omega,h5,by rw[Aa,Ar I];exact e⟩;obtain⟨y,C⟩:∃y,l[Z]=y:=⟨_,rfl⟩;rw[C]at ak;have cq:wr.cell? ⟨q,Z,none⟩=some (int i64 y):=by rw[cell_of_row wr q Z _ _ _ hI];simp[I,C]
        have d5:(y != 0)=true:=by simpa using ak
        have i2:(0:Int)<=(Z:Int):=by omega
        have i3:(Z:Int)<(n:Int):=by omega
        clear h2 h3 h1 h4 C;go_wp2;go_ret2;exact⟨λws h=>(by rw[HN.out]at h;cases h),λ_=>rfl,a1⟩
  ·obtain rfl:i=n:=by omega
   have aG:decide ((i:Int)<i)=false:=by simp
   have ao:k<=i:=by have:=HC.out;have:=List.countP_le_length (p:=λx:Int=>x != 0) (l:=l);omega
   have b2:(0:Int)<=(k:Int):=by omega
   have b1:(k:Int)<=(i:Int):=by omega
   have ae:Hid (nuO T J=Df J l k):=by unfold Hid nuO;have h7:=hT.wrd.1;dsimp only at h7;rw[hn,h7,HS.out,EV,Aa]
   have H:Bt w wr:=hB.trans (Y.mono hB.size);have aA:q<wr.heap.size:=(AD.1 hI).1;obtain⟨ah,aa,aX,_,a2⟩:=hR.ex;have aD:g<w.heap.size:=(AD.1 aa).1;have ad:wr.heap[g]?=_:=(H.block g aD).trans aa;have aq:g<wr.heap.size:=(AD.1 ad).1;have av:=AA a2;have HI:=AA hI;have aP:=AA ad;clear a2 hI ad aa;obtain⟨i0,hi,a8,B,a7⟩:=Ve aj9;obtain⟨V2,aI⟩:∃V,V=wr:=⟨_,rfl⟩;subst aI;go_wp2
   go_loopw[10,12,56] (λaw _ a6 wq=>∃(j:Nat)(vs:List Sv)(r:La),j<=k/\a6=int i64 j/\wq.ownsRow V2.heap.size 32 1 aw j (vs.map svV)/\vs.length=j/\Hid (Df J l j=some r)/\Hid (∀(i:Nat)(v:Sv)(x:List Int),vs[i]?=some v->r[i]?=some x->Bys V2 v.1 v.2.1 x/\v.2.1<=v.2.2)/\Bt V2 wq) (λ_ _ a6 _=>k-(intOf a6).toNat)
   case atStart=>exact⟨0,[],[],AR _,rfl,BN _ _ _ _,rfl,rfl,(by intro i v x h;simp at h),AH _ _⟩
   case round=>
    obtain⟨j,vs,r,b4,rfl,D,ab,HW,ag,U⟩:=hrel
    by_cases b3:j<k
    ·have aF:decide ((j:Int)<k)=true:=by simp;omega
     have ap:j<l.length:=by omega
     obtain⟨y,C⟩:∃y,l[j]?=some y:=⟨l[j],by simp[ap]⟩;have aW:=HE.out y (AX C);have cj:wr.cell? ⟨q,j,none⟩=some (int i64 y):=by rw[cell_of_row wr q j _ _ _ ((U.block q aA).trans HI.out)];simp[C]
     have i2:(0:Int)<=(j:Int):=by omega
     have i3:(j:Int)<(k:Int):=by omega
     have aV:((j:Nat):Int).toNat=j:=by simp
     by_cases A:y=0
     ·subst A;have HZ:Hid (nuO T J=none):=by
       rw[Hid,ae.out];refine akc (i:=j+1) ?_ k om;unfold Df;rw[HW.out,EV,C];simp
      clear C;go_wp2;go_ret2;exact⟨λws h=>(by rw[HZ.out]at h;cases h),λ_=>rfl,H.trans (U.mono H.size)⟩
     ·have d1:(y==0)=false:=by simpa using A
      obtain⟨N,rfl⟩:∃N:Nat,y=N:=⟨y.toNat,by omega⟩;have aU:N<i:=by omega
      have ai:N<J.length:=by omega
      obtain⟨x,X⟩:∃x,J[N]?=some x:=⟨J[N],by simp[ai]⟩;obtain⟨⟨va,vn,vc⟩,hv⟩:∃v,ah[N]?=some v:=⟨ah[N]'om,by simp⟩;have HV:=av.out N _ _ hv X;have cg:wr.cell? ⟨g,N,none⟩=some (slice va vn vc):=by rw[cell_of_row wr g N _ _ _ ((U.block g aq).trans aP.out)];simp[hv,svV]
      have aO:Hid (Df J l (j+1)=some (r++[x])):=by
       unfold Hid Df;rw[HW.out,EV,C];dsimp only;rw[Lb A,Aa,X]
       rfl
      have aQ:Hid (∀(i:Nat)(v:Sv)(x1:List Int),(vs++[((va,vn,vc):Sv)])[i]?=some v->(r++[x])[i]?=some x1->Bys V2 v.1 v.2.1 x1/\v.2.1<=v.2.2):=
       akq (by rw[ab,Mh HW.out]) ag.out ⟨HV.1.below H,HV.2⟩
      have aj:Hid ((vs++[((va,vn,vc):Sv)]).length=j+1):=by simp[Hid,ab]
      have i4:(0:Int)<=(N:Int):=by omega
      have i5:(N:Int)<(i:Int):=by omega
      have az:=U.size;clear C X hv HV A
      go_wp2_with (at_builtin;refine wpList_append_own _ rfl _ _ 22 rfl V2.heap.size 32 i0 (.slice none 0 0) 1 24 underlying22 hi a8 B a7 rfl (by decide) _ _ _ rfl (D.alloc _) ⟨wr.heap.size,0,none⟩ 1 1 [svV (va,vn,vc)] rfl rfl (GI _ _ sm) (by simp[Value.oneCell']) (by unfold maxLen;omega) om (by simp;omega) ?_;intro v' w6 ac aE aT)
      have aL:Bt V2 w6:=(U.alloc az _).grown aE (by simp;omega) (λk e=>(D.lt k e).1)
      go_roundw
      case rel=>exact⟨j+1,_,_,by omega,by go_num,(by simpa using ac),aj,aO,aQ,aL⟩
      case measure=>simp[intOf];omega
    ·obtain rfl:j=k:=by omega
     have aF:decide ((j:Int)<j)=false:=by simp
     have au:=AA (Mh HW.out);obtain⟨va,vc,rfl,ax,ay⟩:=Co (enc:=svV) D;go_wp2;go_ret2;refine⟨λws h=>?_,λh=>?_,H.trans (U.mono H.size)⟩
     ·rw[ae.out,HW.out]at h;obtain rfl:=AK h;rw[au.out];exact⟨va,vc,rfl,⟨vs,ay,by rw[ab,au.out],λi v x hv X=>⟨(ag.out i v x hv X).1.below U,(ag.out i v x hv X).2⟩⟩,ax⟩
     ·rw[ae.out,HW.out]at h;cases h
structure apo(W:World)(g:Nat)(t:TV)(sp ws:La):Prop where
 ex:∃(sa:Option Addr)(sc:Nat)(wa:Option Addr)(wc:Nat),W.heap[g]?=some (.cells #[slice t.ua t.un t.uc,slice t.da t.dn t.dc,slice t.xa t.xn t.xc,slice t.ba t.bn t.bc,slice sa sp.length sc,slice wa ws.length wc] 378 (0,0))/\Wds W sa sp.length sp/\Wds W wa ws.length ws/\sp.length<=sc/\ws.length<=wc
theorem GM.wds{g n:Nat}{l:La}{W:World}(h:GM g n l W)(X:l.length=n):Wds W (some ⟨g,0,none⟩) n l:=by obtain⟨Z,h1,h2,h3,h4⟩:=h.ex;refine⟨Z,⟨h2,.inr ⟨g,0,rfl,(AD.1 h1).1,λj x Y=>?_⟩⟩,by omega,h4⟩;rw[cell_of_row W g (0+j) _ _ _ h1];simp[Y]
theorem GM.below{g n:Nat}{l:La}{W V:World}(h:GM g n l W)(X:Bt W V):GM g n l V:=by obtain⟨U,h1,h2,h3,h4⟩:=h.ex;exact⟨U,(X.block g (AD.1 h1).1).trans h1,h2,h3,λi v x Y Z=>⟨(h4 i v x Y Z).1.below X,(h4 i v x Y Z).2⟩⟩
theorem aoz{T:Ay}{Z:La}(h:spO T=some Z):Z.length=T.up.length/\T.up.length<=400/\T.wrd.length=T.up.length/\∀x∈Z,x.length<400:=by
 unfold spO at h
 split at h
 ·rename_i Y
  refine⟨Mv h,Y.2.1,Y.2.2.2.2,λx X=>?_⟩;have:=Ol h x X;omega
 ·cases h
theorem agp{Y:La}{l:List Int}:∀{i:Nat}{r:La},Df Y l i=some r->∀x∈r,x∈Y
 |0,r,h=>by unfold Df at h;obtain rfl:=AK h;simp
 |i+1,r,h=>by
  unfold Df at h;obtain⟨r0,h0,h⟩:=Io.1 h;have X:=agp h0
  split at h
  ·split at h
   ·cases h
   ·obtain⟨p,V,rfl⟩:=Fo.1 h;intro x Z
    rcases Bf.1 Z with Z|Z
    ·exact X x Z
    ·rw[Fq]at Z;subst Z;exact AX V
  ·cases h
theorem aiV{T:Ay}{n:Nat}:∀{i:Nat}{s:List Int×Int},Dl T n i=some s->s.2<=i
 |0,s,h=>by simp[Dl]at h;simp[<-h]
 |i+1,s,h=>by
  unfold Dl at h;obtain⟨Z,h0,h⟩:=Io.1 h;have Y:=aiV h0
  split at h
  ·split at h
   ·obtain rfl:=AK h;omega
   ·split at h
    ·cases h
    ·obtain rfl:=AK h;dsimp only;omega
  ·cases h
theorem aog{T:Ay}{Z ws:La}(h:nuO T Z=some ws):ws.length<=T.wrd.length/\∀x∈ws,x∈Z:=by unfold nuO at h;obtain⟨s,h0,h⟩:=Io.1 h;have:=aiV h0;have:=Mh h;exact⟨by omega,agp h⟩
theorem anv{fold:Bool}{ws:La}{m M:Nat}(h1:ws.length<=m)(h2:∀x∈ws,x.length<=M):(Ad fold ws).length<=m*M:=by
 refine AS ?_ (IO M h1);clear h1
 revert h2
 refine IT (P:=λws=>(∀x∈ws,x.length<=M)->(Ad fold ws).length<=ws.length*M) (by simp[Ad]) (λl x Z h=>?_) ws;have:=Z (λy Y=>h y (by simp[Y]));have:=h x sm;rw[abQ,List.length_append,Ks,Ew,List.length_append,OK,Nat.add_mul];omega
theorem agS(t:TV)(T:Ay)(w:World)(hT:Tri w t T)(hb:t.un<=140737488351232) :Calls ZP 252 #[.agg t.cells] w λe w'=>(∀N ws,CI T=some (N,ws)->∃g,e=.returned (.tuple #[pointer (some ⟨g,0,none⟩),bool true])/\apo w' g t N ws/\w.heap.size<=g)/\(CI T=none->e=.returned (.tuple #[pointer none,bool false]))/\Bt w w':=by
 have av:=AA hT;obtain⟨ua,un,uc,da,dn,dc,xa,xn,xc,ba,bn,bc⟩:=t;dsimp only at hb;obtain⟨W,hW⟩:∃W,W=w.alloc (.cells #[slice ua un uc,slice da dn dc,slice xa xn xc,slice ba bn bc] 150):=⟨_,rfl⟩;have hB:Bt w W:=by rw[hW];exact AL _ _
 have hO:Bx w.heap.size [.cells #[slice ua un uc,slice da dn dc,slice xa xn xc,slice ba bn bc] 150] W:=by rw[hW];exact(Bx.nil _ w).snoc _ rfl
 have ab:=hT.below hB;have cells:∀V,Bt W V->V.cell? ⟨w.heap.size,0,none⟩=some (slice ua un uc)/\V.cell? ⟨w.heap.size,1,none⟩=some (slice da dn dc)/\V.cell? ⟨w.heap.size,2,none⟩=some (slice xa xn xc)/\V.cell? ⟨w.heap.size,3,none⟩=some (slice ba bn bc):=λV hV=>by have h:=hO.below hV;exact⟨h.cell (i:=0) rfl rfl,h.cell (i:=0) rfl rfl,h.cell (i:=0) rfl rfl,h.cell (i:=0) rfl rfl⟩
 have HC:=AA cells;clear cells hO;obtain⟨c0,c1,c2,c3⟩:=HC.out W (AH _ _);have k1:=AA (ajf _ T W ab hb);go_enter func252,ntmps252;go_upto_region 1 with fail
 rw[<-hW];clear hW
 go_wp2_with fail
 refine k1.out.mono ?_;rintro e w1 ⟨hs,hn,C⟩
 cases Z:spO T with
 |none=>
  obtain rfl:=hn Z;have A:Hid (CI T=none):=by unfold Hid CI;rw[Z];rfl
  clear hs hn Z;go_wp2;go_ret2;exact⟨λN ws h=>(by rw[A.out]at h;cases h),λ_=>rfl,hB.trans (C.mono hB.size)⟩
 |some N=>
  obtain⟨g,rfl,hg,hR⟩:=hs N Z;obtain⟨o1,o2,o3,o4⟩:=aoz Z;have ai:=AA Z;clear hs hn Z c0 c1 c2 c3;have au:T.up.length=un:=hT.up.1;have ar:T.wrd.length=xn:=hT.wrd.1;obtain⟨n,a8⟩:∃n,N.length=n:=⟨_,rfl⟩;rw[a8]at hR⊢;obtain⟨c0,c1,c2,c3⟩:=HC.out w1 C;have am:=ab.below C;have k2:=AA (agd _ T g n N w1 am hR a8 om (by show xn=n;omega))
  go_wp2_with fail
  refine k2.out.mono ?_;rintro e w2 ⟨hs,hn,aa⟩;have J:Bt W w2:=C.trans (aa.mono C.size)
  cases Y:nuO T N with
  |none=>
   obtain rfl:=hn Y;have A:Hid (CI T=none):=by unfold Hid CI;rw[ai.out,EV,Y];rfl
   clear hs hn Y;go_wp2;go_ret2;exact⟨λN ws h=>(by rw[A.out]at h;cases h),λ_=>rfl,hB.trans (J.mono hB.size)⟩
  |some ws=>
   obtain⟨v,c,rfl,s,ac⟩:=hs ws Y;obtain⟨p1,p2⟩:=aog Y;have ao:=AA Y;clear hs hn Y c0 c1 c2 c3;obtain⟨c0,c1,c2,c3⟩:=HC.out w2 J;have ak:ws.length<=400:=by omega
   have a7:∀x∈ws,x.length<=400:=λx hx=>DP (o4 x (p2 x hx));have ad:(Ad false ws).length<=1000000:=AS (anv ak a7) om;obtain⟨m,hm⟩:∃m,ws.length=m:=⟨_,rfl⟩;rw[hm]at s ac⊢;have H:Hid (CI T=if(An false ws&&eqT (AG ws) T)=true then some (N,ws) else none):=by unfold Hid CI;rw[ai.out,EV,ao.out,EV]
   cases hr:An false ws with
   |false=>
    have k3:=AA (amr false v m c ws w2 s om (λx hx=>by have:=a7 x hx;omega) ad hr);have A:Hid (CI T=none):=by unfold Hid;rw[H.out,hr];rfl
    clear hr
    go_wp2_with fail
    refine k3.out.mono ?_;rintro e U ⟨rfl,D⟩;have a1:Bt W U:=J.trans (D.mono J.size);go_wp2;go_ret2;have X:Bt w U:=hB.trans (a1.mono hB.size);exact⟨λN ws h=>(by rw[A.out]at h;cases h),λ_=>rfl,X.alloc X.size _⟩
   |true=>
    have k3:=AA (abH false v m c ws w2 s om (λx hx=>by have:=a7 x hx;omega) ad hr);have nn:=NE hr;have aj:=AA hr;clear hr
    go_wp2_with fail
    refine k3.out.mono ?_;rintro e U ⟨u,rfl,hU,D⟩;have a1:Bt W U:=J.trans (D.mono J.size);have al:u.un<=400/\u.dn<=400/\u.xn<=400/\u.bn<=400:=by obtain⟨l1,l2,l3,l4⟩:=aeh (ws:=ws);have:=hU.up.1;have:=hU.dep.1;have:=hU.wrd.1;have:=hU.byt.1.1;omega
    obtain⟨va,vn,vc,ea,en,ec,ya,yn,yc,fa,fn,fc⟩:=u;dsimp only at al;go_upto_region 8 with fail
    obtain⟨I,z⟩:∃I,I=U.alloc (.cells #[slice va vn vc,slice ea en ec,slice ya yn yc,slice fa fn fc] 150):=⟨_,rfl⟩;have y:Bt U I:=by rw[z];exact AL _ _
    have B:Bx U.heap.size [.cells #[slice va vn vc,slice ea en ec,slice ya yn yc,slice fa fn fc] 150] I:=by rw[z];exact(Bx.nil _ U).snoc _ rfl
    rw[<-z];clear z;have j:Bt W I:=a1.trans (y.mono a1.size);have q0:I.cell? ⟨U.heap.size,0,none⟩=some (slice va vn vc):=B.cell (i:=0) rfl rfl;have q1:I.cell? ⟨U.heap.size,1,none⟩=some (slice ea en ec):=B.cell (i:=0) rfl rfl;have q2:I.cell? ⟨U.heap.size,2,none⟩=some (slice ya yn yc):=B.cell (i:=0) rfl rfl;have q3:I.cell? ⟨U.heap.size,3,none⟩=some (slice fa fn fc):=B.cell (i:=0) rfl rfl;obtain⟨c0,c1,c2,c3⟩:=HC.out I j;have k4:=AA (aiD _ _ (AG ws) T I (hU.below y) (ab.below j) (by dsimp only;omega));clear B hU
    go_wp2_with fail
    refine k4.out.mono ?_;rintro e w5 ⟨rfl,af⟩;have ah:Bt W w5:=j.trans (af.mono j.size);have X:Bt w w5:=hB.trans (ah.mono hB.size);clear c0 c1 c2 c3 q0 q1 q2 q3;obtain⟨c0,c1,c2,c3⟩:=HC.out w5 ah
    cases he:eqT (AG ws) T with
    |false=>
     have A:Hid (CI T=none):=by unfold Hid;rw[H.out,aj.out,he];rfl
     clear he;go_wp2;go_ret2;exact⟨λN ws h=>(by rw[A.out]at h;cases h),λ_=>rfl,X⟩
    |true=>
     have A:Hid (CI T=some (N,ws)):=by unfold Hid;rw[H.out,aj.out,he];rfl
     clear he;have a2:=AA a8;have HM:=AA hm;go_wp2;go_ret2;refine⟨λaq ap h=>?_,λh=>(by rw[A.out]at h;cases h),X.alloc X.size _⟩;rw[A.out]at h
     injection h with h
     injection h with e1 e2
     subst e1 e2;have ae:Bt w5 (w5.alloc (.cells #[slice ua un uc,slice da dn dc,slice xa xn xc,slice ba bn bc,slice (some ⟨g,0,none⟩) n n,slice v m c] 378)):=AL _ _;have a6:Bt w2 w5:=D.trans ((y.trans (af.mono y.size)).mono D.size);have ag:Bt w1 w5:=aa.trans (a6.mono aa.size);refine⟨_,rfl,⟨_,n,_,c,by rw[a2.out,HM.out];exact AT _ _,?_,?_,by rw[a2.out];exact AC _,by rw[HM.out];exact ac⟩,X.size⟩
     ·rw[a2.out];exact((hR.below ag).wds a2.out).below ae
     ·rw[HM.out];exact(s.below a6).below ae
theorem amc(t:TV)(T:Ay)(Z ws:La)(w:World)(V:Tri w t T)(X:t.un<=140737488351232)(Y:CI T=some (Z,ws)) :Calls ZP 252 #[.agg t.cells] w λe w'=>∃g,e=.returned (.tuple #[pointer (some ⟨g,0,none⟩),bool true])/\apo w' g t Z ws/\Bt w w':=(agS t T w V X).mono λe w' ⟨h1,_,h3⟩=>(h1 Z ws Y).elim λg ⟨N,U,_⟩=>⟨g,N,U,h3⟩
theorem ao0(t:TV)(T:Ay)(w:World)(X:Tri w t T)(Y:t.un<=140737488351232)(Z:CI T=none) :Calls ZP 252 #[.agg t.cells] w λe w'=>e=.returned (.tuple #[pointer none,bool false])/\Bt w w':=(agS t T w X Y).mono λe w' ⟨_,h2,h3⟩=>⟨h2 Z,h3⟩
theorem abf{T:Ay}{Z ws:La}(h:CI T=some (Z,ws)):Z.length<=400/\ws.length<=400/\Z.length=T.up.length:=by obtain⟨h1,rfl,rfl⟩:=Fy.1 h;have:=NE h1;have:=OS h1;exact⟨by omega,by omega,aeh.1.symm⟩
def JF(T:Ay):Bool:=(CI T).isSome
theorem ai5(t:TV)(T:Ay)(w:World)(D:Tri w t T)(H:t.un<=140737488351232) :Calls ZP 215 #[.agg t.cells] w λe w'=>e=.returned (bool (JF T))/\Bt w w':=by
 obtain⟨ua,un,uc,da,dn,dc,xa,xn,xc,ba,bn,bc⟩:=t;dsimp only at H;obtain⟨W,hW⟩:∃W,W=w.alloc (.cells #[slice ua un uc,slice da dn dc,slice xa xn xc,slice ba bn bc] 150):=⟨_,rfl⟩;have hB:Bt w W:=by rw[hW];exact AL _ _
 have J:Bx w.heap.size [.cells #[slice ua un uc,slice da dn dc,slice xa xn xc,slice ba bn bc] 150] W:=by rw[hW];exact(Bx.nil _ w).snoc _ rfl
 have X:=D.below hB;have c0:W.cell? ⟨w.heap.size,0,none⟩=some (slice ua un uc):=J.cell (i:=0) rfl rfl;have c1:W.cell? ⟨w.heap.size,1,none⟩=some (slice da dn dc):=J.cell (i:=0) rfl rfl;have c2:W.cell? ⟨w.heap.size,2,none⟩=some (slice xa xn xc):=J.cell (i:=0) rfl rfl;have c3:W.cell? ⟨w.heap.size,3,none⟩=some (slice ba bn bc):=J.cell (i:=0) rfl rfl;have a1:T.up.length=un:=D.up.1
 cases Z:CI T with
 |none=>
  have B:Hid (JF T=false):=by unfold Hid JF;rw[Z];rfl
  have I:=AA (ao0 _ T W X H Z);clear Z D X;go_enter func215,ntmps215;go_upto_region 1 with fail
  rw[<-hW];clear hW
  go_wp2_with fail
  refine I.out.mono ?_;rintro e U ⟨rfl,Y⟩;have V:Bt w U:=hB.trans (Y.mono hB.size);go_wp2;go_ret;exact⟨(by rw[B.out];rfl),V⟩
 |some r=>
  obtain⟨A,ws⟩:=r;have B:Hid (JF T=true):=by unfold Hid JF;rw[Z];rfl
  have I:=AA (amc _ T A ws W X H Z);obtain⟨x,z,y⟩:=abf Z;clear Z;go_enter func215,ntmps215;go_upto_region 1 with fail
  rw[<-hW];clear hW
  go_wp2_with fail
  refine I.out.mono ?_;rintro e U ⟨g,rfl,C,Y⟩;obtain⟨j,sc,s,wc,N,hS,a6,a2,h⟩:=C.ex;dsimp only at N;have V:Bt w U:=hB.trans (Y.mono hB.size);have g0:U.cell? ⟨g,0,none⟩=some (slice ua un uc):=by simp[cell?,N]
  have g4:U.cell? ⟨g,4,none⟩=some (slice j A.length sc):=by simp[cell?,N]
  have g5:U.cell? ⟨g,5,none⟩=some (slice s ws.length wc):=by simp[cell?,N]
  go_wp2;go_ret;exact⟨(by rw[B.out];rfl),V⟩
section
open Go Go.RowKit Go.Sort
def OE{β:Type}(B:Nat)(Pb:Nat->World->World->Prop)(J:β->World->Prop):Prop:=
 ∀(s:β)(W Z:World)(row:Option Nat),J s W->W.grownBy Z row->(∀r,row=some r->(B<=r/\∃o:Obj,W.heap[r]?=some o/\o.isWalk=true)∨Pb r W Z)->J s Z
def BT{β:Type}(B:Nat)(Pb:Nat->World->World->Prop)(I:β->World->Prop):Prop:=
 ∀(s:β)(W Z:World)(row:Option Nat),I s W->W.grownBy Z row->(∀r,row=some r->(B<=r/\∃o:Obj,W.heap[r]?=some o/\o.isCells=false)∨Pb r W Z)->I s Z
def Hi{α:Type}(F:Fence)(n:Nat)(P:Program)(g:Nat)(I:Array Value)(X:α->Array Value)(D:World->World->Prop)(Pb:Nat->World->World->Prop)(S:List α->World->Prop)(H:List α->Prop)(N:Nat)(w:World):Prop:=
 ∀(l:Nat) (J U:List α->World->Prop) (W:World),Below w.heap.size w W->OE W.heap.size Pb J->OE W.heap.size Pb U->
  (∀Z x V,J Z V->Z.length<N->YieldAt F (n-1) P l (X x) V λe Y=>(e=.returned (bool true)/\J (Z++[x]) Y/\D V Y)∨(e=.returned (bool false)/\U (Z++[x]) Y))->
  J [] W->
  CallsIn F n P g (#[.func (.yield l) #[] #[]]++I) W λe Y=>(∃v,e=.returned v)/\((∃xs,S xs Y/\J xs Y)∨(∃Z,H Z/\U Z Y))
theorem BT.and{β:Type}{B:Nat}{Pb:Nat->World->World->Prop}{I U:β->World->Prop}(h:BT B Pb I)(N:BT B Pb U):BT B Pb (λs W=>I s W/\U s W):=λs W V row Z X Y=>⟨h s W V row Z.1 X Y,N s W V row Z.2 X Y⟩
theorem BT.below{β:Type}{B Z:Nat}{Pb:Nat->World->World->Prop}{w:World}(hB:Z<=B)(U:Z<=w.heap.size)(J:∀r W X,Pb r W X->Z<=r):BT B Pb (λ(_:β) W=>Below Z w W):=λs W X row Y N V=>
 Y.grown N (AS U Y.size) (λk e=>by rcases V k e with⟨h,_⟩|h;exact AS hB h;exact J k _ _ h)
theorem BT.size{β:Type}(B:Nat)(Pb:Nat->World->World->Prop)(n:Nat):BT B Pb (λ(_:β) W=>n<=W.heap.size):=λs W X row Z Y _=>AS Z Y.size
theorem BT.block{β:Type}(B:Nat)(Pb:Nat->World->World->Prop)(b:Nat)(cs:β->Array Value)(t:TypeId)(fr:Nat×Nat)(J:∀W X,¬Pb b W X):BT B Pb (λs W=>W.heap[b]?=some (.cells (cs s) t fr)):=λs W X row Y U V=>
 (U.block b (AD.1 Y).1 (λe=>by
  rcases V b e.symm with⟨_,o,ho,N⟩|h
  ·have Z:W.heap[b]?=some (.cells (cs s) t fr):=Y;rw[Z]at ho;cases ho;cases N
  ·exact J _ _ h)).trans Y
theorem Jf{β:Type}{B:Nat}{Pb:Nat->World->World->Prop}{J:β->World->Prop}(h:OE B Pb J){s:β}{w w':World}(Z:J s w)(Y:Bt w w'):J s w':=h s w w' none Z (Km Y) (λr e=>by cases e)
theorem aet{β:Type}{B:Nat}{Pb:Nat->World->World->Prop}{J:β->World->Prop}(h:OE B Pb J){s:β}{w:World}(Y:J s w){p:Nat}(i:Nat)(u:Value)(Z:Pb p w (w.setCell ⟨p,i,none⟩ u)):J s (w.setCell ⟨p,i,none⟩ u):=h s w _ (some p) Y ⟨rfl,rfl,rfl,by simp,λk _ hk=>AQ w ⟨p,i,none⟩ u k (λe=>hk (by rw[e]))⟩ (λr e=>by cases e;exact .inr Z)
def ajr(A B:World):Prop:=B.heap.size=A.heap.size/\∀(k:Nat)(cs:Array Value)(t:TypeId)(f:Nat×Nat),A.heap[k]?=some (Obj.cells cs t f)->B.heap[k]?=some (Obj.cells cs t f)
theorem NL{P:Program}{α:Type}{g:Operand}{ps:Array Tmp}{assign body:Code}{Q:Exit->Act->World->Prop}{a:Act}{w:World}{gf:Nat}{lb:Array Value}
  (hg:a.eval g=.func (.func gf) #[] lb) (eg:∀args w,(callFunc gf args).run P w=.ok (.enter gf args) w)
  {a8:α->Array Value} {Kp:World->World->Prop} {Pb:Nat->World->World->Prop} {S:List α->World->Prop} {Sp:List α->Prop} {N:Nat} (ak:Hi Fence.wide 8 P gf lb a8 Kp Pb S Sp N w) (aC:∀r W W',Pb r W W'->r<w.heap.size) (hSk:∀(xs:List α)(W:World)(l:Nat)(o o':Obj),w.heap.size<=l->W.heap[l]?=some o->o.isCells=false->S xs W->S xs (W.putObj l o'))
  (aj:∀{A B C:World},Kp A B->Kp B C->Kp A C) (hKb:∀(W:World)(l:Nat)(o o':Obj),w.heap.size<=l->W.heap[l]?=some o->o.isCells=false->o.isWalk=false->Kp W (W.putObj l o')) (ar:∀x,(a8 x).size=ps.size)
  (I:List α->World->Prop) (Ix:Code->List α->World->Prop) (hI:BT w.heap.size Pb I) (hIx:∀c,BT w.heap.size Pb (Ix c)) (h0:I [] w) (a₁:α->World->Act) (wA:α->World->World) (hwA:∀x W,Bt W (wA x W)) (hKg:∀x W,w.heap.size<=W.heap.size->Kp W (wA x W))
  (hassign:∀(l:Nat) (x:α) (W:World) (K:Act->World->Prop),K (a₁ x W) (wA x W)->
   assign.wpIn (Fence.wide.inRound l) 7 P (Exit.then K (λ_ _ _=>False)) {tmps:=(ps.zip (a8 x)).foldl (λt (p,v)=>t.setIfInBounds p v) a.tmps,defers:=[]} W)
  (hbody:∀(l:Nat)(Y:List α)(x:α)(W V:World),ajr (wA x W) V->I Y V->Y.length<N->body.wpIn (Fence.wide.inRound l) 7 P (ownPostG w.heap.size Kp I Ix (Y++[x]) V) (a₁ x W) V)
  (hdone:∀(D:Nat)(xs:List α)(W:World),w.heap.size<=D->S xs W->I xs W->W.heap[D]?=some (.deferred (some []))->Q .normal {a with defers:={target:=.collected D,args:=#[]}::a.defers} W)
  (hstop:∀(D:Nat)(c:Code)(Y:List α)(W:World),w.heap.size<=D->Sp Y->Ix c Y W->W.heap[D]?=some (.deferred (some []))->c.wp P Q {a with defers:={target:=.collected D,args:=#[]}::a.defers} W) :
  (Code.rangeFunc g ps assign body).wp P Q a w:=by
 refine(wpIn_wide (n:=9)).1 (wpIn_rangeFunc λfn aA=>?_)
 let rec_:LoopState->Option Code->Loop:=λst pe=>{state:=st,pending:=pe,fn,tmps:=a.tmps,params:=ps,assign,body,defers:=w.heap.size}
 have U:∀st pe,rec_ st pe={state:=st,pending:=pe,fn,tmps:=a.tmps,params:=ps,assign,body,defers:=w.heap.size}:=λ_ _=>rfl
 clear_value rec_
 have ac:∀{J:List α->World->Prop},BT w.heap.size Pb J->∀{s:List α}{W:World}{q:Nat}{o:Obj}(o':Obj),J s W->w.heap.size<=q->W.heap[q]?=some o->o.isCells=false->J s (W.putObj q o'):=λhJ _ W q o o' hs hq ho hc=>
  hJ _ _ _ _ hs (grownBy_putObj' W q o') (λr e=>by cases e;exact .inl ⟨hq,o,ho,hc⟩)
 have al:∀{J:List α->World->Prop},BT w.heap.size Pb J->∀{s:List α}{W:World}(o:Obj),J s W->J s (W.alloc o):=λhJ _ W o hs=>hJ _ _ _ none hs (MR W o none) (λr e=>by cases e);obtain⟨W1,ab⟩:∃W1,(w.alloc (.deferred (some []))).alloc (.loop (rec_ .ready none))=W1:=⟨_,rfl⟩;have aD:W1.heap[w.heap.size+1]?=some (.loop (rec_ .ready none)):=by rw[<-ab];have:=AT (w.alloc (.deferred (some []))) (.loop (rec_ .ready none));rwa[DN]at this
 have aF:W1.heap[w.heap.size]?=some (.deferred (some [])):=by rw[<-ab];exact(Bg _ _ _ sm).trans (AT w _)
 have aG:I [] W1:=by rw[<-ab];exact al hI _ (al hI _ h0)
 have aB:Bt w W1:=by rw[<-ab];exact((AH _ w).alloc (AC _) _).alloc sm _
 have aI:W1.heap.size=w.heap.size+1+1:=by rw[<-ab];simp
 refine⟨w.heap.size+1,[{target:=.collected w.heap.size,args:=#[]}],W1,{target:=.fn (.func gf) lb,args:=#[.func (.yield (w.heap.size+1)) #[] #[]]},W1,gf,
  #[.func (.yield (w.heap.size+1)) #[] #[]]++lb,W1,?_,?_,?_,?_,λ_=>(by decide),?_⟩
 ·rw[<-ab,U];exact run_enterLoop_outer _ _ _ _ _
 ·simp only[resolve,hg];simp[go_sem]
 ·intro f' aJ;trivial
 ·simp[invoke,go_sem,eg]
 ·have z:∀{A B:World}{row:Option Nat},A.grownBy B row->(∀r,row=some r->(W1.heap.size<=r/\∃o:Obj,A.heap[r]?=some o/\o.isWalk=true)∨Pb r A B)->∀q,w.heap.size<=q->q<W1.heap.size->∀o,A.heap[q]?=some o->B.heap[q]?=some o:=λa1 y q h1 h2 o ho=>
   (a1.block q (AD.1 ho).1 (λe=>by
    rcases y q e.symm with⟨h,_⟩|h
    ·omega
    ·have:=aC q _ _ h;omega)).trans ho
  have own:∀{A B:World}{row:Option Nat},(∀r,row=some r->(W1.heap.size<=r/\∃o:Obj,A.heap[r]?=some o/\o.isWalk=true)∨Pb r A B)->∀r,row=some r->(w.heap.size<=r/\∃o:Obj,A.heap[r]?=some o/\o.isCells=false)∨Pb r A B:=λy r e=>by
   rcases y r e with⟨h,o,ho,hw⟩|h
   ·exact .inl ⟨by omega,o,ho,Obj.not_cells_of_walk hw⟩
   ·exact .inr h
  refine (ak (w.heap.size+1)
   (λY W=>I Y W/\W.heap[w.heap.size+1]?=some (.loop (rec_ .ready none))/\W.heap[w.heap.size]?=some (.deferred (some [])))
   (λY W=>∃c,Ix c Y W/\W.heap[w.heap.size+1]?=some (.loop (rec_ .done (some c)))/\W.heap[w.heap.size]?=some (.deferred (some [])))
   W1 aB
   (λs A B row hs a1 y=>⟨hI s A B row hs.1 a1 (own y),z a1 y _ om om _ hs.2.1,z a1 y _ om om _ hs.2.2⟩)
   (λs A B row hs a1 y=>by obtain⟨c,hc,hl,hk⟩:=hs;exact⟨c,hIx c s A B row hc a1 (own y),z a1 y _ om om _ hl,z a1 y _ om om _ hk⟩)
   ?_ ⟨aG,aD,aF⟩).mono ?_
  ·rintro Y x W ⟨hi,hl,hk⟩ ao;have au:w.heap.size+1<W.heap.size:=(AD.1 hl).1;have hy:=run_yield (P:=P) (args:=a8 x) hl (by rw[U];exact ar x);rw[U]at hy;obtain⟨WA,af⟩:∃X,wA x W=X:=⟨_,rfl⟩;have ai:Bt W WA:=by rw[<-af];exact hwA x W
   have ad:WA.heap[w.heap.size+1]?=some (.loop (rec_ .ready none)):=(ai.block _ au).trans hl;have aw:WA.heap[w.heap.size]?=some (.deferred (some [])):=(ai.block _ om).trans hk;have az:I Y WA:=hI _ _ _ none hi (Km ai) (λr e=>by cases e);have aE:Kp W WA:=by rw[<-af];exact hKg x W om
   have am:w.heap.size+1<WA.heap.size:=(AD.1 ad).1;refine⟨fn,_,assign,body,hy,roundIn_of_wpIn aA (hassign _ x W _ ?_)⟩;rw[af];refine⟨_,run_beginRound ad (by rw[U]),?_⟩;obtain⟨V,hV⟩:∃V,WA.putObj (w.heap.size+1) (.loop {rec_ .ready none with state:=.busy})=V:=⟨_,rfl⟩;rw[hV];have av:V.heap[w.heap.size+1]?=some (.loop {rec_ .ready none with state:=.busy}):=by rw[<-hV];exact apF am
   have ax:V.heap[w.heap.size]?=some (.deferred (some [])):=by rw[<-hV];exact(Cm om).trans aw
   have aq:Kp W V:=by rw[<-hV];exact aj aE (hKb _ _ _ _ om ad rfl rfl)
   have ay:I Y V:=by rw[<-hV];exact ac hI _ az om ad rfl
   have aH:ajr (wA x W) V:=by
    rw[af,<-hV];refine⟨by simp[World.putObj],λk cs t f hc=>(Cm (λe=>?_)).trans hc⟩;rw[e,ad]at hc
    cases hc
   refine wpIn_mono (hbody _ Y x W V aH ay ao) ?_;have ae:∀(Z:Option Code) (H:World),KeepsFrom w.heap.size V H->
     (Instr.endRound (w.heap.size+1) Z).run P H=.ok (bool Z.isNone) (H.putObj (w.heap.size+1) (.loop (rec_ (if Z.isNone then .ready else .done) Z)))/\
     H.heap[w.heap.size+1]?=some (.loop {rec_ .ready none with state:=.busy})/\
     (H.putObj (w.heap.size+1) (.loop (rec_ (if Z.isNone then .ready else .done) Z))).heap[w.heap.size+1]?=some (.loop (rec_ (if Z.isNone then .ready else .done) Z))/\
     (H.putObj (w.heap.size+1) (.loop (rec_ (if Z.isNone then .ready else .done) Z))).heap[w.heap.size]?=some (.deferred (some [])):=λZ H aa=>by
    have a2:=aa.same _ _ om av rfl;have j:=aa.same _ _ (AC _) ax rfl;have ag:=run_endRound (P:=P) Z a2;rw[U]at ag;refine⟨?_,a2,apF (AD.1 a2).1,(Cm om).trans j⟩;rw[U];exact ag
   have a6:∀(c:Code)(H:World),KeepsFrom w.heap.size V H->Ix c (Y++[x]) H->∃(c':Code),Ix c' (Y++[x]) (H.putObj (w.heap.size+1) (.loop (rec_ .done (some c))))/\c'=c:=λc H aa ah=>by obtain⟨_,a2,_,_⟩:=ae (some c) H aa;exact⟨c,ac (hIx _) _ ah om a2 rfl,rfl⟩
   rintro e a3 H hp
   cases e with
   |normal=>
    obtain⟨aa,ap,ah⟩:=hp;obtain⟨y,a2,a7,j⟩:=ae none H aa;exact⟨_,_,y,.inl ⟨rfl,⟨ac hI _ ah om a2 rfl,a7,j⟩,aj (aj aq ap) (hKb _ _ _ _ om a2 rfl rfl)⟩⟩
   |ret=>
    obtain⟨y,_,a7,j⟩:=ae (some .ret) H hp.1;obtain⟨_,h,rfl⟩:=a6 .ret H hp.1 hp.2;exact⟨_,_,y,.inr ⟨rfl,_,h,a7,j⟩⟩
   |exit id=>
    obtain⟨y,_,a7,j⟩:=ae (some (.exit id)) H hp.1;obtain⟨_,h,rfl⟩:=a6 (.exit id) H hp.1 hp.2;exact⟨_,_,y,.inr ⟨rfl,_,h,a7,j⟩⟩
   |goto t=>
    obtain⟨y,_,a7,j⟩:=ae (some (.goto t)) H hp.1;obtain⟨_,h,rfl⟩:=a6 (.goto t) H hp.1 hp.2;exact⟨_,_,y,.inr ⟨rfl,_,h,a7,j⟩⟩
   |panic ch=>exact hp.elim
   |outgrown=>exact hp.elim
  ·rintro e W2 ⟨⟨v,rfl⟩,(⟨xs,hS,hi,hl,hk⟩|⟨Y,hSp,c,hi,hl,hk⟩)⟩
   ·exact⟨none,_,by have:=run_endLoop (P:=P) hl (by rw[U];simp);rw[U]at this;exact this,hdone _ xs _ (AC _) (hSk _ _ _ _ _ om hl rfl hS) (ac hI _ hi om hl rfl) ((Cm om).trans hk)⟩
   ·exact⟨some c,_,by have:=run_endLoop (P:=P) hl (by rw[U];simp);rw[U]at this;exact this,wpIn_wide.2 (hstop _ c Y _ (AC _) hSp (ac (hIx c) _ hi om hl rfl) ((Cm om).trans hk))⟩
end
section
open Go Go.RowKit Go.Sort
def OF{β:Type}(B:Nat)(Pb:Nat->Prop)(J:β->World->Prop):Prop:=
 ∀(s:β)(W Z:World)(row:Option Nat),J s W->W.grownBy Z row->(∀r,row=some r->(B<=r/\∃o:Obj,W.heap[r]?=some o/\o.isWalk=true)∨Pb r)->J s Z
def BL{β:Type}(B:Nat)(Pb:Nat->Prop)(I:β->World->Prop):Prop:=
 ∀(s:β)(W Z:World)(row:Option Nat),I s W->W.grownBy Z row->(∀r,row=some r->(B<=r/\∃o:Obj,W.heap[r]?=some o/\o.isCells=false)∨Pb r)->I s Z
def abI{α:Type}(F:Fence)(n:Nat)(P:Program)(g:Nat)(I:Array Value)(X:α->Array Value)(D:World->World->Prop)(Pb:Nat->Prop)(S H:List α->Prop)(N:Nat)(w:World):Prop:=
 ∀(l:Nat) (J U:List α->World->Prop) (W:World),Below w.heap.size w W->OF W.heap.size Pb J->OF W.heap.size Pb U->
  (∀Z x V,J Z V->Z.length<N->YieldAt F (n-1) P l (X x) V λe Y=>(e=.returned (bool true)/\J (Z++[x]) Y/\D V Y)∨(e=.returned (bool false)/\U (Z++[x]) Y))->
  J [] W->
  CallsIn F n P g (#[.func (.yield l) #[] #[]]++I) W λe Y=>(∃v,e=.returned v)/\((∃xs,S xs/\J xs Y)∨(∃Z,H Z/\U Z Y))
theorem BL.and{β:Type}{B:Nat}{Pb:Nat->Prop}{I U:β->World->Prop}(h:BL B Pb I)(N:BL B Pb U):BL B Pb (λs W=>I s W/\U s W):=λs W V row Z X Y=>⟨h s W V row Z.1 X Y,N s W V row Z.2 X Y⟩
theorem BL.pure{β:Type}(B:Nat)(Pb:Nat->Prop)(p:β->Prop):BL B Pb (λs (_:World)=>p s):=λs W Y row Z _ _=>Z
theorem BL.box{β:Type}(B:Nat)(Pb:Nat->Prop)(b:Nat)(t:TypeId)(f:β->Value)(N:¬Pb b):BL B Pb (λs W=>Boxed W b t (f s)):=λs W J row Y V X=>
 (V.block b (AD.1 Y).1 (λe=>by
  rcases X b e.symm with⟨_,o,ho,U⟩|h
  ·have Z:W.heap[b]?=some (.cells #[f s] t (0,0)):=Y;rw[Z]at ho;cases ho;cases U
  ·exact N h)).trans Y
theorem BL.below{β:Type}{B Z:Nat}{Pb:Nat->Prop}{w:World}(hB:Z<=B)(V:Z<=w.heap.size)(N:∀r,Pb r->Z<=r):BL B Pb (λ(_:β) W=>Below Z w W):=λs W J row Y U X=>
 Y.grown U (AS V Y.size) (λk e=>by rcases X k e with⟨h,_⟩|h;exact AS hB h;exact N k h)
theorem BL.size{β:Type}(B:Nat)(Pb:Nat->Prop)(n:Nat):BL B Pb (λ(_:β) W=>n<=W.heap.size):=λs W X row Z Y _=>AS Z Y.size
theorem al1{β:Type}{B:Nat}{Pb:Nat->Prop}{J:β->World->Prop}(h:OF B Pb J){s:β}{w w':World}(Z:J s w)(Y:Bt w w'):J s w':=h s w w' none Z (Km Y) (λr e=>by cases e)
theorem adx{β:Type}{B:Nat}{Pb:Nat->Prop}{J:β->World->Prop}(h:OF B Pb J){s:β}{w:World}(Y:J s w){p:Nat}(Z:Pb p)(i:Nat)(u:Value):J s (w.setCell ⟨p,i,none⟩ u):=h s w _ (some p) Y ⟨rfl,rfl,rfl,by simp,λk _ hk=>AQ w ⟨p,i,none⟩ u k (λe=>hk (by rw[e]))⟩ (λr e=>by cases e;exact .inr Z)
theorem amM{P:Program}{α:Type}{g:Operand}{y:Array Tmp}{assign body:Code}{Q:Exit->Act->World->Prop}{a:Act}{w:World}{H:Nat}{lb:Array Value}
  (hg:a.eval g=.func (.func H) #[] lb) (eg:∀args w,(callFunc H args).run P w=.ok (.enter H args) w)
  {Y:α->Array Value} {X:World->World->Prop} {Pb:Nat->Prop} {S Sp:List α->Prop} {N:Nat} (U:abI Fence.wide 8 P H lb Y X Pb S Sp N w) (j:∀r,Pb r->r<w.heap.size)
  (e:∀{A B C:World},X A B->X B C->X A C) (hKb:∀(W:World)(l:Nat)(o o':Obj),w.heap.size<=l->W.heap[l]?=some o->o.isCells=false->o.isWalk=false->X W (W.putObj l o')) (s:∀x,(Y x).size=y.size)
  (I:List α->World->Prop) (z:Code->List α->World->Prop) (hI:BL w.heap.size Pb I) (hIx:∀c,BL w.heap.size Pb (z c)) (h0:I [] w) (a₁:α->Act)
  (hassign:∀(l:Nat) (x:α) (W:World) (K:Act->World->Prop),K (a₁ x) W->
   assign.wpIn (Fence.wide.inRound l) 7 P (Exit.then K (λ_ _ _=>False)) {tmps:=(y.zip (Y x)).foldl (λt (p,v)=>t.setIfInBounds p v) a.tmps,defers:=[]} W)
  (hbody:∀(l:Nat)(Z:List α)(x:α)(W:World),I Z W->Z.length<N->body.wpIn (Fence.wide.inRound l) 7 P (ownPostG w.heap.size X I z (Z++[x]) W) (a₁ x) W)
  (hdone:∀(D:Nat)(xs:List α)(W:World),w.heap.size<=D->S xs->I xs W->W.heap[D]?=some (.deferred (some []))->Q .normal {a with defers:={target:=.collected D,args:=#[]}::a.defers} W)
  (hstop:∀(D:Nat)(c:Code)(Z:List α)(W:World),w.heap.size<=D->Sp Z->z c Z W->W.heap[D]?=some (.deferred (some []))->c.wp P Q {a with defers:={target:=.collected D,args:=#[]}::a.defers} W)
  (hKr:∀W,X W W) :
  (Code.rangeFunc g y assign body).wp P Q a w:=
 NL hg eg (Pb:=λr _ _=>Pb r) (S:=λxs _=>S xs) (λl J Jx W h1 h2 h3 h4 h5=>U l J Jx W h1 h2 h3 h4 h5) (λr _ _ h=>j r h) (λ_ _ _ _ _ _ _ _ h=>h) e hKb s I z hI hIx h0 (λx _=>a₁ x) (λ_ W=>W) (λ_ _=>AH _ _) (λ_ W _=>hKr W)
  (λl x W K hK=>hassign l x W K hK) (λl Z x W V _ hI hN=>hbody l Z x V hI hN) hdone hstop
end
section
open Go.RowKit Go.Sort Go.Maps Go.WideAt Go.WideMaps
theorem alU:laidOutB ZP=true:=by kernel_rfl
theorem Np:Keyed ZP 313:=Keyed.of_law (deep_law_laid alU (m:=ZP.types.size+1) (Lj kr) (Lj kr) kr kr)
theorem apr(n c:Int)(I:-9223372036854775808<=n/\n<=9223372036854775807)(H:0<=c/\c<=255):∃X,keyOf ZP 313 (.agg #[int i64 n,.int .u8 c])=some X:=by
 have hk:ZP.keyType 313=true:=by kernel_rfl
 have h0:0<ZP.types.size:=Lj kr;obtain⟨m,V⟩:∃m,ZP.types.size+1=m+1+1:=⟨ZP.types.size-1,by omega⟩;have J:ZP.cellsOf 313=2:=by kernel_rfl
 have N:ZP.cellsOf 3=1:=by kernel_rfl
 have U:ZP.cellsOf 5=1:=by kernel_rfl
 have Y:(Lit.int .i64 n).wf=true:=by simp[Lit.wf,IntKind.min,IntKind.max,IntKind.signed,IntKind.bits];omega
 have Z:(Lit.int .u8 c).wf=true:=by simp[Lit.wf,IntKind.min,IntKind.max,IntKind.signed,IntKind.bits];omega
 unfold keyOf;rw[underlying313,V];refine⟨.string (keyBytes [.int .i64 n,.int .u8 c]),?_⟩;simp[hk,Value.formed,Value.cells,Program.keyLits,underlying313,underlying3,underlying5,J,N,U,Y,Z]
def FK(D:DataW Unit)(f:Int×Int->Option Int):Prop:=IsMap D/\∀n c Z,keyOf ZP 313 (.agg #[int i64 n,.int .u8 c])=some Z->
 Maps.has D Z=(f (n,c)).isSome/\D.atKey Z (.lit (.int .i64 0))=.lit (.int .i64 ((f (n,c)).getD 0))
theorem FK.start:FK (.map []) (λ_=>none):=⟨isMap_empty,λn c Z _=>⟨rfl,rfl⟩⟩
theorem FK.put{D:DataW Unit}{f:Int×Int->Option Int}(h:FK D f){n c m:Int}{V:Lit}(hk:keyOf ZP 313 (.agg #[.int .i64 n,.int .u8 c])=some V) :FK (D.put V (.lit (.int .i64 m))) (λq=>if q=(n,c) then some m else f q):=by
 have X:=Np.key hk;refine⟨h.1.put _ _,λN I Y Z=>?_⟩
 by_cases e:Y=V
 ·subst e;have:=Np.inj Z hk;simp only[Value.agg.injEq,Array.mk.injEq,MY,Value.int.injEq,true_and,and_true]at this;obtain⟨rfl,rfl⟩:=this;refine⟨by rw[has_put_same h.1 X];simp,?_⟩;rw[atKey_put_same h.1 X];simp
 ·have U:¬((N,I)=(n,c)):=by
   intro J;simp only[Jk]at J;obtain⟨rfl,rfl⟩:=J;rw[hk]at Z;exact e (AK Z).symm
  simp only[Lb U];obtain⟨h1,h2⟩:=h.2 N I Y Z;exact⟨by rw[has_put_other e,h1],by rw[atKey_put_other e,h2]⟩
def FM(W:World)(b n:Nat)(f:Int×Int->Option Int):Prop:=∃D:DataW Unit,W.ownsMap ZP 313 (plainElem ZP 3) b n D/\FK D f
theorem FM.start(w:World):FM (w.alloc (.map #[] 0)) w.heap.size 0 (λ_=>none):=⟨_,MQ w ZP 313 (plainElem ZP 3),FK.start⟩
theorem FM.lt{W:World}{b n:Nat}{f:Int×Int->Option Int}(h:FM W b n f):b<W.heap.size:=by obtain⟨D,h1,_⟩:=h;exact h1.lt
theorem FM.kept{W Y:World}{b n:Nat}{f:Int×Int->Option Int}{row:Option Nat}(h:FM W b n f)(X:W.grownBy Y row)(Z:row≠some b):FM Y b n f:=by obtain⟨D,h1,h2⟩:=h;exact⟨D,h1.kept X (λe=>Z e.symm),h2⟩
theorem FM.below{W Z:World}{b n:Nat}{f:Int×Int->Option Int}(h:FM W b n f)(Y:Bt W Z):FM Z b n f:=h.kept (Km Y) sm
theorem FM.alloc{W:World}{b n:Nat}{f:Int×Int->Option Int}(h:FM W b n f)(o:Obj):FM (W.alloc o) b n f:=h.below (AL W o)
theorem FM.set{w:World}{b n m i:Nat}{f:Int×Int->Option Int}(h:FM w b n f)(Z:m≠b)(u:Value):FM (w.setCell ⟨m,i,none⟩ u) b n f:=h.kept (BH w m i u) (by intro e;injection e with e;exact Z e)
theorem ajR(w:World):(zeroValue 3).run ZP w=.ok (int i64 0) w:=by kernel_rfl
theorem FM.look{W:World}{b n:Nat}{f:Int×Int->Option Int}(h:FM W b n f){z c:Int}(V:-9223372036854775808<=z/\z<=9223372036854775807)(J:0<=c/\c<=255) :Sem.run ZP (Instr.lookup 275 (.map (some b)) (.agg #[int i64 z,.int .u8 c]) true) W=.ok (.tuple #[int i64 ((f (z,c)).getD 0),bool (f (z,c)).isSome]) W:=by
 obtain⟨D,h1,h2,h3⟩:=h;obtain⟨X,Y⟩:=apr z c V J;obtain⟨h4,h5⟩:=h3 z c X Y;obtain⟨v,I,Z,U⟩:=h1.look_ok Np underlying275 (ajR W) (zd:=.lit (.int .i64 0)) (zp:=[]) (plainElem_int underlying3 (by decide)) Y;obtain⟨q,rfl,N,_⟩:=plainElem_int_inv underlying3 U;have h6:D.atKey X (.lit (.int .i64 0))=.lit (.int .i64 q):=congrArg Prod.fst N;rw[h5]at h6;have h7:(f (z,c)).getD 0=q:=by simpa using h6
 rw[Z,h4,h7]
section
variable {w:World}{ops:Array Oper}{rest:List Oper}{o:Oper}{a:Act}{Q:Exit->Act->World->Prop}{b n:Nat}{f:Int×Int->Option Int}
theorem adb(A:o.guard=none)(m x y:Operand)(X:o.op=Op.mapUpdate 275 m x y)(B:a.eval m=.map (some b))(Z:FM w b n f)(C:n<maxLen)(z c:Int)(v:Int)(H:(Lit.int .i64 v).wf=true)(U:-9223372036854775808<=z/\z<=9223372036854775807)(s:0<=c/\c<=255)(J:a.eval x=.agg #[.int .i64 z,.int .u8 c])(N:a.eval y=.int .i64 v)
  (j:∀w',FM w' b (n+1) (λq=>if q=(z,c) then some v else f q)->w.grownBy w' (some b)->wpList ZP ops Q rest (a.put o.dst undef) w'):wpList ZP ops Q (o::rest) a w:=by
 obtain⟨D,h1,h2⟩:=Z;obtain⟨h,Y⟩:=apr z c U s;refine wpList_mapUpdate_own _ A m x y 275 X 313 3 Np underlying275 _ b n D B h1 C _ _ _ J N Y _ [] (plainElem_int underlying3 H) ?_;intro w' I V;exact j w' ⟨_,I,h2.put Y⟩ V
end
end
section
attribute[local go_sem] Oper.semAt_some
attribute[local simp] Ak Al
attribute[local go_sem] Ak Al
abbrev ChP:={z:Nat // z<=1000000}
def anp(z:ChP):Array Value:=#[int i64 (z.1:Int)]
theorem aiY(L:List Int):∀(f z:Nat),(chN L f z).length<=f+1/\1<=(chN L f z).length
 |0,z=>by simp[chN]
 |f+1,z=>by
  unfold chN
  split
  ·simp
  ·have:=aiY L f ((L[z]?).getD 0).toNat;simp;omega
theorem amH(L:List Int)(f z:Nat):chN L (f+1) z=if z=0 then [z] else z::chN L f ((L[z]?).getD 0).toNat:=rfl
theorem amf(L:List Int)(f:Nat):chN L f 0=[0]:=by cases f<;>simp[chN]
theorem amb(L:List Int)(f z:Nat):∃r,chN L f z=z::r:=by
 cases f with
 |zero=>exact⟨[],rfl⟩
 |succ f=>
  unfold chN
  split
  ·exact⟨[],rfl⟩
  ·exact⟨_,rfl⟩
theorem aie(g:Nat)(node:Int)(w:World) :Calls ZP 253 #[.pointer (some ⟨g,0,none⟩),.int .i64 node] w λe w'=>e=.returned (.func (.func 279) #[] #[.pointer (some ⟨w.heap.size+1,0,none⟩),.pointer (some ⟨w.heap.size,0,none⟩)])/\
   w'=(w.alloc (.cells #[pointer (some ⟨g,0,none⟩)] 272)).alloc (.cells #[int i64 node] 3):=by
 go_enter func253,ntmps253;go_wp2;go_ret;exact⟨rfl,rfl⟩
def Ic(p:Nat)(w:World):Nat:=match w.cell? ⟨p,0,none⟩with|some v=>(intOf v).toNat|none=>0
theorem Lm{w:World}{p z:Nat}{t:TypeId}(h:Boxed w p t (int i64 (z:Int))):Ic p w=z:=by unfold Ic;rw[h.cell];simp[intOf]
theorem afc(g I p2 q n:Nat)(L:List Int)(node:Nat)(cs:Array Value)(S:Nat->Prop)(m:Nat)(w:World)
  (hg:w.heap[g]?=some (.cells cs 277 (0,0))) (h:cs[5]?=some (slice (some ⟨q,0,none⟩) n n)) (hq:AU q L w) (hL:L.length=n) (hn:n<=1000000)
  (h1:Boxed w I 272 (pointer (some ⟨g,0,none⟩))) (h2:Boxed w p2 3 (int i64 (node:Int)))
  (hS:S g/\S q/\S I/\S p2) (C:∀k,S k->k<w.heap.size) (hp:p2≠g/\p2≠q/\p2≠I)
  (a6:node<n) (y:∀j,1<=j->j<=node->∃k:Nat,L[j]?=some (k:Int)/\k<j) :
  abI Fence.wide m ZP 279 #[pointer (some ⟨p2,0,none⟩),pointer (some ⟨I,0,none⟩)] anp (Cc S) (λr=>r=p2) (λzs=>zs.map Subtype.val=chN L node node) (λZ=>∃r,chN L node node=Z.map Subtype.val++r) (node+2) w:=by
 intro l J Jx W hW hJ ao hY h0;obtain⟨s1,s2,s3,s4⟩:=hS;obtain⟨p3,p4,p5⟩:=hp;have cells:∀v:World,(∀k,S k->k≠p2->v.heap[k]?=w.heap[k]?)->v.cell? ⟨I,0,none⟩=some (pointer (some ⟨g,0,none⟩))/\v.cell? ⟨g,5,none⟩=some (slice (some ⟨q,0,none⟩) n n)/\∀(j:Nat)(x:Int),L[j]?=some x->v.cell? ⟨q,j,none⟩=some (int i64 x):=by intro v hv;have e1:v.heap[I]?=some (.cells #[pointer (some ⟨g,0,none⟩)] 272 (0,0)):=(hv I s3 (Ne.symm p5)).trans h1;have e2:v.heap[g]?=_:=(hv g s1 (Ne.symm p3)).trans hg;have e3:v.heap[q]?=some (.cells (L.map (int i64)).toArray 3 (0,0)):=(hv q s2 (Ne.symm p4)).trans hq;refine⟨by simp[cell?,e1],by simp[cell?,e2,h],λj x hx=>?_⟩;rw[cell_of_row v q j _ _ _ e3];simp[hx]
 have HC:=AA cells;have a8:∀k,S k->k≠p2->W.heap[k]?=w.heap[k]?:=λk hk _=>hW.block k (C k hk);have aa:Boxed W p2 3 (int i64 (node:Int)):=(hW.block p2 h2.lt).trans h2;have ai:=AA y;have af:=AA s4;have ap:=AA C;clear hg h hq h1 h2 cells y C;refine callsIn_of_wp func279 rfl trivial ?_ rfl;simp only[ntmps279,Cw,Ao,Bw,Nat.reduceAdd,Nat.reduceSub,Dd,Dc,DX,Da,Av,CT]
 gi_wp2
 gi_loopw[4] (λs4 wr=>∃(z f:Nat)(Z:List ChP),z<=f/\z<=node/\Hid (chN L node node=Z.map Subtype.val++chN L f z)/\Boxed wr p2 3 (int i64 (z:Int))/\J Z wr/\Hid (∀k,S k->k≠p2->wr.heap[k]?=w.heap[k]?)) (λ_ wr=>Ic p2 wr)
 case atStart=>exact⟨node,node,[],AC _,AC _,rfl,aa,h0,a8⟩
 case round=>
  obtain⟨z,f,Z,al,a2,HP,V,hj,HK⟩:=hrel;have cz:=V.cell;have ah:=AA (Lm V);have s:Z.length<node+2:=by have h1:=congrArg List.length HP.out;rw[List.length_append,BP]at h1;have h2:=aiY L node node;omega
  obtain⟨fn,tmps,assign,body,D,B⟩:=hY Z ⟨z,by omega⟩ wr hj s;dsimp only[anp]at D
  gi_wp2
  refine B.mono ?_;rintro e N (⟨rfl,hJ4,hk4⟩|⟨rfl,hJx4⟩)
  ·have X:Boxed N p2 3 (int i64 (z:Int)):=(hk4 p2 af.out).trans V;have A:Hid (∀k,S k->k≠p2->N.heap[k]?=w.heap[k]?):=λk h1 h2=>(hk4 k h1).trans (HK.out k h1 h2);have ae:=X.cell
   by_cases hz:z=0
   ·subst hz;have HF:Hid (chN L node node=(Z++[(⟨0,by omega⟩:ChP)]).map Subtype.val):=by have:=HP.out;rw[amf]at this;rw[Hid,this];simp
    clear cz V B D
    gi_wp2
    go_end0
    exact⟨⟨_,rfl⟩,.inl ⟨_,HF.out.symm,hJ4⟩⟩
   ·obtain⟨k,hk,a7⟩:=ai.out z om a2;obtain⟨f,rfl⟩:∃f',f=f'+1:=⟨f-1,by omega⟩;have H:z<=1000000:=by omega
    have HF:Hid (chN L node node=(Z++[(⟨z,H⟩:ChP)]).map Subtype.val++chN L f k):=by have:=HP.out;rw[amH,Lb hz,hk,CG,Aa]at this;rw[Hid,this];simp
    obtain⟨c1,c2,c3⟩:=HC.out N A.out;have c4:=c3 z k hk;have am:((z:Int) != 0)=true:=by simp;omega
    have i1:(0:Int)<=(z:Int):=by omega
    have i2:(z:Int)<(n:Int):=by omega
    have ak:=X.lt;have ad:=X.frozen;clear cz V B D c3 hk
    gi_wp2
    refine Ld (FL _ _) 7 mixed kr kr ?_;dsimp only[List.take_succ_cons,List.take_zero,List.drop_succ_cons,List.drop_zero]
    repeat (go_big_quiet_step (fail))
    refine wpQuiet_nil ?_;rintro _ ⟨nq,rfl⟩;have ab:Bt N (N.drewN nq):=⟨rfl,rfl,rfl,AC _,λ_ _=>rfl⟩;have a1:=al1 hJ hJ4 ab;have ac:=adx hJ a1 (p:=p2) rfl 0 (int i64 (k:Int));have Y:Boxed (N.drewN nq) p2 3 (int i64 (z:Int)):=X;have U:=Y.set (int i64 (k:Int));have ag:=AA (Lm U);have aj:Hid (∀j,S j->j≠p2->((N.drewN nq).setCell ⟨p2,0,none⟩ (int i64 (k:Int))).heap[j]?=w.heap[j]?):=λj h1 h2=>(AQ _ _ _ _ (by show j≠p2;exact h2)).trans (A.out j h1 h2);have d1:=Y.cell;have d2:=Y.frozen;have d3:=Y.lt;clear c1 c2 c4 ae ad A a1 hJ4
    gi_wp2
    go_roundw
    case rel=>exact⟨k,f,_,by omega,by omega,HF,U,ac,aj⟩
    case measure=>rw[ah.out,ag.out];exact a7
  ·have H:z<=1000000:=by omega
   have HF:Hid (∃r,chN L node node=(Z++[(⟨z,H⟩:ChP)]).map Subtype.val++r):=by obtain⟨r,hr⟩:=amb L f z;exact⟨r,by rw[HP.out,hr];simp⟩
   gi_wp2
   go_end0
   exact⟨⟨_,rfl⟩,.inr ⟨_,HF.out,hJx4⟩⟩
end
section
attribute[local go_sem] Oper.semAt_some
attribute[local simp] Ak Al
attribute[local go_sem] Ak Al
theorem aaH{fn:Func}{p:Tmp}{tmps:Array Value}{W:World}{B:Nat}(h:fn.results=#[.cell p 3])(Y:tmps.getD p undef=pointer (some ⟨B,0,none⟩)){v:Int}(hB:Boxed W B 3 (int i64 v)) :(results fn tmps).run ZP W=.ok (int i64 v) W:=by
 have Z:tmps[p]?.getD undef=pointer (some ⟨B,0,none⟩):=by simpa using Y
 have X:=hB.cell;simp[results,h,Z,asAddr,X,go_sem,loadVar]
abbrev Ex(ws:La):Int×Int->Option Int:=Dp (AG ws).up (AG ws).byt ((AB ws).length-1)
theorem akb(g mb q n nm i z:Nat)(ws:La)(L:List Int)(cs:Array Value)(x:List Int)(c:Int)(w:World)
  (hg:w.heap[g]?=some (.cells cs 277 (0,0))) (af:cs[4]?=some (.map (some mb))) (am:cs[5]?=some (slice (some ⟨q,0,none⟩) n n)) (hm:FM w mb nm (Ex ws)) (hq:AU q L w) (hL:L.length=n) (hN:(AB ws).length=n) (hn:n<=1000000)
  (a7:IK ws L i) (hi:i<=n) (hz:z<i) (hx:(AB ws)[z]?=some x) (hc:0<=c/\c<=255) :
  Calls ZP 216 #[pointer (some ⟨g,0,none⟩),int i64 (z:Int),.int .u8 c] w λe w'=>e=.returned (int i64 (CW (AB ws) (lsf (AB ws) (x++[c]))))/\Bt w w':=by
 obtain⟨J,hW⟩:∃W,W=((w.alloc (.cells #[pointer (some ⟨g,0,none⟩)] 272)).alloc (.cells #[.int .u8 c] 5)).alloc (.cells #[int i64 0] 3):=⟨_,rfl⟩;have hB:Bt w J:=by rw[hW];exact((AL _ _).alloc (by simp only[DN];omega) _).alloc (by simp only[DN];omega) _
 have hO:Bx w.heap.size [.cells #[pointer (some ⟨g,0,none⟩)] 272,.cells #[.int .u8 c] 5,.cells #[int i64 0] 3] J:=by rw[hW];exact(((Bx.nil _ w).snoc _ rfl).snoc _ sm).snoc _ sm
 have ah:J.heap.size=w.heap.size+1+1+1:=by rw[hW];simp
 have bG:Boxed J w.heap.size 272 (pointer (some ⟨g,0,none⟩)):=hO 0 _ rfl;have bC:Boxed J (w.heap.size+1) 5 (.int .u8 c):=hO 1 _ rfl;have bR:Boxed J (w.heap.size+1+1) 3 (int i64 0):=hO 2 _ rfl;have c0:=bG.cell;clear hO;refine Hc func216 rfl ?_;simp only[ntmps216,Cw,Ao,Bw,Nat.reduceAdd,Nat.reduceSub,Dd,Dc,DX,Da,Av,CT];go_upto_region 1 with fail
 rw[<-hW];clear hW
 go_wp2_with (go_at_call 253;refine(aie g z J).mono ?_;rintro e w' ⟨rfl,rfl⟩)
 obtain⟨N,a1⟩:∃W,W=(J.alloc (.cells #[pointer (some ⟨g,0,none⟩)] 272)).alloc (.cells #[int i64 (z:Int)] 3):=⟨_,rfl⟩;have V:Bt J N:=by rw[a1];exact(AL _ _).alloc sm _
 have h1:Boxed N J.heap.size 272 (pointer (some ⟨g,0,none⟩)):=by rw[a1];exact(Boxed.new J 272 _).alloc _
 have h2:Boxed N (J.heap.size+1) 3 (int i64 (z:Int)):=by
  rw[a1];have:=Boxed.new (J.alloc (.cells #[pointer (some ⟨g,0,none⟩)] 272)) 3 (int i64 (z:Int))
  rwa[DN]at this
 rw[<-a1];clear a1 c0;have aa:Bt w N:=hB.trans (V.mono hB.size);have av:Boxed N w.heap.size 272 (pointer (some ⟨g,0,none⟩)):=(V.block _ bG.lt).trans bG;have aw:Boxed N (w.heap.size+1) 5 (.int .u8 c):=(V.block _ bC.lt).trans bC;have ar:Boxed N (w.heap.size+1+1) 3 (int i64 0):=(V.block _ bR.lt).trans bR;have ad:g<w.heap.size:=(AD.1 hg).1;have ai:q<w.heap.size:=(AD.1 (show w.heap[q]?=_ from hq)).1;have ax:=hm.lt;have ae:N.heap[g]?=_:=(aa.block g ad).trans hg;have ab:AU q L N:=(aa.block q ai).trans hq;have ac:∀j,1<=j->j<=z->∃k:Nat,L[j]?=some (k:Int)/\k<j:=λj h1 h2=>by obtain⟨y,hy⟩:∃y,(AB ws)[j]?=some y:=⟨(AB ws)[j]'om,by simp⟩;obtain⟨k,e1,e2,_⟩:=a7.at_ om hy om;exact⟨k,e1,e2⟩
 have ag:=h2.lt;rw[ah]at h1 h2 ag;have aj:=afc g (w.heap.size+1+1+1) (w.heap.size+1+1+1+1) q n L z cs (λk=>k<N.heap.size) 8 N ae am ab hL hn h1 h2 ⟨by omega,by omega,by omega,by omega⟩ (λk hk=>hk) ⟨by omega,by omega,by omega⟩ om ac;clear bG bC bR hB V ac ae ab
 apply amM rfl (enters_of func279 kr rfl) aj (λr hr=>by rw [hr];exact h2.lt) GD (JR λ_ h=>h) (λ_=>rfl) (hKr:=λ_ _ _=>rfl)
  (λU W=>Boxed W w.heap.size 272 (pointer (some ⟨g,0,none⟩))/\Boxed W (w.heap.size+1) 5 (.int .u8 c)/\Boxed W (w.heap.size+1+1) 3 (int i64 0)/\Bt w W/\N.heap.size<=W.heap.size/\∀y∈U.map Subtype.val,Ex ws ((y:Int),c)=none)
  (λc' U W=>∃k:Int,Boxed W (w.heap.size+1+1) 3 (int i64 k)/\Bt w W/\(c'=.ret/\∃(p:List Nat)(y:Nat),U.map Subtype.val=p++[y]/\(∀y∈p,Ex ws ((y:Int),c)=none)/\Ex ws ((y:Int),c)=some k))
 case hI=>exact BL.and (BL.box _ _ _ _ _ (by show ¬(_=_);omega)) (BL.and (BL.box _ _ _ _ _ (by show ¬(_=_);omega)) (BL.and (BL.box _ _ _ _ _ (by show ¬(_=_);omega)) (BL.and (BL.below om (AC _) (λr hr=>by rw[hr];omega)) (BL.and (BL.size _ _ _) (BL.pure _ _ _)))))
 case hIx=>
  intro c' s A C row ⟨k,hs⟩ hg hr;have h:BL N.heap.size (λr=>r=w.heap.size+1+1+1+1) (λ(s:List ChP)(W:World)=>Boxed W (w.heap.size+1+1) 3 (int i64 k)/\Bt w W/\(c'=.ret/\∃(p:List Nat)(y:Nat),s.map Subtype.val=p++[y]/\(∀y∈p,Ex ws ((y:Int),c)=none)/\Ex ws ((y:Int),c)=some k)):=
   BL.and (BL.box _ _ _ _ _ (by show ¬(_=_);omega)) (BL.and (BL.below om (AC _) (λr hr=>by rw[hr];omega)) (BL.pure _ _ _))
  exact⟨k,h s A C row hs hg hr⟩
 case h0=>exact⟨av,aw,ar,aa,AC _,by simp⟩
 case hassign=>
  intro l x W K hK;unfold anp
  gi_wp2
  exact hK
 case hbody=>
  rintro l U ⟨y,hy⟩ W ⟨hG,hC,I,X,hs,Y⟩ ay;have q0:=I.cell;have q1:=I.frozen;have az:∀d os,(grow (redrawn W d) os).cell? ⟨g,4,none⟩=some (.map (some mb)):=λd os=>by have:(grow (redrawn W d) os).heap[g]?=some (.cells cs 277 (0,0)):=((Kf W d os).block g (by have:=X.size;omega)).trans ((X.block g ad).trans hg);simp[cell?,this,af]
  have aA:∀d os,(grow (redrawn W d) os).cell? ⟨w.heap.size,0,none⟩=some (pointer (some ⟨g,0,none⟩)):=λd os=>((Kf W d os).cell (p:=⟨w.heap.size,0,none⟩) hG.lt).trans hG.cell;have aB:∀d os,(grow (redrawn W d) os).cell? ⟨w.heap.size+1,0,none⟩=some (.int .u8 c):=λd os=>((Kf W d os).cell (p:=⟨w.heap.size+1,0,none⟩) hC.lt).trans hC.cell;obtain⟨O,hO⟩:∃O,Ex ws ((y:Int),c)=O:=⟨_,rfl⟩;have al:∀d os,Sem.run ZP (Instr.lookup 275 (.map (some mb)) (.agg #[int i64 (y:Int),.int .u8 c]) true) (grow (redrawn W d) os)=.ok (.tuple #[int i64 (O.getD 0),bool O.isSome]) (grow (redrawn W d) os):=λd os=>by
   have:=((hm.below X).below (Kf W d os)).look (z:=(y:Int)) (c:=c) om hc
   rwa[hO]at this
  have a6:=AA Y;have HO:=AA hO;clear Y hO
  cases O with
  |none=>
   have HF:Hid (∀v∈(U++[(⟨y,hy⟩:ChP)]).map Subtype.val,Ex ws ((v:Int),c)=none):=λv hv=>by
    rw[Aj,Bf]at hv
    rcases hv with hv|hv
    ·exact a6.out v hv
    ·simp at hv;rw[hv];exact HO.out
   dsimp only
   gi_wp2
   refine Le (OV _ _ _) mixed kr kr ?_
   repeat (go_big_quiet_step (fail))
   refine wpQuiet_nil ?_;rintro _ ⟨⟨dq,H⟩,rfl⟩;have Z:=Kf W dq H
   gi_wp2
   exact⟨Nj Z,Ke Z (λk hk=>by omega),(Z.block _ hG.lt).trans hG,(Z.block _ hC.lt).trans hC,(Z.block _ I.lt).trans I,X.trans (Z.mono X.size),AS hs Z.size,HF.out⟩
  |some v=>
   have HF:Hid (∃(p:List Nat)(t:Nat),(U++[(⟨y,hy⟩:ChP)]).map Subtype.val=p++[t]/\(∀y∈p,Ex ws ((y:Int),c)=none)/\Ex ws ((t:Int),c)=some v):=⟨_,y,by simp,a6.out,HO.out⟩;dsimp only
   gi_wp2
   refine Le (OV _ _ _) mixed kr kr ?_
   repeat (go_big_quiet_step (fail))
   refine wpQuiet_nil ?_;rintro _ ⟨⟨dq,H⟩,rfl⟩;have Z:=Kf W dq H;have a2:Boxed (grow (redrawn W dq) H) (w.heap.size+1+1) 3 (int i64 0):=(Z.block _ I.lt).trans I;have d1:=a2.cell;have d2:=a2.frozen;have d3:=a2.lt;have ap:=X.trans (Z.mono X.size);have kO:=(Nj (B:=N.heap.size) Z).trans ((Jp (grow (redrawn W dq) H) ⟨w.heap.size+1+1,0,none⟩ (int i64 v)).from N.heap.size);have aq:=a2.set (int i64 v)
   gi_wp2
   exact⟨kO,v,aq,ap.setCell (by show w.heap.size<=w.heap.size+1+1;omega) _,rfl,HF.out⟩
 case hdone=>
  rintro D zs W hD hS ⟨hG,hC,I,X,hs,Y⟩ a8;rw[hS]at Y;have HZ:=AA (ajN a7 hz (AC _) hx Y);have q1:=I.cell;have q2:=I.frozen;go_wp2;have au:Boxed ((W.setCell ⟨w.heap.size+1+1,0,none⟩ (int i64 0)).putObj D (.deferred none)) (w.heap.size+1+1) 3 (int i64 0):=(Cm om).trans (I.set _);have ao:(W.setCell ⟨w.heap.size+1+1,0,none⟩ (int i64 0)).heap[D]?=some (.deferred (some [])):=(AQ _ _ _ _ (by simp;omega)).trans a8;refine Gg rfl ao (aaH rfl rfl au) ⟨by rw[<-HZ.out],FZ (X.setCell (by simp;omega) _) om (AC _) _⟩
 case hstop=>
  rintro D c' U W hD ⟨r,hS⟩ ⟨k,I,X,rfl,p,y,ak,Y,hk⟩ a8;rw[ak]at hS;have HZ:=AA (aiZ a7 hz (AC _) hx hS Y hk);go_wp2;have bT:Boxed (W.putObj D (.deferred none)) (w.heap.size+1+1) 3 (int i64 k):=(Cm om).trans I;refine Gg rfl a8 (aaH rfl rfl bT) ⟨by rw[<-HZ.out],FZ X om (AC _) _⟩
end
abbrev anu(t:TV)(Z q n:Nat):Array Value:=#[slice t.ua t.un t.uc,slice t.da t.dn t.dc,slice t.xa t.xn t.xc,slice t.ba t.bn t.bc,.map (some Z),slice (some ⟨q,0,none⟩) n n]
structure apx(W:World)(base g:Nat)(t:TV)(ws:La)(L:List Int)(E:Int×Int->Option Int):Prop where
 ex:∃mb q nm:Nat,W.heap[g]?=some (.cells (anu t mb q (AB ws).length) 277 (0,0))/\FM W mb nm E/\AU q L W/\L.length=(AB ws).length/\base<=g/\base<=mb/\base<=q/\g≠mb/\g≠q/\mb≠q/\nm<=1000000
def Cq(ws:La)(n j:Nat):List Int:=(Bo ws).take j++List.replicate (n-j) 0
theorem JO(ws:La):(Bo ws).length=(AB ws).length:=by simp[Bo]
theorem alf{ws:La}{n j:Nat}(Z:(AB ws).length=n)(Y:j<=n):(Cq ws n j).length=n:=by unfold Cq;rw[List.length_append,Ag,CS,JO];omega
theorem ajl{ws:La}{n j i:Nat}(Z:i<j)(X:j<=n)(Y:(AB ws).length=n):(Cq ws n j)[i]?=(Bo ws)[i]?:=by unfold Cq;rw[By (by rw[Ag,JO];omega),FT,Lc Z]
theorem an2{ws:La}{n j:Nat}(X:j<=n)(Y:(AB ws).length=n):IK ws (Cq ws n j) j:=λi x V Z=>by rw[ajl V X Y];exact JP Z
theorem aif{ws:La}{n:Nat}(X:(AB ws).length=n)(h1:1<=n):Cq ws n 1=List.replicate n 0:=by obtain⟨m,rfl⟩:∃m,n=m+1:=⟨n-1,by omega⟩;have h0:=JP (CM ws);have Z:Gc ws []=0:=CV (CL ws).nodup (CM ws);rw[Z]at h0;have Y:=As h0;unfold Cq;rw[Y,Ip];simp
theorem agy{ws:La}{n j:Nat}{v:Int}(V:(AB ws).length=n)(U:j<n)(Z:(Bo ws)[j]?=some v):(Cq ws n j).set j v=Cq ws n (j+1):=by
 unfold Cq;obtain⟨m,Y⟩:∃m,n-j=m+1:=⟨n-j-1,by omega⟩;have X:((Bo ws).take j).length=j:=by rw[Ag,JO];omega
 rw[Jm _ _ om,X,FG,Y,Ip,List.set_cons_zero,As Z,show n-(j+1)=m by omega,CE]
 rfl
theorem aiW{ws:La}{n j:Nat}(Y:(AB ws).length=n)(U:j<n)(Z:(Bo ws)[j]?=some 0):Cq ws n j=Cq ws n (j+1):=by
 rw[<-agy Y U Z];unfold Cq;obtain⟨m,X⟩:∃m,n-j=m+1:=⟨n-j-1,by omega⟩;have V:((Bo ws).take j).length=j:=by rw[Ag,JO];omega
 rw[Jm _ _ om,V,FG,X,Ip,List.set_cons_zero]
theorem FM.mono{W:World}{b n m:Nat}{f:Int×Int->Option Int}(h:FM W b n f)(Z:n<=m):FM W b m f:=by obtain⟨D,h1,h2⟩:=h;exact⟨D,h1.mono Z,h2⟩
theorem AU.set{g j:Nat}{l:List Int}{W:World}(h:AU g l W)(v:Int):AU g (l.set j v) (W.setCell ⟨g,j,none⟩ (int i64 v)):=by
 have:=AJ (i:=j) h (int i64 v);unfold AU
 simpa[Is]using this
theorem aiQ(t:TV)(T:Ay)(sp ws:La)(w:World)(hT:Tri w t T)(hb:t.un<=140737488351232)(hr:CI T=some (sp,ws)) :Calls ZP 176 #[.agg t.cells] w λe w'=>∃g,e=.returned (.tuple #[pointer (some ⟨g,0,none⟩),bool true])/\apx w' w.heap.size g t ws (Bo ws) (Ex ws)/\Bt w w':=by
 obtain⟨r1,rfl,rfl⟩:=Fy.1 hr;obtain⟨ua,un,uc,da,dn,dc,xa,xn,xc,ba,bn,bc⟩:=t;dsimp only at hb;have hn:un=(AB ws).length:=by have:=hT.up.1;simp[AG]at this;exact this.symm
 have H:bn=(AB ws).length:=by have:=hT.byt.1.1;simp[AG]at this;exact this.symm
 have ai:(AB ws).length<=400:=(abf hr).1;have aB:1<=(AB ws).length:=by have:=Lo ws;have:(AB ws).length≠0:=λe=>this (Bz e);omega
 obtain⟨n,ah⟩:∃n,(AB ws).length=n:=⟨_,rfl⟩;rw[ah]at hn H ai aB
 replace hn:=hn.symm
 subst hn
 replace H:=H.symm
 subst H;have Y:=AA ah;obtain⟨W,hW⟩:∃W,W=w.alloc (.cells #[slice ua n uc,slice da dn dc,slice xa xn xc,slice ba n bc] 150):=⟨_,rfl⟩;have hB:Bt w W:=by rw[hW];exact AL _ _
 have hO:Bx w.heap.size [.cells #[slice ua n uc,slice da dn dc,slice xa xn xc,slice ba n bc] 150] W:=by rw[hW];exact(Bx.nil _ w).snoc _ rfl
 have c0:W.cell? ⟨w.heap.size,0,none⟩=some (slice ua n uc):=hO.cell (i:=0) rfl rfl;have c1:W.cell? ⟨w.heap.size,1,none⟩=some (slice da dn dc):=hO.cell (i:=0) rfl rfl;have c2:W.cell? ⟨w.heap.size,2,none⟩=some (slice xa xn xc):=hO.cell (i:=0) rfl rfl;have c3:W.cell? ⟨w.heap.size,3,none⟩=some (slice ba n bc):=hO.cell (i:=0) rfl rfl;have HR:Hid (JF (AG ws)=true):=by unfold Hid JF;rw[hr];rfl
 have HC:=AA (ai5 _ (AG ws) W (hT.below hB) hb);have HT:=AA hT;have aS:=@run_makeMap ZP;have aT:∀V:World,(Instr.makeSlice 30 (int i64 n) (int i64 n)).run ZP V=.ok (slice (some ⟨V.heap.size,0,none⟩) n n) (V.alloc (.cells (GE n) 3)):=λV=>by
  obtain⟨i0,hi,aP,ap,aO⟩:=Ve JS;have h:=run_makeSlice (P:=ZP) (w:=V) 30 3 i0 (.int .i64 0) underlying30 hi aP .i64 .i64 (n:Int) (n:Int) om om (by rw[ap];omega) (by rw[aO];omega) om;rw[ap]at h;have e1:(n:Int).toNat*1=n:=by omega
  rw[e1,Nc,Aa]at h;exact h
 clear hT hr r1 ah;go_enter func176,ntmps176;go_upto_region 1 with fail
 rw[<-hW];clear hW
 go_wp2_with fail
 refine HC.out.mono ?_;rintro e X ⟨rfl,aL⟩;rw[HR.out];have ab:Bt w X:=hB.trans (aL.mono hB.size);have A:=hO.below aL;have k0:X.heap[w.heap.size]?=some (.cells #[slice ua n uc,slice da dn dc,slice xa xn xc,slice ba n bc] 150 (0,0)):=A 0 _ rfl;clear c0 c1 c2 c3;have c0:X.cell? ⟨w.heap.size,0,none⟩=some (slice ua n uc):=A.cell (i:=0) rfl rfl;have c1:X.cell? ⟨w.heap.size,1,none⟩=some (slice da dn dc):=A.cell (i:=0) rfl rfl;have c2:X.cell? ⟨w.heap.size,2,none⟩=some (slice xa xn xc):=A.cell (i:=0) rfl rfl;have c3:X.cell? ⟨w.heap.size,3,none⟩=some (slice ba n bc):=A.cell (i:=0) rfl rfl;have aE:w.heap.size<X.heap.size:=(AD.1 k0).1;have aD:w.heap.size<X.heap.size+1:=by omega
 have aA:w.heap.size≠X.heap.size:=by omega
 have az:w.heap.size≠X.heap.size+1:=by omega
 go_upto_region 3 with fail
 go_cut[4] (λs4 wx=>∃g N q:Nat,s4=pointer (some ⟨g,0,none⟩)/\wx.heap[g]?=some (.cells #[slice ua n uc,slice da dn dc,slice xa xn xc,slice ba n bc,.map (some N),slice (some ⟨q,0,none⟩) n n] 277 (0,0))/\FM wx N 0 (λ_=>none)/\AU q (List.replicate n 0) wx/\g≠N/\g≠q/\N≠q/\w.heap.size<N/\w.heap.size<g/\w.heap.size<q/\Bt X wx)
 case first=>
  go_wp2
  go_region
  ·go_wp2_with fail
   go_meet
   refine⟨_,X.heap.size,X.heap.size+1,rfl,Hf sm _,?_,?_,by omega,by omega,by omega,by omega,by omega,by omega,?_⟩
   ·exact(((FM.start X).alloc _).alloc _).below ⟨rfl,rfl,rfl,AC _,λ_ _=>rfl⟩
   ·have h:=AU.new (X.alloc (.map #[] 0)) n;rw[DN]at h;exact(Bg _ _ _ sm).trans h
   ·exact(((AL X _).alloc sm _).alloc (by simp;omega) _).trans ⟨rfl,rfl,rfl,AC _,λ_ _=>rfl⟩
  ·go_wp2_with fail
   go_meet
   refine⟨_,X.heap.size+1,X.heap.size,rfl,Hf sm _,?_,?_,by omega,by omega,by omega,by omega,by omega,by omega,?_⟩
   ·have h:=FM.start (X.alloc (.cells (GE n) 3));rw[DN]at h;exact(h.alloc _).below ⟨rfl,rfl,rfl,AC _,λ_ _=>rfl⟩
   ·exact(Bg _ _ _ (by simp;omega)).trans ((Bg _ _ _ sm).trans (AU.new X n))
   ·exact(((AL X _).alloc sm _).alloc (by simp;omega) _).trans ⟨rfl,rfl,rfl,AC _,λ_ _=>rfl⟩
 case rest=>
  obtain⟨g,N,q,rfl,al,ak,ag,aK,aJ,aj,b7,b8,b6,ao⟩:=hcut;clear aS aT c0 c1 c2 c3 aD aA az;have bh:=AA ab;have ae:=ab.trans (ao.mono ab.size);have b4:=AA k0;clear ab;have J:wc.heap[w.heap.size]?=some (.cells #[slice ua n uc,slice da dn dc,slice xa xn xc,slice ba n bc] 150 (0,0)):=(ao.block _ aE).trans k0;clear ao b4 k0;have bg:g<wc.heap.size:=(AD.1 al).1;have b9:q<wc.heap.size:=(AD.1 (show wc.heap[q]?=_ from ag)).1;have b5:N<wc.heap.size:=ak.lt;go_upto_region 4 with fail
  go_wp2
  go_loopw[5] (λs5 wr=>∃j:Nat,1<=j/\j<=n/\s5=int i64 j/\FM wr N j (Dp (AG ws).up (AG ws).byt (j-1))/\wr.heap[g]?=some (.cells #[slice ua n uc,slice da dn dc,slice xa xn xc,slice ba n bc,.map (some N),slice (some ⟨q,0,none⟩) n n] 277 (0,0))/\AU q (List.replicate n 0) wr/\wr.heap[w.heap.size]?=some (.cells #[slice ua n uc,slice da dn dc,slice xa xn xc,slice ba n bc] 150 (0,0))/\Bt w wr) (λs5 _=>n-(intOf s5).toNat)
  case atStart=>exact⟨1,AC _,aB,rfl,(show FM wc N 1 (λ_=>none) from ak.mono om),al,ag,J,ae⟩
  case round=>
   clear ak al ag J ae;obtain⟨j,aI,aV,rfl,hm,D,C,J,Z⟩:=hrel;have k0:wr.cell? ⟨w.heap.size,0,none⟩=some (slice ua n uc):=by simp[cell?,J]
   have k3:wr.cell? ⟨w.heap.size,3,none⟩=some (slice ba n bc):=by simp[cell?,J]
   have g4:wr.cell? ⟨g,4,none⟩=some (.map (some N)):=by simp[cell?,D]
   by_cases aH:j<n
   ·have hd:decide ((j:Int)<n)=true:=by simp;omega
    obtain⟨y,x⟩:∃y,(AB ws)[j]?=some y:=⟨(AB ws)[j]'(by have:=Y.out;omega),by simp⟩;obtain⟨b0,o0,u,e0,aG,cu,hu⟩:=DG (HT.out.below Z).up aH;obtain⟨b3,o3,c,e3,aF,cb,hc⟩:=DG (HT.out.below Z).byt.1 aH;dsimp only at e0 e3;subst e0 e3;have am:=HT.out.byt.2 c (AX hc);obtain⟨t1,t2,_⟩:=JC x;obtain⟨k,hk⟩:=DR (LR (AX x));have I:=CV (CL ws).nodup hk;have be:k<n:=by have:=(AP.1 hk).1;have:=Y.out;omega
    rw[t1,I]at hu;obtain rfl:(k:Int)=u:=AK hu;have HE:Hid ((λp=>if p=((k:Int),c) then some (j:Int) else Dp (AG ws).up (AG ws).byt (j-1) p)=Dp (AG ws).up (AG ws).byt (j+1-1)):=by
     obtain⟨i,rfl⟩:∃i,j=i+1:=⟨j-1,by omega⟩
     funext p
     show _=Dp _ _ (i+1) p
     conv=>rhs;unfold Dp
     rw[t1,I,hc];simp
    have i1:(0:Int)<=(j:Int):=by omega
    have i2:(j:Int)<(n:Int):=by omega
    clear t1 t2 hk I x hu hc;go_upto_region 7 with fail
    refine Hw 16 mixed kr ?_;dsimp only[List.take_succ_cons,List.take_zero,List.drop_succ_cons,List.drop_zero]
    repeat (go_big_quiet_step (fail))
    refine wpQuiet_nil ?_;rintro _ ⟨nq,rfl⟩;have H:=AN wr nq;refine adb rfl _ _ _ rfl rfl (hm.below H) (by unfold maxLen;omega) (k:Int) c j (by simp[Lit.wf,IntKind.min,IntKind.max,IntKind.signed,IntKind.bits];omega) om am rfl rfl ?_;intro w5 aC a8;rw[HE.out]at aC;have gg:w5.heap[g]?=_:=(a8.block g (AD.1 D).1 (by intro e;injection e with e;exact aK e)).trans D;have gq:AU q (List.replicate n 0) w5:=(a8.block q (AD.1 (show wr.heap[q]?=_ from C)).1 (by intro e;injection e with e;exact aj e.symm)).trans C;have gw:w5.heap[w.heap.size]?=_:=(a8.block _ (AD.1 J).1 (by intro e;injection e with e;omega)).trans J;have aX:Bt w w5:=(Z.trans (H.mono Z.size)).grown a8 Z.size (λk e=>by cases e;omega);go_wp2
    go_roundw
    case rel=>exact⟨j+1,by omega,by omega,by go_num,aC,gg,gq,gw,aX⟩
    case measure=>simp[intOf];omega
   ·obtain rfl:j=n:=by omega
    have hd:decide ((j:Int)<j)=false:=by simp
    have au:AU q (Cq ws j 1) wr:=by rw[aif Y.out aI];exact C
    have HE:Hid (Dp (AG ws).up (AG ws).byt (j-1)=Ex ws):=by unfold Hid Ex;rw[Y.out]
    rw[HE.out]at hm;clear C aV hd k3 g4;go_upto_region 8 with fail
    clear k0;go_wp2
    go_loopw[6] (λs6 wr=>∃i:Nat,1<=i/\i<=j/\s6=int i64 i/\FM wr N j (Ex ws)/\wr.heap[g]?=some (.cells #[slice ua j uc,slice da dn dc,slice xa xn xc,slice ba j bc,.map (some N),slice (some ⟨q,0,none⟩) j j] 277 (0,0))/\AU q (Cq ws j i) wr/\wr.heap[w.heap.size]?=some (.cells #[slice ua j uc,slice da dn dc,slice xa xn xc,slice ba j bc] 150 (0,0))/\Bt w wr) (λs6 _=>j-(intOf s6).toNat)
    case atStart=>exact⟨1,AC _,aI,rfl,hm,D,au,J,Z⟩
    case round=>
     clear hm D au J Z;obtain⟨i,bf,a7,rfl,hm,D,C,J,Z⟩:=hrel;have k0:wr.cell? ⟨w.heap.size,0,none⟩=some (slice ua j uc):=by simp[cell?,J]
     by_cases a6:i<j
     ·have hd:decide ((i:Int)<j)=true:=by simp;omega
      obtain⟨y,x⟩:∃y,(AB ws)[i]?=some y:=⟨(AB ws)[i]'(by have:=Y.out;omega),by simp⟩;obtain⟨b0,o0,u,e0,aG,cu,hu⟩:=DG HT.out.up a6;obtain⟨b3,o3,c,e3,aF,cb,hc⟩:=DG HT.out.byt.1 a6;dsimp only at e0 e3;subst e0 e3;have am:=HT.out.byt.2 c (AX hc);obtain⟨t1,t2,_⟩:=JC x;obtain⟨k,hk⟩:=DR (LR (AX x));have I:=CV (CL ws).nodup hk;rw[t1,I]at hu;obtain rfl:(k:Int)=u:=AK hu;obtain⟨v,a1,aR,ar,aQ,af,aq⟩:=am7 x om (show(AG ws).up[i]?=some (k:Int) by rw[t1,I]);rw[t2]at hc ar;obtain rfl:DU y=c:=AK hc;have HP:=AA (JP x);have i1:(0:Int)<=(i:Int):=by omega
      have i2:(i:Int)<(j:Int):=by omega
      have c1:wr.cell? ⟨b0,o0+i,none⟩=some (int i64 (k:Int)):=(Z.cell (p:=⟨b0,o0+i,none⟩) aG).trans cu;clear t1 t2 I hu hk hc ar aQ
      by_cases hz:k=0
      ·subst hz;have HS:Hid (Cq ws j i=Cq ws j (i+1)):=aiW Y.out a6 (by rw[HP.out,af rfl]);clear af aq a1 x;rw[HS.out]at C;go_wp2
       go_roundw
       case rel=>exact⟨i+1,by omega,by omega,by go_num,hm,D,C,J,Z⟩
       case measure=>simp[intOf];omega
      ·obtain⟨p,s,ay,ax,aw⟩:=aq hz;obtain⟨p2,e1,e2,e3⟩:=(aiJ ws (k+1)).at_ (Nat.lt_succ_self k) a1 hz;have a2:=JP a1;rw[ay]at a2;have bb:p<k:=by rw[a2]at e1;have:=AK e1;omega
       have ad:(Cq ws j i)[k]?=some (p:Int):=by rw[ajl aR a7 Y.out];exact a2
       obtain⟨V,hV⟩:∃V,Gc ws y=V:=⟨_,rfl⟩;have b2:Hid ((Bo ws)[i]?=some V):=by rw[Hid,<-hV];exact HP.out
       have aU:=alf (ws:=ws) (j:=i) Y.out a7;have B:g<wr.heap.size:=(AD.1 D).1;have av:q<wr.heap.size:=(AD.1 (show wr.heap[q]?=_ from C)).1;have ac:w.heap.size<wr.heap.size:=(AD.1 J).1;have row:∀d os,AU q (Cq ws j i) (grow (redrawn wr d) os):=λd os=>((Kf wr d os).block q av).trans C;have aM:∀d os,Calls ZP 216 #[pointer (some ⟨g,0,none⟩),int i64 (p:Int),.int .u8 (DU y)] (grow (redrawn wr d) os) λe w'=>e=.returned (int i64 V)/\Below (grow (redrawn wr d) os).heap.size (grow (redrawn wr d) os) w':=λd os=>by
        have hb:=Kf wr d os;have:=akb g N q j j i p ws (Cq ws j i) _ s (DU y) (grow (redrawn wr d) os) ((hb.block g B).trans D) rfl rfl (hm.below hb) (row d os) aU Y.out om (an2 a7 Y.out) a7 om ax am
        rwa[<-aw,hV]at this
       have b1:=AA aM;have g5:∀d os,(grow (redrawn wr d) os).cell? ⟨g,5,none⟩=some (slice (some ⟨q,0,none⟩) j j):=λd os=>by have:(grow (redrawn wr d) os).heap[g]?=_:=((Kf wr d os).block g B).trans D;simp[cell?,this]
       have k3:∀d os,(grow (redrawn wr d) os).cell? ⟨w.heap.size,3,none⟩=some (slice (some ⟨b3,o3,none⟩) j bc):=λd os=>by have:(grow (redrawn wr d) os).heap[w.heap.size]?=_:=((Kf wr d os).block _ ac).trans J;simp[cell?,this]
       have rq:∀d os,(grow (redrawn wr d) os).cell? ⟨q,k,none⟩=some (int i64 (p:Int)):=λd os=>by rw[cell_of_row _ q k _ _ _ (row d os)];simp[ad]
       have aY:∀d os,(grow (redrawn wr d) os).cell? ⟨b3,o3+i,none⟩=some (.int .u8 (DU y)):=λd os=>by have h1:=Z.cell (p:=⟨b3,o3+i,none⟩) aF;exact((Kf wr d os).cell (p:=⟨b3,o3+i,none⟩) (by show b3<wr.heap.size;have:=Z.size;omega)).trans (h1.trans cb)
       have aZ:=AA row;have bd:((k:Int) != 0)=true:=by simp;omega
       have i3:(0:Int)<=(k:Int):=by omega
       have i4:(k:Int)<(j:Int):=by omega
       clear aM ay ax aw hV ad e1 e2 e3 a2 row a1 af x;go_upto_region 13 with fail
       refine aaQ 20 mixed kr ?_;dsimp only[List.take_succ_cons,List.take_zero,List.drop_succ_cons,List.drop_zero]
       repeat (go_big_quiet_step (exact Eu (b1.out _ _)))
       refine wpQuiet_nil ?_;rintro _ ⟨⟨dq,U⟩,rfl⟩;have aa:=Kf wr dq U;have hI:=aZ.out dq U;have fq:(grow (redrawn wr dq) U).frozen? ⟨q,i,none⟩=false:=by simp[frozen?,show(grow (redrawn wr dq) U).heap[q]?=_ from hI]
       have cq:∃z:Int,(grow (redrawn wr dq) U).cell? ⟨q,i,none⟩=some (int i64 z):=by refine⟨(Cq ws j i)[i]'om,?_⟩;rw[cell_of_row _ q i _ _ _ hI];simp
       obtain⟨z,cq⟩:=cq;have aN:=hI.set (j:=i) V;rw[agy Y.out a6 b2.out]at aN;have gg:((grow (redrawn wr dq) U).setCell ⟨q,i,none⟩ (int i64 V)).heap[g]?=_:=(AQ _ _ _ _ (by show g≠q;exact aJ)).trans ((aa.block g B).trans D);have gw:((grow (redrawn wr dq) U).setCell ⟨q,i,none⟩ (int i64 V)).heap[w.heap.size]?=_:=(AQ _ _ _ _ (by show w.heap.size≠q;omega)).trans ((aa.block _ ac).trans J);have gm:FM ((grow (redrawn wr dq) U).setCell ⟨q,i,none⟩ (int i64 V)) N j (Ex ws):=(hm.below aa).set (Ne.symm aj) _;have aW:Bt w ((grow (redrawn wr dq) U).setCell ⟨q,i,none⟩ (int i64 V)):=(Z.trans (aa.mono Z.size)).setCell (by show w.heap.size<=q;omega) _;clear g5 k3 rq aY;go_wp2
       go_roundw
       case rel=>exact⟨i+1,by omega,by omega,by go_num,gm,gg,aN,gw,aW⟩
       case measure=>simp[intOf];omega
     ·obtain rfl:i=j:=by omega
      have hd:decide ((i:Int)<i)=false:=by simp
      have HF:Hid (Cq ws i i=Bo ws):=by unfold Hid Cq;rw[FG,List.replicate_zero,Cx,Ap (by rw[JO,Y.out];exact AC _)]
      rw[HF.out]at C;go_wp2;go_ret2;exact⟨g,rfl,⟨⟨N,q,i,by rw[Y.out];exact D,hm,C,by rw[JO],by omega,by omega,by omega,aK,aJ,aj,by omega⟩⟩,Z⟩
section
attribute[local go_sem] Oper.semAt_some
attribute[local simp] Ak Al
attribute[local go_sem] Ak Al
theorem ack(t:TV)(T:Ay)(X ws:La)(w:World)(U:Tri w t T)(J:t.un<=140737488351232)(V:CI T=some (X,ws)) :Calls ZP 127 #[.agg t.cells] w λe w'=>∃q,e=.returned (.tuple #[slice (some ⟨q,0,none⟩) (AB ws).length (AB ws).length,int i64 0])/\AU q (Bo ws) w'/\w.heap.size<=q/\Bt w w':=by
 obtain⟨ua,un,uc,da,dn,dc,xa,xn,xc,ba,bn,bc⟩:=t;have hB:=AL w (.cells #[slice ua un uc,slice da dn dc,slice xa xn xc,slice ba bn bc] 150);have I:=AA (aiQ _ T X ws _ (U.below hB) J V);clear U V;go_enter func127,ntmps127
 go_wp2_with fail
 refine I.out.mono ?_;rintro e N ⟨g,rfl,Y,Z⟩;obtain⟨D,q,H,h1,h2,h3,h4,h5,h6,h7,_⟩:=Y.ex;have c5:N.cell? ⟨g,5,none⟩=some (slice (some ⟨q,0,none⟩) (AB ws).length (AB ws).length):=by simp[cell?,h1]
 simp only[DN]at h7;clear h1 h2 h4;go_wp2;go_ret2;exact⟨q,rfl,h3,by omega,hB.trans (Z.mono hB.size)⟩
end
theorem Hx{T:Ay}{Y ws:La}(Z:CI T=some (Y,ws)):(AB ws).length<=400:=by obtain⟨_,_,h⟩:=Fy.1 Z;rw[<-h];exact(abf Z).1
theorem AU.sl1{g:Nat}{l:List Int}{W:World}(h:AU g l W):Sl1 (int i64) W (some ⟨g,0,none⟩) l.length l:=
 ⟨rfl,.inr ⟨g,0,rfl,(AD.1 (show W.heap[g]?=_ from h)).1,λi x Z=>by rw[cell_of_row W g (0+i) _ _ _ h];simp[Z]⟩⟩
end Go.Proofs.YtaamacoicojhnaaGreat
