/- Proofs over the given program, part 9. -/
import Derived.Test.YtaamacoicojhnaaGreatZB8
set_option linter.unusedVariables false
set_option linter.unusedSimpArgs false
set_option maxRecDepth 100000
set_option maxHeartbeats 16000000
open Go.Proofs.Tryz
open Go.Proofs.Tryz renaming prog→ZP
namespace Go.Proofs.YtaamacoicojhnaaGreat
open Go.RowKit Go.Sort
def nTo (P:List Int)(n j:Nat):List Int:=P.take j++List.replicate (n-j) 0
theorem auC {P:List Int}{n j:Nat}(Z:P.length=n)(Y:j<=n):(nTo P n j).length=n:=by
 unfold nTo;rw [List.length_append,ay6,axC];omega
theorem avx {P:List Int}{n j i:Nat}(Z:i<j)(X:j<=n)(Y:P.length=n):(nTo P n j)[i]?=P[i]?:=by
 unfold nTo;rw [ax8 (by rw [ay6];omega),awS,if_pos Z]
theorem auv {P:List Int}{n:Nat}(h1:1<=n)(h0:P[0]?=some 0):nTo P n 1=List.replicate n 0:=by
 obtain⟨m,rfl⟩:∃m,n=m+1:=⟨n-1,by omega⟩;have Z:=aa7 h0;unfold nTo;rw [Z,ayf];simp
theorem au5 {P:List Int}{n j:Nat}{v:Int}(V:P.length=n)(U:j<n)(Z:P[j]?=some v):(nTo P n j).set j v=nTo P n (j+1):=by
 unfold nTo;obtain⟨m,Y⟩:∃m,n-j=m+1:=⟨n-j-1,by omega⟩;have X:(P.take j).length=j:=by rw [ay6];omega
 rw [ayg _ _ (by omega),X,ayh,Y,ayf,List.set_cons_zero,aa7 Z,show n-(j+1)=m by omega,ayi]
 rfl
theorem auO {P:List Int}{n:Nat}(Z:P.length=n):nTo P n n=P:=by
 unfold nTo;rw [ayh,List.replicate_zero,ayj,axo (by omega)]
structure aw5 (W:World)(base g:Nat)(t:TV)(ws:List (List Int)):Prop where
 ex:∃q:Nat,W.heap[g]?=some (.cells #[.slice t.ua t.un t.uc,.slice t.da t.dn t.dc,.slice t.xa t.xn t.xc,.slice t.ba t.bn t.bc,.slice (some ⟨q,0,none⟩) (aa0 ws).length (aa0 ws).length] 238 (0,0))/\aaa q (aay ws) W/\base<=g/\base<=q
theorem aw5.below {W V:World}{base g:Nat}{t:TV}{ws:List (List Int)}(h:aw5 W base g t ws)(Z:Below W.heap.size W V):aw5 V base g t ws:=by
 obtain⟨q,h1,h2,h3⟩:=h.ex;exact⟨q,(Z.block g (awU.1 h1).1).trans h1,(Z.block q (awU.1 (show W.heap[q]?=_ from h2)).1).trans h2,h3⟩
theorem ajW (t:TV)(T:aaN)(sp ws:List (List Int))(w:World)(hT:Tri w t T)(hb:t.un<=140737488351232)(hr:abI T=some (sp,ws)) :
  Calls ZP 133 #[.agg t.cells] w fun e w'=>∃g,e=.returned (.tuple #[.pointer (some ⟨g,0,none⟩),.bool true])/\aw5 w' w.heap.size g t ws/\Below w.heap.size w w':=by
 have a2:=afO hr;obtain⟨_,ab,_⟩:=ab6.1 hr;obtain⟨ua,un,uc,da,dn,dc,xa,xn,xc,ba,bn,bc⟩:=t;have Y:xn=(aa0 ws).length:=by have:=hT.wrd.1;rw [ab] at this;simp [aa5] at this;exact this.symm
 have ap:=ax3 Y;clear Y;have a6:1<=(aa0 ws).length:=by
  have:=adD ws;have:(aa0 ws).length≠0:=fun e=>this (ayk e);omega
 obtain⟨W,hW⟩:∃W,W=w.alloc (.cells #[.slice ua un uc,.slice da dn dc,.slice xa xn xc,.slice ba bn bc] 150):=⟨_,rfl⟩;have hB:Below w.heap.size w W:=by rw [hW];exact aa1 _ _
 have hQ:W.heap[w.heap.size]?=some (.cells #[.slice ua un uc,.slice da dn dc,.slice xa xn xc,.slice ba bn bc] 150 (0,0)):=by rw [hW];exact axg _ _
 have c0:W.cell? ⟨w.heap.size,0,none⟩=some (.slice ua un uc):=by simp [World.cell?,hQ]
 have c1:W.cell? ⟨w.heap.size,1,none⟩=some (.slice da dn dc):=by simp [World.cell?,hQ]
 have c2:W.cell? ⟨w.heap.size,2,none⟩=some (.slice xa xn xc):=by simp [World.cell?,hQ]
 have c3:W.cell? ⟨w.heap.size,3,none⟩=some (.slice ba bn bc):=by simp [World.cell?,hQ]
 have HC:=ax3 (aiv _ T sp ws W (hT.below hB) hb hr);have aI:Hid (Sl1 (Value.int .i64) w xa xn (aa5 ws).wrd):=by rw [Hid,<-ab];exact hT.wrd
 clear hT hr ab;go_enter func133,ntmps133;go_upto_region 1 with fail
 rw [<-hW];clear hW
 go_wp2_with fail
 refine HC.out.mono ?_;rintro e A ⟨q0,rfl,o,aN,aa⟩;have D:=hB.trans (aa.mono hB.size);have X:A.heap[w.heap.size]?=_:=(aa.block _ (awU.1 hQ).1).trans hQ;clear c0 c1 c2 c3 hQ HC hB aa;have aJ:=ax3 (aI.out.below D);have aK:=ax3 X;obtain⟨n,a1⟩:∃n,(aa0 ws).length=n:=⟨_,rfl⟩;have N:=ax3 a1;have Y:=ap.out;rw [a1] at a2 a6 Y ⊢;clear ap
 replace Y:=Y.symm
 subst Y;have ax:∀V:World,(Instr.makeSlice 30 (.int .i64 n) (.int .i64 n)).run ZP V=.ok (.slice (some ⟨V.heap.size,0,none⟩) n n) (V.alloc (.cells (abW n) 3)):=fun V=>by
  obtain⟨i0,hi,au,ac,ar⟩:=info_parts ac8;have h:=run_makeSlice (P:=ZP) (w:=V) 30 3 i0 (.int .i64 0) underlying30 hi au .i64 .i64 (n:Int) (n:Int) (by omega) (by omega) (by rw [ac];omega) (by rw [ar];omega) (by omega);rw [ac] at h;have e1:(n:Int).toNat*1=n:=by omega
  rw [e1,aeP,axs] at h;exact h
 clear a1;have ai:w.heap.size<A.heap.size:=(awU.1 X).1;have ag:w.heap.size≠A.heap.size:=by omega
 have ah:w.heap.size<A.heap.size+1:=by omega
 have c0:A.cell? ⟨w.heap.size,0,none⟩=some (.slice ua un uc):=by simp [World.cell?,X]
 have c1:A.cell? ⟨w.heap.size,1,none⟩=some (.slice da dn dc):=by simp [World.cell?,X]
 have c2:A.cell? ⟨w.heap.size,2,none⟩=some (.slice xa n xc):=by simp [World.cell?,X]
 have c3:A.cell? ⟨w.heap.size,3,none⟩=some (.slice ba bn bc):=by simp [World.cell?,X]
 go_upto_region 4 with fail
 go_cut [6] (fun s6 wx=>∃g q:Nat,s6=.pointer (some ⟨g,0,none⟩)/\wx.heap[g]?=some (.cells #[.slice ua un uc,.slice da dn dc,.slice xa n xc,.slice ba bn bc,.slice (some ⟨q,0,none⟩) n n] 238 (0,0))/\aaa q (List.replicate n 0) wx/\g≠q/\A.heap.size<=g/\A.heap.size<=q/\Below A.heap.size A wx)
 case first=>
  go_region
  all_goals
   go_wp2_with fail
   go_meet
   refine⟨A.heap.size+1,A.heap.size,rfl,ad5 (by simp) _,?_,by omega,by omega,by omega,?_⟩
   · exact (axi _ _ _ (by simp)).trans (aaa.new A n)
   · exact ((aa1 A _).alloc (by simp) _).trans ⟨rfl,rfl,rfl,axe _,fun _ _=>rfl⟩
 case rest=>
  obtain⟨g,q,rfl,hg,H,aB,aS,ae,Z⟩:=hcut;clear c0 c1 c2 c3 ax ag ah X;have am:∀V:World,Below A.heap.size A V->aaa q0 (aaA ws) V:=fun V hV=>(hV.block q0 (awU.1 (show A.heap[q0]?=_ from o)).1).trans o;have aM:=ax3 am;have aL:Hid ((aay ws)[0]?=some 0):=by rw [Hid,abv (by rw [N.out];omega),ahz];rfl
  have C:Hid ((aay ws).length=n):=by rw [Hid,ao1,N.out]
  have af:aaa q (nTo (aay ws) n 1) wc:=by rw [auv a6 aL.out];exact H
  clear am H o;go_wp2
  go_loopw [7] (fun s7 wr=>∃j:Nat,1<=j/\j<=n/\s7=.int .i64 j/\wr.heap[g]?=some (.cells #[.slice ua un uc,.slice da dn dc,.slice xa n xc,.slice ba bn bc,.slice (some ⟨q,0,none⟩) n n] 238 (0,0))/\aaa q (nTo (aay ws) n j) wr/\Below A.heap.size A wr) (fun s _=>n-(intOf s).toNat)
  case atStart=>exact⟨1,axe _,a6,rfl,hg,af,Z⟩
  case round=>
   clear hg af Z;obtain⟨j,aQ,ak,rfl,hg,H,Z⟩:=hrel
   by_cases a8:j<n
   ·
    have hd:decide ((j:Int)<n)=true:=by simp;omega
    obtain⟨x,hx⟩:∃x,(aa0 ws)[j]?=some x:=⟨(aa0 ws)[j]'(by have:=N.out;omega),by simp⟩;obtain⟨k,a7,_,aj,aA⟩:=af6 hx;have az:=aj (by omega);obtain⟨b0,o0,v,e0,ay,cv,hv⟩:=abm aJ.out (show k<n by omega);have B:=aqZ (by omega) (by rw [N.out];exact a8) a7 hv;have U:=abv (ws:=ws) (z:=j) (by rw [N.out];exact a8);rw [B] at U;have aP:wr.cell? ⟨q0,j,none⟩=some (.int .i64 (k:Int)):=by
     rw [cell_of_row wr q0 j _ _ _ (aM.out wr Z)];simp [a7]
    have al:wr.heap[w.heap.size]?=_:=(Z.block _ ai).trans aK.out;have x2:wr.cell? ⟨w.heap.size,2,none⟩=some (.slice xa n xc):=by simp [World.cell?,al]
    subst e0;have aU:wr.cell? ⟨b0,o0+k,none⟩=some (.int .i64 v):=(Z.cell (p:=⟨b0,o0+k,none⟩) ay).trans cv;have g4:wr.cell? ⟨g,4,none⟩=some (.slice (some ⟨q,0,none⟩) n n):=by simp [World.cell?,hg]
    have av:=auC (P:=aay ws) C.out ak;have I:∀(i:Nat) (y:Int),(nTo (aay ws) n j)[i]?=some y->wr.cell? ⟨q,i,none⟩=some (.int .i64 y):=fun i y hy=>by
     rw [cell_of_row wr q i _ _ _ H];simp [hy]
    have aC:wr.frozen? ⟨q,j,none⟩=false:=by simp [World.frozen?,show wr.heap[q]?=_ from H]
    obtain⟨y0,ad⟩:∃y,(nTo (aay ws) n j)[j]?=some y:=⟨(nTo (aay ws) n j)[j]'(by omega),by simp⟩;have cj:=I j y0 ad;have ck:=I k (nx ws k) (by rw [avx az ak C.out];exact abv (by rw [N.out];omega));have aR:g<wr.heap.size:=(awU.1 hg).1;have aw:q<wr.heap.size:=(awU.1 (show wr.heap[q]?=_ from H)).1;have ao:∀z:Int,(aay ws)[j]?=some z->aaa q (nTo (aay ws) n (j+1)) (wr.setCell ⟨q,j,none⟩ (.int .i64 z))/\(wr.setCell ⟨q,j,none⟩ (.int .i64 z)).heap[g]?=some (.cells #[.slice ua un uc,.slice da dn dc,.slice (some ⟨b0,o0,none⟩) n xc,.slice ba bn bc,.slice (some ⟨q,0,none⟩) n n] 238 (0,0))/\Below A.heap.size A (wr.setCell ⟨q,j,none⟩ (.int .i64 z)):=fun z hz=>
     ⟨by have:=H.set (j:=j) z;rwa [au5 C.out a8 hz] at this,(axn _ _ _ _ (by show g≠q;exact aB)).trans hg,Z.setCell ae _⟩
    have aq:=ax3 ao;have j1:(0:Int)<=(j:Int):=by omega
    have j2:(j:Int)<(n:Int):=by omega
    have k1:(0:Int)<=(k:Int):=by omega
    have k2:(k:Int)<(n:Int):=by omega
    clear ao hx a7 aj aA hv B al I ad av
    by_cases J:0<=v
    ·
     have dv:decide ((0:Int)<=v)=true:=by simpa using J
     rw [if_pos J] at U;obtain⟨f1,f2,f3⟩:=aq.out _ U;clear U J;go_wp2
     go_roundw
     case rel=>exact⟨j+1,by omega,by omega,by go_num,f2,f1,f3⟩
     case measure=>simp [intOf];omega
    ·
     have dv:decide ((0:Int)<=v)=false:=by simpa using J
     rw [if_neg J] at U;clear J;go_upto_region 11 with fail
     refine aak 13 mixed (by kernel_rfl) ?_;dsimp only [List.take_succ_cons,List.take_zero,List.drop_succ_cons,List.drop_zero]
     repeat (go_big_quiet_step (fail))
     refine wpQuiet_nil ?_;rintro _ ⟨nq,rfl⟩;obtain⟨f1,f2,f3⟩:=aq.out _ U;have aD:((wr.drewN nq).setCell ⟨q,j,none⟩ (.int .i64 (nx ws k:Int))).heap=(wr.setCell ⟨q,j,none⟩ (.int .i64 (nx ws k:Int))).heap:=rfl;have aH:aaa q (nTo (aay ws) n (j+1)) ((wr.drewN nq).setCell ⟨q,j,none⟩ (.int .i64 (nx ws k:Int))):=f1;have aG:((wr.drewN nq).setCell ⟨q,j,none⟩ (.int .i64 (nx ws k:Int))).heap[g]?=some (.cells #[.slice ua un uc,.slice da dn dc,.slice (some ⟨b0,o0,none⟩) n xc,.slice ba bn bc,.slice (some ⟨q,0,none⟩) n n] 238 (0,0)):=f2;have aF:Below A.heap.size A ((wr.drewN nq).setCell ⟨q,j,none⟩ (.int .i64 (nx ws k:Int))):=(Z.trans ((aa2 wr nq).mono Z.size)).setCell ae _;have aV:(wr.drewN nq).cell? ⟨q,j,none⟩=some (.int .i64 y0):=cj;have aT:(wr.drewN nq).frozen? ⟨q,j,none⟩=false:=aC;have aO:q<(wr.drewN nq).heap.size:=aw;clear f1 f2 f3 aD U;go_wp2
     go_roundw
     case rel=>exact⟨j+1,by omega,by omega,by go_num,aG,aH,aF⟩
     case measure=>simp [intOf];omega
   ·
    obtain rfl:j=n:=by omega
    have hd:decide ((j:Int)<j)=false:=by simp
    rw [auO C.out] at H;have aE:=D.trans (Z.mono D.size);have hs:=D.size;go_wp2;go_ret2;exact⟨g,rfl,⟨⟨q,by rw [N.out];exact hg,H,by omega,by omega⟩⟩,aE⟩
section
attribute [local go_sem] Oper.semAt_some
attribute [local simp] aab aa6
attribute [local go_sem] aab aa6
abbrev NdP (n:Nat):={ z:Nat // z<n }
def aup {n:Nat}(z:NdP n):Array Value:=#[.int .i64 (z.1:Int)]
theorem apn (g:Nat)(node:Int)(w:World) :
  Calls ZP 136 #[.pointer (some ⟨g,0,none⟩),.int .i64 node] w fun e w'=>e=.returned (.func (.func 188) #[] #[.pointer (some ⟨w.heap.size+1,0,none⟩),.pointer (some ⟨w.heap.size,0,none⟩)])/\
   w'=(w.alloc (.cells #[.pointer (some ⟨g,0,none⟩)] 234)).alloc (.cells #[.int .i64 node] 3):=by
 go_enter func136,ntmps136;go_wp2;go_ret;exact⟨rfl,rfl⟩
theorem anC (ws:List (List Int))(g C p2 q n B o0 xc:Nat)(z0:Nat)(s0 s1 s3:Value)(S:Nat->Prop)(m:Nat)(w:World)
  (hg:w.heap[g]?=some (.cells #[s0,s1,.slice (some ⟨B,o0,none⟩) n xc,s3,.slice (some ⟨q,0,none⟩) n n] 238 (0,0))) (hq:aaa q (aay ws) w) (hN:(aa0 ws).length=n) (hn:n<=1000000)
  (hW:∀(i:Nat) (v:Int),(aa5 ws).wrd[i]?=some v->w.cell? ⟨B,o0+i,none⟩=some (.int .i64 v))
  (h1:Boxed w C 234 (.pointer (some ⟨g,0,none⟩))) (h2:Boxed w p2 3 (.int .i64 (z0:Int)))
  (hS:S g/\S q/\S C/\S p2/\S B) (D:∀k,S k->k<w.heap.size) (af:z0<n) :
  SeqStopsK Fence.wide m ZP 188 #[.pointer (some ⟨p2,0,none⟩),.pointer (some ⟨C,0,none⟩)] aup (ab0 S) (fun zs:List (NdP n)=>zs.map Subtype.val=afo ws z0) (fun Z=>∃r,afo ws z0=Z.map Subtype.val++r) (z0+1) w:=by
 intro l J Jx W ac hJ ah hY h0;obtain⟨aa,y,a8,a7,a6⟩:=hS;have cells:∀v:World,ab0 S w v->v.cell? ⟨C,0,none⟩=some (.pointer (some ⟨g,0,none⟩))/\v.cell? ⟨p2,0,none⟩=some (.int .i64 (z0:Int))/\v.cell? ⟨g,2,none⟩=some (.slice (some ⟨B,o0,none⟩) n xc)/\v.cell? ⟨g,4,none⟩=some (.slice (some ⟨q,0,none⟩) n n)/\
   (∀(j:Nat) (x:Int),(aay ws)[j]?=some x->v.cell? ⟨q,j,none⟩=some (.int .i64 x))/\(∀(j:Nat) (x:Int),(aa5 ws).wrd[j]?=some x->v.cell? ⟨B,o0+j,none⟩=some (.int .i64 x)):=by
  intro v X;have e1:v.heap[C]?=some (.cells #[.pointer (some ⟨g,0,none⟩)] 234 (0,0)):=(X C a8).trans h1;have e2:v.heap[g]?=_:=(X g aa).trans hg;have e3:v.heap[q]?=some (.cells ((aay ws).map (Value.int .i64)).toArray 3 (0,0)):=(X q y).trans hq;have e4:v.heap[p2]?=some (.cells #[.int .i64 (z0:Int)] 3 (0,0)):=(X p2 a7).trans h2;refine⟨by simp [World.cell?,e1],by simp [World.cell?,e4],by simp [World.cell?,e2],by simp [World.cell?,e2],fun j x hx=>?_,fun j x hx=>?_⟩
  · rw [cell_of_row v q j _ _ _ e3];simp [hx]
  · rw [<-hW j x hx];exact axp (X B a6)
 have HC:=ax3 cells;have H:ab0 S w W:=aaQ ac D;have N:=ax3 hN;have aj:=ax3 D;clear hg hq h1 h2 cells hW hN D;obtain⟨c1,c2,_,_,_,_⟩:=HC.out W H;refine callsIn_of_wp func188 rfl trivial ?_ rfl;simp only [ntmps188,axT,axU,axV,Nat.reduceAdd,Nat.reduceSub,axW,axX,axY,axZ,ay0,ay1]
 gi_wp2
 clear c1 c2
 gi_loopw [4] (fun s4 wr=>∃(z f:Nat) (Z:List (NdP n)),z<=f/\z<=z0/\s4=.int .i64 (z:Int)/\Hid (afo ws z0=Z.map Subtype.val++ae5 (aay ws) (aa5 ws).wrd f z)/\J Z wr/\ab0 S w wr) (fun s _=>(intOf s).toNat)
 case atStart=>exact⟨z0,z0,[],axe _,axe _,rfl,rfl,h0,H⟩
 case round=>
  clear H;obtain⟨z,f,Z,ae,ad,rfl,HP,hj,hk⟩:=hrel;obtain⟨c1,c2,c3,c4,c5,c6⟩:=HC.out wr hk
  by_cases hz:z=0
  ·
   subst hz;have A:Hid (Z.map Subtype.val=afo ws z0):=by rw [Hid,HP.out,abN,ayj]
   gi_wp2
   go_end0
   exact⟨⟨_,rfl⟩,.inl ⟨Z,A.out,hj⟩⟩
  ·
   obtain⟨f,rfl⟩:∃f',f=f'+1:=⟨f-1,by omega⟩;obtain⟨v,X⟩:∃v,(aa5 ws).wrd[z]?=some v:=⟨(aa5 ws).wrd[z]'(by rw [(afy ws).1,N.out];omega),by simp⟩;have U:=abv (ws:=ws) (z:=z) (by rw [N.out];omega);have ab:=agi (ws:=ws) (z:=z) (by omega) (by rw [N.out];omega);have Y:=HP.out;rw [afr,if_neg hz,X,ayr] at Y;rw [U,ayr,axs] at Y ab;have cw:=c6 z v X;have cn:=c5 z _ U;have ag:((z:Int) != 0)=true:=by simp;omega
   have i1:(0:Int)<=(z:Int):=by omega
   have i2:(z:Int)<(n:Int):=by omega
   have I:z<n:=by omega
   by_cases V:0<=v
   ·
    have dv:decide ((0:Int)<=v)=true:=by simpa using V
    rw [if_pos V] at Y;have A:Hid (afo ws z0=(Z++[(⟨z,I⟩:NdP n)]).map Subtype.val++ae5 (aay ws) (aa5 ws).wrd f (nx ws z)):=by rw [Hid,Y];simp
    have h:Z.length<z0+1:=by
     have h1:=congrArg List.length Y;have h2:=agN (aay ws) (aa5 ws).wrd z0 z0;unfold afo at h1;rw [List.length_append,List.length_append,ayq,aza] at h1;omega
    obtain⟨fn,tmps,assign,body,o,a2⟩:=hY Z ⟨z,I⟩ wr hj h;dsimp only [aup] at o;clear Y X U
    gi_wp2
    refine a2.mono ?_;rintro e W4 (⟨rfl,hJ4,hk4⟩ | ⟨rfl,hJx4⟩)
    ·
     have a1:=abp hk hk4;obtain⟨d1,d2,d3,d4,d5,d6⟩:=HC.out W4 a1;have dn:=(hk4 q y);have ai:W4.cell? ⟨q,z,none⟩=some (.int .i64 (nx ws z:Int)):=d5 z _ (abv (by rw [N.out];omega));clear c1 c2 c3 c4 c5 c6 cw cn d5 d6 a2 o dn
     gi_wp2
     go_roundw
     case rel=>exact⟨nx ws z,f,_,by omega,by omega,rfl,A,hJ4,a1⟩
     case measure=>simp [intOf];omega
    ·
     have HG:Hid (∃r,afo ws z0=(Z++[(⟨z,I⟩:NdP n)]).map Subtype.val++r):=⟨_,A.out⟩
     gi_wp2
     refine bodyPost_ret (results_none rfl _ _ _) rfl ?_;exact⟨⟨_,rfl⟩,.inr ⟨_,HG.out,hJx4⟩⟩
   ·
    have dv:decide ((0:Int)<=v)=false:=by simpa using V
    rw [if_neg V,ay0] at Y;have A:=ax3 Y;clear Y X U c5 c6
    gi_wp2
    go_roundw
    case rel=>exact⟨nx ws z,f,Z,by omega,by omega,rfl,A,hj,hk⟩
    case measure=>simp [intOf];omega
end
section
attribute [local go_sem] Oper.semAt_some
attribute [local simp] aab aa6
attribute [local go_sem] aab aa6
theorem auu (W:World)(z:Int):SlK 1 (W.alloc (.cells #[.int .i64 z] 3)) (some ⟨W.heap.size,0,none⟩) 1 [.int .i64 z]:=
 ⟨rfl,.inr ⟨_,_,rfl,by simp,fun i u Z=>by
  have:=ab7 (w:=W) #[.int .i64 z] 3 rfl i u (by simpa using Z)
  rwa [aah] at this⟩⟩
theorem aqc (t:TV)(T:aaN)(V ws:List (List Int))(w:World)(N:Tri w t T)(I:t.un<=140737488351232)(U:abI T=some (V,ws)) :
  Calls ZP 88 #[.agg t.cells] w fun e w'=>∃q,e=.returned (.tuple #[.slice (some ⟨q,0,none⟩) (aa0 ws).length (aa0 ws).length,.int .i64 0])/\aaa q (aay ws) w'/\w.heap.size<=q/\Below w.heap.size w w':=by
 obtain⟨ua,un,uc,da,dn,dc,xa,xn,xc,ba,bn,bc⟩:=t;have X:=aa1 w (.cells #[.slice ua un uc,.slice da dn dc,.slice xa xn xc,.slice ba bn bc] 150);have H:=ax3 (ajW _ T V ws _ (N.below X) I U);clear N U;go_enter func88,ntmps88
 go_wp2_with fail
 refine H.out.mono ?_;rintro e J ⟨g,rfl,Y,Z⟩;obtain⟨q,h1,h3,h6,h7⟩:=Y.ex;have c5:J.cell? ⟨g,4,none⟩=some (.slice (some ⟨q,0,none⟩) (aa0 ws).length (aa0 ws).length):=by simp [World.cell?,h1]
 simp only [ax7] at h7;clear h1;go_wp2;go_ret2;exact⟨q,rfl,h3,by omega,X.trans (Z.mono X.size)⟩
end
section
attribute [local go_sem] Oper.semAt_some
attribute [local simp] aab aa6
attribute [local go_sem] aab aa6
def aaD (ws:List (List Int))(z:Nat):List Int:=(afo ws z).map fun n=>((aa5 ws).wrd[n]?).getD 0
def acJ (base b:Nat)(w W:World):Prop:=(∀k,k<base->k≠b->W.heap[k]?=w.heap[k]?)/\base<=W.heap.size
theorem aeE {base b:Nat}{v w:World}(h:acJ base b v w)(o:Obj):acJ base b v (w.alloc o):=⟨fun k h1 h2=>((aa1 w o).block k (ax6 h1 h.2)).trans (h.1 k h1 h2),by have:=h.2;rw [ax7];omega⟩
end
theorem alG (ws:List (List Int)):aaD ws 0=[]:=by
 unfold aaD afo;rw [abN]
 rfl
theorem aii {ws:List (List Int)}{z:Nat}{v:Int}(h0:0<z)(Y:z<(aa0 ws).length)(Z:(aa5 ws).wrd[z]?=some v):aaD ws z=(if 0<=v then [v] else [])++aaD ws (nx ws z):=by
 unfold aaD;rw [aqs h0 Y,Z,ayr,ay7];congr 1
 split
 · rw [ax0,Z];rfl
 · rfl
def mcC (L:List Int)(m n:Int)(row:Value)(fold:Bool)(sw:Value)(lo mo:Int)(wd:Value):List Value:=L.map (Value.int .i64)++[.int .i64 m,.int .i64 n,row,.bool fold,sw,.int .i64 lo,.int .i64 mo,wd]
structure Mc (W:World)(B:Nat)(L:List Int)(m n:Int)(row:Value)(fold:Bool)(sw:Value)(lo mo:Int)(wd:Value):Prop where
 box:W.heap[B]?=some (.cells (mcC L m n row fold sw lo mo wd).toArray 162 (0,0))
 len:L.length=256
section
variable {W V:World}{B:Nat}{L:List Int}{m n:Int}{row:Value}{fold:Bool}{sw:Value}{lo mo:Int}{wd:Value}
theorem Mc.lt (h:Mc W B L m n row fold sw lo mo wd):B<W.heap.size:=(awU.1 h.box).1
theorem Mc.below (h:Mc W B L m n row fold sw lo mo wd)(Z:Below W.heap.size W V):Mc V B L m n row fold sw lo mo wd:=⟨(Z.block B h.lt).trans h.box,h.len⟩
theorem Mc.cls (h:Mc W B L m n row fold sw lo mo wd){c:Nat}{v:Int}(Z:L[c]?=some v):W.cell? ⟨B,c,none⟩=some (.int .i64 v):=by
 have Y:c<256:=by have:=(awR.1 Z).1;have:=h.len;omega
 have e:(mcC L m n row fold sw lo mo wd)[c]?=some (.int .i64 v):=by
  unfold mcC;rw [ax8 (by simp [h.len];omega),axa,Z]
  rfl
 simp only [World.cell?,h.box];simp [e]
theorem Mc.off (h:Mc W B L m n row fold sw lo mo wd){i:Nat}{v:Value}(Z:[Value.int .i64 m,.int .i64 n,row,.bool fold,sw,.int .i64 lo,.int .i64 mo,wd][i]?=some v):W.cell? ⟨B,256+i,none⟩=some v:=by
 have e:(mcC L m n row fold sw lo mo wd)[256+i]?=some v:=by
  unfold mcC;rw [az9 (by simp [h.len])]
  simpa [h.len] using Z
 simp only [World.cell?,h.box];simp [e]
theorem Mc.cells (h:Mc W B L m n row fold sw lo mo wd):W.cell? ⟨B,256,none⟩=some (.int .i64 m)/\W.cell? ⟨B,257,none⟩=some (.int .i64 n)/\W.cell? ⟨B,258,none⟩=some row/\W.cell? ⟨B,259,none⟩=some (.bool fold)/\W.cell? ⟨B,260,none⟩=some sw/\W.cell? ⟨B,261,none⟩=some (.int .i64 lo)/\W.cell? ⟨B,262,none⟩=some (.int .i64 mo)/\W.cell? ⟨B,263,none⟩=some wd:=
 ⟨h.off (i:=0) rfl,h.off (i:=1) rfl,h.off (i:=2) rfl,h.off (i:=3) rfl,h.off (i:=4) rfl,h.off (i:=5) rfl,h.off (i:=6) rfl,h.off (i:=7) rfl⟩
end
def Lls (W:World)(a:Option Addr)(len:Nat)(Z:List (List Int)):Prop:=
 ∃Y:List (Option Addr×Nat×Nat),Sl1 (fun v=>Value.slice v.1 v.2.1 v.2.2) W a len Y/\Y.length=Z.length/\∀(i:Nat) (v:Option Addr×Nat×Nat) (xs:List Int),Y[i]?=some v->Z[i]?=some xs->Sl1 (Value.int .i64) W v.1 v.2.1 xs/\v.2.1<=v.2.2
theorem Lls.below {W V:World}{a:Option Addr}{len:Nat}{Z:List (List Int)}(h:Lls W a len Z)(U:Below W.heap.size W V):Lls V a len Z:=by
 obtain⟨N,h1,h2,h3⟩:=h;exact⟨N,h1.below U,h2,fun i v xs X Y=>⟨(h3 i v xs X Y).1.below U,(h3 i v xs X Y).2⟩⟩
theorem Lls.at_ {w:World}{a:Option Addr}{len:Nat}{Z:List (List Int)}(h:Lls w a len Z){k:Nat}(H:k<len) :
  ∃b off J l c xs,a=some ⟨b,off,none⟩/\b<w.heap.size/\w.cell? ⟨b,off+k,none⟩=some (.slice J l c)/\Z[k]?=some xs/\Sl1 (Value.int .i64) w J l xs/\l<=c:=by
 obtain⟨X,⟨h0,h1⟩,h2,h3⟩:=h;obtain⟨b,off,rfl,Y,I⟩:=h1.resolve_left (by omega);obtain⟨v,N⟩:∃v,X[k]?=some v:=⟨X[k]'(by omega),by simp⟩;obtain⟨x,U⟩:∃v,Z[k]?=some v:=⟨Z[k]'(by omega),by simp⟩;exact⟨b,off,v.1,v.2.1,v.2.2,x,rfl,Y,I k v N,U,h3 k v x N U⟩
structure MOK (W:World)(B:Nat)(fold:Bool)(wss:List (List Int))(lo mo:Int)(R:Nat)(a:Option Addr)(la ca:Nat)(wa:Option Addr)(wc:Nat):Prop where
 mc:Mc W B (ade fold wss) (aat fold wss) ((aa0 wss).length:Int) (.slice (some ⟨R,0,none⟩) (aat fold wss*(aa0 wss).length) (aat fold wss*(aa0 wss).length)) fold (.slice a la ca) lo mo (.slice wa (aa0 wss).length wc)
 row:aaa R (an0 fold wss) W
 wds:Wds W a la wss
 lls:Lls W wa (aa0 wss).length ((List.range (aa0 wss).length).map (aaD wss))
theorem MOK.below {W V:World}{B R X U wc:Nat}{fold:Bool}{wss:List (List Int)}{lo mo:Int}{a Y:Option Addr}(h:MOK W B fold wss lo mo R a X U Y wc)(Z:Below W.heap.size W V):MOK V B fold wss lo mo R a X U Y wc:=
 ⟨h.mc.below Z,(Z.block R h.row.lt).trans h.row,h.wds.below Z,h.lls.below Z⟩
theorem agk (B:Nat)(L:List Int)(m n:Int)(row:Value)(fold:Bool)(sw:Value)(lo mo:Int)(wd:Value)(node:Int)(w:World)(h:Mc w B L m n row fold sw lo mo wd) :
  Calls ZP 271 #[.pointer (some ⟨B,0,none⟩),.int .i64 node] w fun e w'=>e=.returned (.bool (decide (0<=node/\node<n)))/\w=w':=by
 have c5:=h.cells.2.1;clear h
 by_cases h0:0<=node
 ·
  have X:decide ((0:Int)<=node)=true:=by simpa using h0
  obtain⟨D,U⟩:∃D,decide (node<n)=D:=⟨_,rfl⟩;have Y:Hid (decide (0<=node/\node<n)=D):=by rw [Hid,<-U];simp [h0]
  clear h0;have Z:∀(r:Ending) (w':World),r=.returned (.bool D)/\w=w'->r=.returned (.bool (decide (0<=node/\node<n)))/\w=w':=fun r w' h=>by rw [Y.out];exact h
  refine Calls.mono ?_ Z;clear Z Y;go_enter func271,ntmps271;go_wp2;go_ret;exact⟨rfl,rfl⟩
 ·
  have X:decide ((0:Int)<=node)=false:=by simpa using h0
  have Y:Hid (decide (0<=node/\node<n)=false):=by simp [Hid];omega
  have Z:∀(r:Ending) (w':World),r=.returned (.bool false)/\w=w'->r=.returned (.bool (decide (0<=node/\node<n)))/\w=w':=fun r w' h=>by rw [Y.out];exact h
  refine Calls.mono ?_ Z;clear Z Y;go_enter func271,ntmps271;go_wp2;go_ret;exact⟨rfl,rfl⟩
section
attribute [local go_sem] Oper.semAt_some
attribute [local simp] aab aa6
attribute [local go_sem] aab aa6
def auc (x:Int):Array Value:=#[.int .i64 x]
theorem anr (t:TV)(a:Option Addr)(n c:Nat)(z:Int)(w:World) :
  Calls ZP 93 #[.agg t.cells,.slice a n c,.int .i64 z] w fun e w'=>e=.returned (.func (.func 137) #[] #[.pointer (some ⟨w.heap.size+1+1,0,none⟩),.pointer (some ⟨w.heap.size+1,0,none⟩),.pointer (some ⟨w.heap.size,0,none⟩)])/\
   w'=((w.alloc (.cells t.cells 150)).alloc (.cells #[.slice a n c] 30)).alloc (.cells #[.int .i64 z] 3):=by
 obtain⟨ua,un,uc,da,dn,dc,xa,xn,xc,ba,bn,bc⟩:=t;go_enter func93,ntmps93;go_wp2;go_ret;exact⟨rfl,rfl⟩
def aw6 (ws:List (List Int))(l:List Nat):List Int:=l.map fun n=>((aa5 ws).wrd[n]?).getD 0
theorem ajL (ws:List (List Int))(Z p2 C q n y o0 xc qc:Nat)(z0:Nat)(s0 s1 s3:Value)(S:Nat->Prop)(m:Nat)(w:World)
  (hg:w.heap[C]?=some (.cells #[s0,s1,.slice (some ⟨y,o0,none⟩) n xc,s3] 150 (0,0))) (hq:aaa q (aay ws) w) (hN:(aa0 ws).length=n) (hn:n<=1000000)
  (hW:∀(i:Nat) (v:Int),(aa5 ws).wrd[i]?=some v->w.cell? ⟨y,o0+i,none⟩=some (.int .i64 v))
  (h1:Boxed w p2 30 (.slice (some ⟨q,0,none⟩) n qc)) (h2:Boxed w Z 3 (.int .i64 (z0:Int)))
  (hS:S C/\S q/\S Z/\S p2/\S y) (aa:∀k,S k->k<w.heap.size) (hp:Z≠C/\Z≠q/\Z≠p2/\Z≠y) (aq:z0<n) :
  agX Fence.wide m ZP 137 #[.pointer (some ⟨Z,0,none⟩),.pointer (some ⟨p2,0,none⟩),.pointer (some ⟨C,0,none⟩)] auc (ab0 S) (fun r=>r=Z) (fun zs:List Int=>zs=aaD ws z0) (fun pre=>∃r,aaD ws z0=pre++r) (z0+1) w:=by
 intro l J Jx W a8 hJ au hY h0;obtain⟨ai,ah,ag,af,ae⟩:=hS;obtain⟨n3,nq,n2,n0⟩:=hp;have cells:∀v:World,(∀k,S k->k≠Z->v.heap[k]?=w.heap[k]?)->v.cell? ⟨p2,0,none⟩=some (.slice (some ⟨q,0,none⟩) n qc)/\v.cell? ⟨C,2,none⟩=some (.slice (some ⟨y,o0,none⟩) n xc)/\
   (∀(j:Nat) (x:Int),(aay ws)[j]?=some x->v.cell? ⟨q,j,none⟩=some (.int .i64 x))/\(∀(j:Nat) (x:Int),(aa5 ws).wrd[j]?=some x->v.cell? ⟨y,o0+j,none⟩=some (.int .i64 x)):=by
  intro v N;have e1:v.heap[p2]?=some (.cells #[.slice (some ⟨q,0,none⟩) n qc] 30 (0,0)):=(N p2 af (Ne.symm n2)).trans h1;have e2:v.heap[C]?=_:=(N C ai (Ne.symm n3)).trans hg;have e3:v.heap[q]?=some (.cells ((aay ws).map (Value.int .i64)).toArray 3 (0,0)):=(N q ah (Ne.symm nq)).trans hq;refine⟨by simp [World.cell?,e1],by simp [World.cell?,e2],fun j x hx=>?_,fun j x hx=>?_⟩
  · rw [cell_of_row v q j _ _ _ e3];simp [hx]
  · rw [<-hW j x hx];exact axp (N y ae (Ne.symm n0))
 have HC:=ax3 cells;have a7:∀k,S k->k≠Z->W.heap[k]?=w.heap[k]?:=fun k hk _=>a8.block k (aa k hk);have ak:Boxed W Z 3 (.int .i64 (z0:Int)):=(a8.block Z h2.lt).trans h2;have D:=ax3 hN;have al:=ax3 ag;clear hg hq h1 h2 cells hW hN aa;refine callsIn_of_wp func137 rfl trivial ?_ rfl;simp only [ntmps137,axT,axU,axV,Nat.reduceAdd,Nat.reduceSub,axW,axX,axY,axZ,ay0,ay1]
 gi_wp2
 gi_loopw [5] (fun s5 wr=>∃(z f:Nat) (pre:List Int),z<=f/\z<=z0/\Hid (aaD ws z0=pre++aw6 ws (ae5 (aay ws) (aa5 ws).wrd f z))/\Hid (pre.length+f<=z0)/\Boxed wr Z 3 (.int .i64 (z:Int))/\J pre wr/\Hid (∀k,S k->k≠Z->wr.heap[k]?=w.heap[k]?)) (fun _ wr=>akX Z wr)
 case atStart=>exact⟨z0,z0,[],axe _,axe _,rfl,by simp [Hid],ak,h0,a7⟩
 case round=>
  clear a7;obtain⟨z,f,pre,ap,ao,HP,o,U,hj,HK⟩:=hrel;have cz:=U.cell;have ac:=ax3 (adJ U)
  by_cases hz:z=0
  ·
   subst hz;have HF:Hid (pre=aaD ws z0):=by rw [Hid,HP.out,abN];simp [aw6]
   gi_wp2
   go_end0
   exact⟨⟨_,rfl⟩,.inl ⟨pre,HF.out,hj⟩⟩
  ·
   obtain⟨f,rfl⟩:∃f',f=f'+1:=⟨f-1,by omega⟩;obtain⟨c1,c2,c3,c4⟩:=HC.out wr HK.out;obtain⟨v,N⟩:∃v,(aa5 ws).wrd[z]?=some v:=⟨(aa5 ws).wrd[z]'(by rw [(afy ws).1,D.out];omega),by simp⟩;have H:=abv (ws:=ws) (z:=z) (by rw [D.out];omega);have B:=agi (ws:=ws) (z:=z) (by omega) (by rw [D.out];omega);have Y:=HP.out;rw [afr,if_neg hz,N,ayr] at Y;rw [H,ayr,axs] at Y B;have cw:=c4 z v N;have cn:=c3 z _ H;have ar:((z:Int) != 0)=true:=by simp;omega
   have i1:(0:Int)<=(z:Int):=by omega
   have i2:(z:Int)<(n:Int):=by omega
   have fz:=U.frozen;have aj:=U.lt
   by_cases I:0<=v
   ·
    have dv:decide ((0:Int)<=v)=true:=by simpa using I
    rw [if_pos I] at Y;have HF:Hid (aaD ws z0=(pre++[v])++aw6 ws (ae5 (aay ws) (aa5 ws).wrd f (nx ws z))):=by
     rw [Hid,Y];simp [aw6,N]
    have a6:pre.length<z0+1:=by have:=o.out;omega
    obtain⟨fn,tmps,assign,body,a2,ab⟩:=hY pre v wr hj a6;dsimp only [auc] at a2;clear Y N H
    gi_wp2
    refine ab.mono ?_;rintro e W4 (⟨rfl,hJ4,hk4⟩ | ⟨rfl,hJx4⟩)
    ·
     have V:Boxed W4 Z 3 (.int .i64 (z:Int)):=(hk4 Z al.out).trans U;have ad:Hid (∀k,S k->k≠Z->W4.heap[k]?=w.heap[k]?):=fun k h1 h2=>(hk4 k h1).trans (HK.out k h1 h2);obtain⟨d1,d2,d3,d4⟩:=HC.out W4 ad.out;have ax:W4.cell? ⟨q,z,none⟩=some (.int .i64 (nx ws z:Int)):=d3 z _ (abv (by rw [D.out];omega));have aw:=V.cell;have av:=V.frozen;have am:=V.lt;have A:=aiS hJ hJ4 (p:=Z) rfl 0 (.int .i64 (nx ws z:Int));have X:=V.set (.int .i64 (nx ws z:Int));have s:=ax3 (adJ X);have a1:Hid (∀j,S j->j≠Z->(W4.setCell ⟨Z,0,none⟩ (.int .i64 (nx ws z:Int))).heap[j]?=w.heap[j]?):=fun j h1 h2=>(axn _ _ _ _ (by show j≠Z;exact h2)).trans (ad.out j h1 h2);have h:Hid ((pre++[v]).length+f<=z0):=by have:=o.out;rw [Hid,List.length_append,aza];omega
     clear c1 c2 c3 c4 cw cn d3 d4 ab a2 cz fz aj hJ4
     gi_wp2
     go_roundw
     case rel=>exact⟨nx ws z,f,_,by omega,by omega,HF,h,X,A,a1⟩
     case measure=>rw [ac.out,s.out];exact B
    ·
     have HG:Hid (∃r,aaD ws z0=(pre++[v])++r):=⟨_,HF.out⟩
     gi_wp2
     refine bodyPost_ret (results_none rfl _ _ _) rfl ?_;exact⟨⟨_,rfl⟩,.inr ⟨_,HG.out,hJx4⟩⟩
   ·
    have dv:decide ((0:Int)<=v)=false:=by simpa using I
    rw [if_neg I,ay0] at Y;have HF:=ax3 Y;have A:=aiS hJ hj (p:=Z) rfl 0 (.int .i64 (nx ws z:Int));have X:=U.set (.int .i64 (nx ws z:Int));have s:=ax3 (adJ X);have a1:Hid (∀j,S j->j≠Z->(wr.setCell ⟨Z,0,none⟩ (.int .i64 (nx ws z:Int))).heap[j]?=w.heap[j]?):=fun j h1 h2=>(axn _ _ _ _ (by show j≠Z;exact h2)).trans (HK.out j h1 h2);have h:Hid (pre.length+f<=z0):=by have:=o.out;rw [Hid];omega
    clear Y N H c3 c4
    gi_wp2
    go_roundw
    case rel=>exact⟨nx ws z,f,pre,by omega,by omega,HF,h,X,A,a1⟩
    case measure=>rw [ac.out,s.out];exact B
end
theorem alk (fold:Bool)(a:Option Addr)(Z H:Nat)(wss:List (List Int))(w:World)(N:Wds w a Z wss)(B:Z<=1000000) :
  Calls ZP 91 #[.agg (aaF fold a Z H)] w fun e w'=>e=.returned (.int .i64 (aaY wss))/\Below w.heap.size w w':=by
 have Y:Below w.heap.size w (w.alloc (.cells (aaF fold a Z H) 24)):=(axf _ _).alloc (axe _) _;have U:=N.below Y;have y:=ax3 N.len;clear N;go_enter func91,ntmps91;go_wp2
 go_loop [3,9] (fun s i=>∃(k:Nat) (n:Int),k<=Z/\i=.int .i64 k/\s=.int .i64 n/\Hid (n=aaY (wss.take k))) (fun _ i=>Z-(intOf i).toNat)
 case atStart=>exact⟨0,0,axh _,rfl,rfl,by simp [Hid,aaY]⟩
 case round=>
  obtain⟨k,n,o,rfl,rfl,D⟩:=hrel
  by_cases X:k<Z
  ·
   obtain⟨j,off,a',l,c,x,rfl,A,V,J,I,C⟩:=U.at_ X;have z:Hid (max n (l:Int)=aaY (wss.take (k+1))):=by rw [Hid,aa7 J,anw,I.len,D.out]
   clear J I;go_wp2
   go_round
   case rel=>exact⟨k+1,_,by omega,by go_num,rfl,z⟩
   case measure=>simp [intOf];omega
  ·
   obtain rfl:k=Z:=by omega
   have v:Hid (n=aaY wss):=by
    have h:=D.out
    rwa [axo (by have:=y.out;omega)] at h
   go_wp2;go_ret;exact⟨by rw [<-v.out];rfl,Y⟩
theorem akC {fn:Func}{p:Tmp}{tmps:Array Value}{W:World}{B:Nat}{x y:Value}(h:fn.results=#[.cell p 24])(Y:tmps.getD p undef=.pointer (some ⟨B,0,none⟩))(V:W.heap[B]?=some (.cells #[x,y] 24 (0,0))) :
  (results fn tmps).run ZP W=.ok (.agg #[x,y]) W:=by
 have X:(loadVar 24 ⟨B,0,none⟩).run ZP W=.ok (.agg #[x,y]) W:=run_loadVar_row W B 24 24 #[x,y] (0,0) _ V underlying24 rfl (by kernel_rfl);have Z:tmps[p]?.getD undef=.pointer (some ⟨B,0,none⟩):=by simpa using Y
 simp [results,h,Z,asAddr,X,Result.andThen]
theorem asa (fold:Bool)(a:Option Addr)(U ca:Nat)(wss:List (List Int))(w:World)(hA:Wds w a U wss)(aC:U<=1000000)(hM:∀x∈wss,x.length<=1000000) :
    Calls ZP 90 #[.agg (aaF fold a U ca)] w fun e w'=>∃v,e=.returned (.agg #[.bool fold,v])/\adq w' w.heap.size v wss/\Below w.heap.size w w':=by
  obtain⟨W,hW⟩:∃W,W=(w.alloc (.cells (aaF fold a U ca) 24)).alloc (.cells (aaF false none 0 0) 24):=⟨_,rfl⟩;have hB:Below w.heap.size w W:=by rw [hW];exact ((axf _ _).alloc (axe _) _).alloc (by simp) _
  have hO:Bx w.heap.size [.cells (aaF fold a U ca) 24,.cells (aaF false none 0 0) 24] W:=by rw [hW];exact ((Bx.nil _ w).snoc _ rfl).snoc _ (by simp)
  have s0:W.cell? ⟨w.heap.size,0,none⟩=some (.bool fold):=hO.cell (i:=0) rfl rfl;have s1:W.cell? ⟨w.heap.size,1,none⟩=some (.slice a U ca):=hO.cell (i:=0) rfl rfl;have hz:W.heap[w.heap.size+1]?=some (.cells (aaF false none 0 0) 24 (0,0)):=hO 1 _ rfl;have a2:W.heap.size=w.heap.size+1+1:=by rw [hW];simp
  have HL:=ax3 hA.len;have HA:=ax3 hA;have a7:w.heap.size<W.heap.size:=by omega
  clear hO hA;go_enter func90,ntmps90;go_upto_region 1 with fail
  rw [<-hW];clear hW;go_upto_region 2 with fail
  have s2:(W.alloc (.cells #[.bool fold,.slice none 0 0] 24)).cell? ⟨w.heap.size,1,none⟩=some (.slice a U ca):=by rw [axl _ _ _ a7];exact s1
  have a8:Below w.heap.size w (W.alloc (.cells #[.bool fold,.slice none 0 0] 24)):=hB.alloc hB.size _;have a6:(W.alloc (.cells #[.bool fold,.slice none 0 0] 24)).heap[w.heap.size+1+1]?=some (.cells #[.bool fold,.slice none 0 0] 24 (0,0)):=by rw [<-a2];exact axg _ _
  have a1:(W.alloc (.cells #[.bool fold,.slice none 0 0] 24)).heap[w.heap.size+1]?=some (.cells (aaF false none 0 0) 24 (0,0)):=(axi _ _ _ (by omega)).trans hz;clear s0 s1 a2;go_wp2
  go_loopw [12] (fun i wr=>∃(k:Nat) (v:Value),k<=U/\i=.int .i64 k/\Below w.heap.size w wr/\wr.heap[w.heap.size+1]?=some (.cells (aaF false none 0 0) 24 (0,0))/\wr.heap[w.heap.size+1+1]?=some (.cells #[.bool fold,v] 24 (0,0))/\adq wr w.heap.size v (wss.take k)) (fun i _=>U-(intOf i).toNat)
  case atStart=>exact⟨0,.slice none 0 0,axh _,rfl,a8,a1,a6,by simpa using adq.nil _ _⟩
  case round=>
    clear s2 a8 a1 a6;obtain⟨k,v,hk,rfl,D,Z,N,X⟩:=hrel
    by_cases ah:k<U
    ·
      obtain⟨bb,off,a',l,c,x,rfl,aE,aq,hx,hX,aB⟩:=(HA.out.below D).at_ ah;have ad:l<=1000000:=by have:=adg hM hx;rw [hX.len] at this;exact this
      obtain⟨H,I,rfl,ap,hW⟩:=X.wds;have ag:(wss.take k).length<=1000000:=by have:=axj k wss;omega
      have HX:=ax3 hx;have i1:(0:Int)<=(k:Int):=by omega
      have i2:(k:Int)<(U:Int):=by omega
      have ao:decide ((k:Int)<(U:Int))=true:=by simp;omega
      clear hx;obtain⟨i0,hi,al,ak,aj⟩:=info_parts afB;have s1:wr.cell? ⟨w.heap.size+1+1,1,none⟩=some (.slice H (wss.take k).length I):=by simp [World.cell?,N]
      obtain⟨es,e1,e2,e3⟩:=X;have aw:∀n,Bys (wr.drewN n) a' l x:=fun n=>hX.below ⟨rfl,rfl,rfl,axe _,fun _ _=>rfl⟩;have hd:∀n,Below wr.heap.size wr (wr.drewN n):=fun n=>⟨rfl,rfl,rfl,axe _,fun _ _=>rfl⟩;obtain⟨m,hm⟩:∃m,(wss.take k).length=m:=⟨_,rfl⟩;rw [hm] at s1 N e1 e2 ag;have h:=ax3 hm;clear hm hW;go_wp2;have au:Bys wr.drew a' l x:=aw 1;have am:Below wr.heap.size wr wr.drew:=hd 1
      go_region_law (first
        | (go_simp;go_at_call 134;refine (amV false a' l c x wr.drew au ad).mono ?_;rintro e A ⟨a3,c3,rfl,s,ar⟩
           have C:Below wr.heap.size wr A:=am.trans ar;have B:=aag e1 C;have J:A.heap[w.heap.size+1+1]?=some (.cells #[.bool fold,.slice H m I] 24 (0,0)):=(C.block _ (awU.1 N).1).trans N;have aa:A.cell? ⟨w.heap.size+1+1,1,none⟩=some (.slice H m I):=by simp [World.cell?,J]
           have ai:w.heap.size+1+1<A.heap.size:=(awU.1 J).1;have az:w.heap.size+1+1≠A.heap.size:=by omega
           have ay:A.heap.size≠w.heap.size+1+1:=by omega
           have aA:(A.alloc (.cells #[.slice a3 l c3] 32)).cell? ⟨w.heap.size+1+1,1,none⟩=some (.slice H m I):=by rw [axl _ _ _ ai];exact aa
           have af:=ad4 B J (of_decide_eq_true (by kernel_rfl));have V:Below w.heap.size w A:=D.trans (C.mono D.size);dsimp only)
        | (refine step_append_lies _ (by rfl) _ _ 22 (by rfl) w.heap.size 32 i0 (.slice none 0 0) 1 24 underlying22 hi al ak aj rfl (by decide) (.slice H m I) m es (by rfl) (B.alloc _) ⟨A.heap.size,0,none⟩ 1 1 [.slice a3 l c3] (by rfl) rfl (cell_one_new _ _ _) (by simp [Value.oneCell']) (by decide) (by unfold maxLen;omega) (by omega) (by have:=V.size;simp;omega) _ rfl ?_
           intro g5 c5 y o Y aF aD;have z:y.heap[w.heap.size+1+1]?=some (.cells #[.bool fold,.slice H m I] 24 (0,0)):=(Y.block _ (by simp;have:=(awU.1 J).1;omega) (Ne.symm af)).trans ((axi _ _ _ (awU.1 J).1).trans J);have q0:y.cell? ⟨w.heap.size+1+1,1,none⟩=some (.slice H m I):=by simp [World.cell?,z]
           have q1:y.frozen? ⟨w.heap.size+1+1,1,none⟩=false:=by simp [World.frozen?,z]))
      all_goals
        go_wp2;have ax:Below w.heap.size w y:=(V.alloc (by have:=V.size;omega) _).grown Y (by simp;have:=V.size;omega) (fun j hj=>(B.lt j hj).1);have ab:y.heap[w.heap.size+1]?=some (.cells (aaF false none 0 0) 24 (0,0)):=by
          have h3:A.heap[w.heap.size+1]?=_:=(C.block _ (awU.1 Z).1).trans Z;exact (Y.block _ (by simp;have:=(awU.1 h3).1;omega) (Ne.symm (ad4 B h3 (of_decide_eq_true (by kernel_rfl))))).trans ((axi _ _ _ (awU.1 h3).1).trans h3)
        go_roundw
        case rel=>
          refine⟨k+1,_,by omega,by go_num,ax.setCell (by show w.heap.size<=w.heap.size+1+1;omega) _,(axn y ⟨w.heap.size+1+1,1,none⟩ _ _ (by simp)).trans ab,by simpa using aa4 (i:=1) z (.slice (some ⟨g5,0,none⟩) (m+1) c5),?_⟩;rw [aa7 HX.out];have ae:=adq.step (wss:=wss.take k) (xs:=x) (e:=.slice a3 l c3) (es:=es) (v:=.slice H m I) (by rw [h.out];exact B.alloc _) (by rw [h.out];exact e2)
            (fun i e xs he hx=>⟨aag (aag (e3 i e xs he hx).1 C) ((axf _ _).alloc (axe _) _),(e3 i e xs he hx).2⟩) (by rw [hX.len];exact (ahv (s.alloc _) (by have:=D.size;simpa using this))) hX.2 (by rw [h.out];exact o) Y
          exact ae.turned (aa9 y (w.heap.size+1+1) 1 _) z (of_decide_eq_true (by kernel_rfl)) (of_decide_eq_true (by kernel_rfl))
        case measure=>simp [intOf];omega
    ·
      obtain rfl:k=U:=by omega
      have HF:Hid (wss.take k=wss):=axo (by have:=HL.out;omega);have ao:decide ((k:Int)<(k:Int))=false:=by simp
      have s0:wr.cell? ⟨w.heap.size+1+1,0,none⟩=some (.bool fold):=by simp [World.cell?,N]
      rw [HF.out] at X;obtain⟨H,I,rfl,ap,hW⟩:=X.wds;have s1:wr.cell? ⟨w.heap.size+1+1,1,none⟩=some (.slice H wss.length I):=by simp [World.cell?,N]
      have z0:wr.cell? ⟨w.heap.size+1,0,none⟩=some (.bool false):=by simp [World.cell?,Z]
      have z1:wr.cell? ⟨w.heap.size+1,1,none⟩=some (.slice none 0 0):=by simp [World.cell?,Z]
      have y0:wr.frozen? ⟨w.heap.size+1,0,none⟩=false:=by simp [World.frozen?,Z]
      have y1:wr.frozen? ⟨w.heap.size+1,1,none⟩=false:=by simp [World.frozen?,Z]
      go_wp2;have ac:=aa4 (i:=1) (aa4 (i:=0) Z (.bool fold)) (.slice H wss.length I);refine bodyPost_ret (akC rfl rfl (by simpa using ac)) rfl ?_;refine⟨_,rfl,?_,(D.setCell (by simp) _).setCell (by simp) _⟩;have ho:=(X.turned (aa9 wr (w.heap.size+1) 0 (.bool fold)) Z (of_decide_eq_true (by kernel_rfl)) (of_decide_eq_true (by kernel_rfl))).turned (aa9 _ (w.heap.size+1) 1 (.slice H wss.length I)) (aa4 (i:=0) Z (.bool fold)) (of_decide_eq_true (by kernel_rfl)) (of_decide_eq_true (by kernel_rfl));exact ho
def tbC (L:List Int)(m n:Int)(row:Value):List Value:=L.map (Value.int .i64)++[.int .i64 m,.int .i64 n,row]
theorem atY (L:List Int)(m n:Int)(row:Value)(fold:Bool)(Z:Value)(lo Y:Int)(wd:Value):mcC L m n row fold Z lo Y wd=tbC L m n row++[.bool fold,Z,.int .i64 lo,.int .i64 Y,wd]:=by simp [mcC,tbC]
theorem av6:(ZP.info? 157).map (fun i=>i.zero.map Value.cells)=some (some (tbC (List.replicate 256 0) 0 0 (.slice none 0 0)).toArray):=by kernel_rfl
theorem au1:(ZP.info? 162).map (fun i=>i.zero.map Value.cells)=some (some (mcC (List.replicate 256 0) 0 0 (.slice none 0 0) false (.slice none 0 0) 0 0 (.slice none 0 0)).toArray):=by kernel_rfl
theorem arm:(match ZP.underlying 157 with | some (.struct fields)=>fields.toList.mapM (fun f=>(ZP.info? f.type).map fun i=>(f.offset,i.size)) | _=>none)=some [(0,256),(256,1),(257,1),(258,1)]:=by kernel_rfl
theorem apG:(match ZP.underlying 162 with | some (.struct fields)=>fields.toList.mapM (fun f=>(ZP.info? f.type).map fun i=>(f.offset,i.size)) | _=>none)=some [(0,259),(259,2),(261,1),(262,1),(263,1)]:=by kernel_rfl
theorem aqh {L:List Int}(Z:L.length=256)(m n:Int)(row:Value):(tbC L m n row).length=259:=by simp [tbC,Z]
theorem ak1 (L:List Int)(m k:Int)(a:Option Addr)(n c:Nat)(N:L.length=256) :
  ZP.built 157 [(0,.agg (L.map (Value.int .i64)).toArray),(1,.int .i64 m),(2,.int .i64 k),(3,.slice a n c)]=some (tbC L m k (.slice a n c)).toArray:=by
 obtain⟨X,U,Z⟩:∃X:List Int,X.length=256/\(ZP.info? 157).map (fun i=>i.zero.map Value.cells)=some (some (tbC X 0 0 (.slice none 0 0)).toArray):=⟨_,by rw [axC],av6⟩;have Y:=arm;unfold Program.built
 cases H:ZP.info? 157 with
 | none=>rw [H] at Z;cases Z
 | some it=>
  rw [H] at Z;simp only [awW,ayN] at Z
  cases I:ZP.underlying 157 with
  | none=>rw [I] at Y;cases Y
  | some d=>
   rw [I] at Y
   cases d<;>try (cases Y;done)
   rename_i J
   simp only at Y ⊢
   cases V:it.zero with
   | none=>rw [V] at Z;cases Z
   | some z=>
    rw [V] at Z;simp only [awW,ayN] at Z;simp only [Y,Z];have v:(tbC X 0 0 (.slice none 0 0)).toArray=([]++(X.map (Value.int .i64))++[Value.int .i64 0,Value.int .i64 0,Value.slice none 0 0]).toArray:=by simp [tbC]
    have x:[]++L.map (Value.int .i64)++[Value.int .i64 0,Value.int .i64 0,Value.slice none 0 0]=L.map (Value.int .i64)++[Value.int .i64 0]++[Value.int .i64 0,Value.slice none 0 0]:=by simp
    have y:L.map (Value.int .i64)++[Value.int .i64 m]++[Value.int .i64 0,Value.slice none 0 0]=(L.map (Value.int .i64)++[Value.int .i64 m])++[Value.int .i64 0]++[Value.slice none 0 0]:=by simp
    have A:(L.map (Value.int .i64)++[Value.int .i64 m])++[Value.int .i64 k]++[Value.slice none 0 0]=(L.map (Value.int .i64)++[Value.int .i64 m,Value.int .i64 k])++[Value.slice none 0 0]++[]:=by simp
    have B:([(0,256),(256,1),(257,1),(258,1)]:List (Nat×Nat)).toArray[0]?=some (([]:List Value).length,(X.map (Value.int .i64)).length):=by rw [ayq,U];rfl
    have C:([(0,256),(256,1),(257,1),(258,1)]:List (Nat×Nat)).toArray[1]?=some ((L.map (Value.int .i64)).length,([Value.int .i64 0]:List Value).length):=by rw [ayq,N];rfl
    have p2:([(0,256),(256,1),(257,1),(258,1)]:List (Nat×Nat)).toArray[2]?=some ((L.map (Value.int .i64)++[Value.int .i64 m]).length,([Value.int .i64 0]:List Value).length):=by rw [List.length_append,ayq,N];rfl
    have D:([(0,256),(256,1),(257,1),(258,1)]:List (Nat×Nat)).toArray[3]?=some ((L.map (Value.int .i64)++[Value.int .i64 m,Value.int .i64 k]).length,([Value.slice none 0 0]:List Value).length):=by rw [List.length_append,ayq,N];rfl
    rw [v,abR _ _ _ _ (L.map (Value.int .i64)) 0 _ _ rfl (by rw [ayq,ayq,N,U]) B];rw [x,abR _ _ [Value.int .i64 0] _ [Value.int .i64 m] 1 (Value.int .i64 m) _ rfl rfl C];rw [y,abR _ _ [Value.int .i64 0] _ [Value.int .i64 k] 2 (Value.int .i64 k) _ rfl rfl p2];rw [A,abR _ _ [Value.slice none 0 0] [] [Value.slice a n c] 3 (Value.slice a n c) _ rfl rfl D];simp [Instr.fill,tbC]
theorem adx (T:List Value)(fold:Bool)(a:Option Addr)(n c:Nat)(lo N:Int)(J:T.length=259) :
  ZP.built 162 [(0,.agg T.toArray),(1,.agg #[Value.bool fold,Value.slice a n c]),(2,Value.int .i64 lo),(3,Value.int .i64 N)]=some (T++[Value.bool fold,Value.slice a n c,Value.int .i64 lo,Value.int .i64 N,Value.slice none 0 0]).toArray:=by
 obtain⟨X,U,Z⟩:∃X:List Value,X.length=259/\(ZP.info? 162).map (fun i=>i.zero.map Value.cells)=some (some (X++[Value.bool false,Value.slice none 0 0,Value.int .i64 0,Value.int .i64 0,Value.slice none 0 0]).toArray):=
  ⟨tbC (List.replicate 256 0) 0 0 (.slice none 0 0),aqh (by rw [axC]) _ _ _,by rw [au1,atY]⟩
 have Y:=apG;unfold Program.built
 cases D:ZP.info? 162 with
 | none=>rw [D] at Z;cases Z
 | some it=>
  rw [D] at Z;simp only [awW,ayN] at Z
  cases H:ZP.underlying 162 with
  | none=>rw [H] at Y;cases Y
  | some d=>
   rw [H] at Y
   cases d<;>try (cases Y;done)
   rename_i I
   simp only at Y ⊢
   cases V:it.zero with
   | none=>rw [V] at Z;cases Z
   | some z=>
    rw [V] at Z;simp only [awW,ayN] at Z;simp only [Y,Z];have s:(X++[Value.bool false,Value.slice none 0 0,Value.int .i64 0,Value.int .i64 0,Value.slice none 0 0]).toArray=([]++X++[Value.bool false,Value.slice none 0 0,Value.int .i64 0,Value.int .i64 0,Value.slice none 0 0]).toArray:=by simp
    have v:[]++T++[Value.bool false,Value.slice none 0 0,Value.int .i64 0,Value.int .i64 0,Value.slice none 0 0]=T++[Value.bool false,Value.slice none 0 0]++[Value.int .i64 0,Value.int .i64 0,Value.slice none 0 0]:=by simp
    have x:T++[Value.bool fold,Value.slice a n c]++[Value.int .i64 0,Value.int .i64 0,Value.slice none 0 0]=(T++[Value.bool fold,Value.slice a n c])++[Value.int .i64 0]++[Value.int .i64 0,Value.slice none 0 0]:=by simp
    have y:(T++[Value.bool fold,Value.slice a n c])++[Value.int .i64 lo]++[Value.int .i64 0,Value.slice none 0 0]=(T++[Value.bool fold,Value.slice a n c,Value.int .i64 lo])++[Value.int .i64 0]++[Value.slice none 0 0]:=by simp
    have A:([(0,259),(259,2),(261,1),(262,1),(263,1)]:List (Nat×Nat)).toArray[0]?=some (([]:List Value).length,X.length):=by rw [U];rfl
    have B:([(0,259),(259,2),(261,1),(262,1),(263,1)]:List (Nat×Nat)).toArray[1]?=some (T.length,([Value.bool false,Value.slice none 0 0]:List Value).length):=by rw [J];rfl
    have p2:([(0,259),(259,2),(261,1),(262,1),(263,1)]:List (Nat×Nat)).toArray[2]?=some ((T++[Value.bool fold,Value.slice a n c]).length,([Value.int .i64 0]:List Value).length):=by rw [List.length_append,J];rfl
    have C:([(0,259),(259,2),(261,1),(262,1),(263,1)]:List (Nat×Nat)).toArray[3]?=some ((T++[Value.bool fold,Value.slice a n c,Value.int .i64 lo]).length,([Value.int .i64 0]:List Value).length):=by rw [List.length_append,J];rfl
    rw [s,abR _ _ _ _ T 0 _ _ rfl (by rw [J,U]) A];rw [v,abR _ _ [Value.bool false,Value.slice none 0 0] _ [Value.bool fold,Value.slice a n c] 1 (Value.agg #[Value.bool fold,Value.slice a n c]) _ rfl rfl B];rw [x,abR _ _ [Value.int .i64 0] _ [Value.int .i64 lo] 2 (Value.int .i64 lo) _ rfl rfl p2];rw [y,abR _ _ [Value.int .i64 0] _ [Value.int .i64 N] 3 (Value.int .i64 N) _ rfl rfl C];simp [Instr.fill]
theorem acI (ws:List (List Int))(z:Nat):(aaD ws z).length<=z:=by
 unfold aaD;rw [ayq];exact agN _ _ _ _
section
attribute [local go_sem] Oper.semAt_some
attribute [local simp] aab aa6
attribute [local go_sem] aab aa6
def av8 (ws:List (List Int))(z:Nat):Nat:=(afo ws z).length
theorem aov (ws:List (List Int))(g q ab s o0 n xc z:Nat)(s0 s1 s3:Value)(w:World)
  (hg:w.heap[g]?=some (.cells #[s0,s1,.slice (some ⟨s,o0,none⟩) n xc,s3,.slice (some ⟨q,0,none⟩) n n] 238 (0,0))) (hq:aaa q (aay ws) w) (hN:(aa0 ws).length=n) (hn:n<=1000)
  (hW:∀(i:Nat) (v:Int),(aa5 ws).wrd[i]?=some v->w.cell? ⟨s,o0+i,none⟩=some (.int .i64 v)) (aa:s<w.heap.size)
  (ha:Boxed w ab 234 (.pointer (some ⟨g,0,none⟩))) (hz:z<n) :
  Calls ZP 135 #[.int .i64 (z:Int),.pointer (some ⟨ab,0,none⟩)] w fun e w'=>e=.returned (.int .i64 (av8 ws z:Int))/\Below w.heap.size w w':=by
 have a8:g<w.heap.size:=(awU.1 hg).1;have a6:q<w.heap.size:=(awU.1 (show w.heap[q]?=_ from hq)).1;obtain⟨Y,U⟩:∃W,W=w.alloc (.cells #[.int .i64 0] 3):=⟨_,rfl⟩;have I:Below w.heap.size w Y:=by rw [U];exact aa1 _ _
 have bC:Boxed Y w.heap.size 3 (.int .i64 0):=by rw [U];exact Boxed.new _ _ _
 have a2:Y.heap.size=w.heap.size+1:=by rw [U];simp
 have a1:Boxed Y ab 234 (.pointer (some ⟨g,0,none⟩)):=(I.block ab ha.lt).trans ha;have ca:=a1.cell;refine aau func135 rfl ?_;simp only [ntmps135,axT,axU,axV,Nat.reduceAdd,Nat.reduceSub,axW,axX,axY,axZ,ay0,ay1];go_upto_region 2 with fail
 rw [<-U];clear U
 go_wp2_with (go_at_call 136;refine (apn g z Y).mono ?_;rintro e w' ⟨rfl,rfl⟩)
 obtain⟨Z,V⟩:∃W,W=(Y.alloc (.cells #[.pointer (some ⟨g,0,none⟩)] 234)).alloc (.cells #[.int .i64 (z:Int)] 3):=⟨_,rfl⟩;have N:Below Y.heap.size Y Z:=by rw [V];exact (aa1 _ _).alloc (by simp) _
 have A:Boxed Z Y.heap.size 234 (.pointer (some ⟨g,0,none⟩)):=by rw [V];exact (Boxed.new Y 234 _).alloc _
 have C:Boxed Z (Y.heap.size+1) 3 (.int .i64 (z:Int)):=by
  rw [V];have:=Boxed.new (Y.alloc (.cells #[.pointer (some ⟨g,0,none⟩)] 234)) 3 (.int .i64 (z:Int))
  rwa [ax7] at this
 rw [<-V];clear V;have ad:Boxed Z w.heap.size 3 (.int .i64 0):=(N.block _ bC.lt).trans bC;have H:Below w.heap.size w Z:=I.trans (N.mono I.size);have e1:Z.heap[g]?=_:=(H.block g a8).trans hg;have e2:aaa q (aay ws) Z:=(H.block q a6).trans hq;have o:∀(i:Nat) (v:Int),(aa5 ws).wrd[i]?=some v->Z.cell? ⟨s,o0+i,none⟩=some (.int .i64 v):=fun i v X=>(H.cell (p:=⟨s,o0+i,none⟩) aa).trans (hW i v X);have j:=C.lt;rw [a2] at A C j;have a7:=anC ws g (w.heap.size+1) (w.heap.size+1+1) q n s o0 xc z _ _ _ (fun k=>k<Z.heap.size/\k≠w.heap.size) 8 Z e1 e2 hN (by omega) o A C ⟨⟨by omega,by omega⟩,⟨by omega,by omega⟩,⟨by omega,by omega⟩,⟨by omega,by omega⟩,⟨by omega,by omega⟩⟩ (fun k hk=>hk.1) hz;clear hg hq hW ha a1 ca e1 e2 A C o hN bC I N
 apply ait rfl (enters_of func188 (by kernel_rfl) rfl) a7 abp (ad2 fun k hk=>hk.1) (fun _=>rfl)
  (fun J W=>Boxed W w.heap.size 3 (.int .i64 ((J.length:Nat):Int))/\Below w.heap.size w W/\Z.heap.size<=W.heap.size)
  (fun _ _ _=>False)
 case hI=>exact OwnFrom.and (Own.from (boxed_own _ _ _) _) (OwnFrom.and (ownFrom_below (axe _) (by omega)) (af9 _ _))
 case hIx=>exact fun _ _ _ _ _ hs _ _=>hs
 case h0=>exact⟨by simpa using ad,H,axe _⟩
 case hassign=>
  intro l x W K hK;unfold aup
  gi_wp2
  exact hK
 case hbody=>
  rintro l J ⟨y,hy⟩ W ⟨X,B,hs⟩ ae;dsimp only;obtain⟨m,hm⟩:∃m,J.length=m:=⟨_,rfl⟩;have HM:Hid ((J++[(⟨y,hy⟩:NdP n)]).length=m+1):=by rw [Hid,List.length_append,hm];rfl
  have ag:m<=1000000:=by omega
  rw [hm] at X;have c2:=X.cell;have c4:=X.frozen;have ah:=X.lt;clear hm
  gi_wp2
  refine⟨(ayI W ⟨w.heap.size,0,none⟩ (.int .i64 ((m:Int)+1))).from _,fun k hk=>axn _ _ _ _ hk.2,?_,B.setCell (axe _) _,by show Z.heap.size<=(W.setCell _ _).heap.size;rw [World.size_setCell];omega⟩;rw [HM.out];exact X.set (.int .i64 ((m:Int)+1))
 case hdone=>
  rintro D zs W hD hS ⟨X,B,hs⟩ ac;have HZ:Hid (((zs.length:Nat):Int)=(av8 ws z:Int)):=by
   unfold Hid av8;rw [<-hS,ayq]
  rw [HZ.out] at X;have af:Boxed (W.putObj D (.deferred none)) w.heap.size 3 (.int .i64 (av8 ws z:Int)):=(ayn (by omega)).trans X;have c2:=X.cell;go_wp2;exact ar0 rfl ac (results_tmp rfl _ _ _) ⟨rfl,aaS B (by omega) (axe _) _⟩
 case hstop=>exact fun _ _ _ _ _ _ h _=>h.elim
end
def ad7 (ws:List (List Int)):Nat->Nat
 | 0=>0
 | i+1=>max (ad7 ws i) (av8 ws i)
theorem apW (t:TV)(T:aaN)(sp ws:List (List Int))(w:World)(hT:Tri w t T)(hb:t.un<=140737488351232)(hr:abI T=some (sp,ws)) :
  Calls ZP 92 #[.agg t.cells] w fun e w'=>e=.returned (.int .i64 ((ad7 ws (aa0 ws).length:Nat):Int))/\Below w.heap.size w w':=by
 obtain⟨ua,un,uc,da,dn,dc,xa,xn,xc,ba,bn,bc⟩:=t;obtain⟨W,hW⟩:∃W,W=w.alloc (.cells #[.slice ua un uc,.slice da dn dc,.slice xa xn xc,.slice ba bn bc] 150):=⟨_,rfl⟩;have hB:Below w.heap.size w W:=by rw [hW];exact aa1 _ _
 have hQ:W.heap[w.heap.size]?=some (.cells #[.slice ua un uc,.slice da dn dc,.slice xa xn xc,.slice ba bn bc] 150 (0,0)):=by rw [hW];exact axg _ _
 have c0:W.cell? ⟨w.heap.size,0,none⟩=some (.slice ua un uc):=by simp [World.cell?,hQ]
 have c1:W.cell? ⟨w.heap.size,1,none⟩=some (.slice da dn dc):=by simp [World.cell?,hQ]
 have c2:W.cell? ⟨w.heap.size,2,none⟩=some (.slice xa xn xc):=by simp [World.cell?,hQ]
 have c3:W.cell? ⟨w.heap.size,3,none⟩=some (.slice ba bn bc):=by simp [World.cell?,hQ]
 have HC:=ax3 (ajW _ T sp ws W (hT.below hB) hb hr);have HN:Hid ((aa0 ws).length<=400):=afO hr;obtain⟨_,D,_⟩:=ab6.1 hr;have J:Hid (Sl1 (Value.int .i64) w xa xn (aa5 ws).wrd):=by rw [Hid,<-D];exact hT.wrd
 have y:(aa5 ws).dep.length=dn:=by rw [<-D];exact hT.dep.1
 have x:(aa5 ws).dep.length=(aa0 ws).length:=by simp [aa5]
 rw [x] at y;subst y;clear hT hr D x;go_enter func92,ntmps92;go_upto_region 1 with fail
 rw [<-hW];clear hW
 go_wp2_with fail
 refine HC.out.mono ?_;rintro e H ⟨g,rfl,a8,h⟩;have a6:=hB.trans (h.mono hB.size);clear c0 c1 c2 c3 hQ hB h;go_upto_region 5 with fail
 obtain⟨B,V⟩:∃W,W=H.alloc (.cells #[.pointer (some ⟨g,0,none⟩)] 234):=⟨_,rfl⟩;have o:Below H.heap.size H B:=by rw [V];exact aa1 _ _
 have N:Boxed B H.heap.size 234 (.pointer (some ⟨g,0,none⟩)):=by rw [V];exact Boxed.new H 234 _
 rw [<-V];clear V;have U:=a6.trans (o.mono a6.size);have Y:=a8.below o;have ad:=N.lt;obtain⟨q,C,f2,f3,f4⟩:=Y.ex;have A:(aa5 ws).wrd.length=xn:=J.out.1;rw [(afy ws).1] at A;subst A;have ak:g<B.heap.size:=(awU.1 C).1;have c7:=N.cell;have c8:B.cell? ⟨g,4,none⟩=some (.slice (some ⟨q,0,none⟩) (aa0 ws).length (aa0 ws).length):=by simp [World.cell?,C]
 have ai:=ax3 N;have ah:=ax3 Y;clear C f2 f3 f4 a8 N Y;obtain⟨n,hn⟩:∃n,(aa0 ws).length=n:=⟨_,rfl⟩;have I:=ax3 hn;rw [hn] at HC HN J c8;clear HC hn;have aj:n<=400:=HN.out
 go_wp2_with fail
 go_loopw [6,21] (fun s6 aa wr=>∃i:Nat,i<=n/\s6=.int .i64 ((ad7 ws i:Nat):Int)/\aa=.int .i64 i/\Below B.heap.size B wr) (fun _ s _=>n-(intOf s).toNat)
 case atStart=>exact⟨0,axh _,rfl,rfl,axf _ _⟩
 case round=>
  obtain⟨i,hi,rfl,rfl,Z⟩:=hrel
  by_cases z:i<n
  ·
   have hd:decide ((i:Int)<n)=true:=by simp;omega
   have a7:Boxed wr H.heap.size 234 (.pointer (some ⟨g,0,none⟩)):=(Z.block _ ad).trans ai.out;have a1:=ah.out.below Z;obtain⟨q,C,f2,_⟩:=a1.ex;obtain⟨b0,o0,v0,ab,al,_,_⟩:=abm J.out z;subst ab;have a2:=U.trans (Z.mono U.size);rw [I.out] at C;have HT:=ax3 (aov ws g q H.heap.size b0 o0 n xc i _ _ _ wr C f2 I.out (by have:=HN.out;omega) (fun j v hv=>by
      obtain⟨b2,o2,x2,e2,ae,ag,X⟩:=abm J.out (k:=j) (by rw [<-I.out,<-(afy ws).1];exact (awR.1 hv).1)
      injection e2 with e2
      injection e2 with e3 e4 e5
      subst e3 e4;rw [hv] at X
      injection X with X
      subst X;exact (a2.cell (p:=⟨b0,o0+j,none⟩) ae).trans ag) (by have:=a2.size;omega) a7 z)
   have ac:max ((ad7 ws i:Nat):Int) ((av8 ws i:Nat):Int)=((ad7 ws (i+1):Nat):Int):=by
    show _=((max (ad7 ws i) (av8 ws i):Nat):Int);omega
   clear a7 a1 C f2
   go_wp2_with fail
   refine HT.out.mono ?_;rintro e w3 ⟨rfl,af⟩;go_wp2
   go_roundw
   case rel=>exact⟨i+1,by omega,by rw [<-ac],by go_num,Z.trans (af.mono Z.size)⟩
   case measure=>simp [intOf];omega
  ·
   obtain rfl:i=n:=by omega
   have hd:decide ((i:Int)<i)=false:=by simp
   go_wp2;go_ret;refine⟨?_,U.trans (Z.mono U.size)⟩;rw [I.out]
   rfl
section
variable {P:Program}{md:Region.Mode}{ops:Array Oper}{Q:Exit->Act->World->Prop}{S:World->Prop}
end
theorem afC {P:Program}{ops:Array Oper}{S:World->Prop}{op:Oper}{a:Act}(V:Region.wanted op (yielded ops a.tmps)=true)(Z:TypeId)(x:Operand)(ho:op.op=.load Z x)
  (g:Nat) (X:a.eval x=.pointer (some ⟨g,0,none⟩)) (t:TypeId) (cs:Array Value) (fr:Nat×Nat) (d:TypeDesc) (I:∀w,S w->w.heap[g]?=some (.cells cs t fr))
  (U:P.underlying Z=some d) (J:(match d with | .struct _ | .array _ _=>true | _=>false)=true) (N:(P.info? Z).map (·.size)=some cs.size):YieldsIf P ops S op (.agg cs) a:=
 .inl ⟨V,fun w Y=>by
  unfold execOp;simp only [ho,X,Instr.loadAt,Instr.sureAddr,awX,awY,Result.andThen_ok,run_loadVar_row w g t Z cs fr d (I w Y) U J N]⟩
theorem aug {L:List Int}(Z:L.length=256)(m:Int)(row:Value):(ZP.info? 146).map (·.size)=some (dvC L m row).toArray.size:=by rw [adY Z];exact amU
theorem avQ {L:List Int}(Z:L.length=256)(m:Int)(row:Value):Tryz.zeroCells146.size=(dvC L m row).toArray.size:=by rw [atJ,adY Z,adY axC]
def awI (M:Act->World->Prop):Exit->Act->World->Prop
 | .normal,a,w=>M a w
 | _,_,_=>False
theorem arI (ws:List (List Int)):(aa5 ws).up.length=(aa0 ws).length:=by simp [aa5]
def acf (G B:Nat)(Z:List Sv)(node:Nat)(l:List Int)(W:World):Prop:=∃v:Sv,W.heap[G]?=some (.cells ((Z.set node v).map svV).toArray 30 (0,0))/\ams W B (svV v) l
def ag4 (G n:Nat)(Z:List (List Int))(W:World):Prop:=∃Y:List Sv,W.heap[G]?=some (.cells (Y.map svV).toArray 30 (0,0))/\Y.length=n/\Z.length<=n/\(∀(i:Nat) (v:Sv),Z.length<=i->Y[i]?=some v->v=(none,0,0))/\
 ∀(i:Nat) (v:Sv) (xs:List Int),Y[i]?=some v->Z[i]?=some xs->Sl1 (Value.int .i64) W v.1 v.2.1 xs/\v.2.1<=v.2.2/\∀p,v.1=some p->G<=p.block
theorem avk {w:World}{G node:Nat}{Z:List Sv}{v:Sv}{t:TypeId}(h:w.heap[G]?=some (.cells ((Z.set node v).map svV).toArray t (0,0)))(u:Sv):(w.setCell ⟨G,node,none⟩ (svV u)).heap[G]?=some (.cells ((Z.set node u).map svV).toArray t (0,0)):=by
 have:=aa4 (i:=node) h (svV u);rw [this];simp [axc]
theorem acf.cell {W:World}{G B node:Nat}{Z:List Sv}{v:Sv}{t:TypeId}(h:W.heap[G]?=some (.cells ((Z.set node v).map svV).toArray t (0,0)))(Y:node<Z.length):W.cell? ⟨G,node,none⟩=some (svV v):=by
 rw [cell_of_row W G node _ _ _ h];simp [ayH,Y]
theorem acf.app {W U:World}{G B node:Nat}{H:List Sv}{l:List Int}{z:Int}{v u:Sv}{Y:Obj}(x:W.heap[G]?=some (.cells ((H.set node v).map svV).toArray 30 (0,0)))(V:ams W B (svV v) l)(s:G<B)(a1:B<=W.heap.size)
  (X:U.ownsRow B 3 1 (svV u) (l.length+1) (l.map (Value.int .i64)++[.int .i64 z])) (Z:(W.alloc Y).grownBy U (svV v).ownBlock) :
  U.heap[G]?=some (.cells ((H.set node v).map svV).toArray 30 (0,0))/\acf G B H node (l++[z]) (U.setCell ⟨G,node,none⟩ (svV u))/\KeepsOthers W (U.setCell ⟨G,node,none⟩ (svV u))/\(∀k,k<B->k≠G->(U.setCell ⟨G,node,none⟩ (svV u)).heap[k]?=W.heap[k]?)/\Below G W (U.setCell ⟨G,node,none⟩ (svV u)):=by
 have I:∀k,k<B->(svV v).ownBlock≠some k:=fun k A e=>by have:=(aap V k e).1;omega
 have J:U.heap[G]?=_:=(Z.block G (by simp;omega) (fun e=>I G s e.symm)).trans ((axi W Y G (by omega)).trans x);refine⟨J,⟨u,avk J u,?_⟩,?_,fun k A D=>?_,?_⟩
 · have:=World.ownsRow.kept X (aa9 U G node (svV u)) (.inr fun e=>by have:=(aap X G e).1;omega);unfold ams;rw [List.length_append,ay7];exact this
 ·
  refine ((KeepsOthers.alloc W Y).trans (KeepsOthers.of_grownBy Z fun j o N y=>?_)).trans (ayI _ _ _)
  rcases (World.ownsRow.alloc V Y).2 with ⟨h,_⟩ | ⟨g,cap,a2,h,_,C,_⟩
  · rw [h] at N;simp [Value.ownBlock] at N
  ·
   rw [h] at N;obtain rfl:g=j:=by simpa [Value.ownBlock] using N
   rw [C] at y;cases y;rfl
 · exact (axn _ _ _ _ (by show k≠G;exact D)).trans ((Z.block k (by simp;omega) (fun e=>I k A e.symm)).trans (axi _ _ _ (by omega)))
 · refine (((axf G W).alloc (by omega) Y).grown Z (by simp;omega) fun j N=>?_).setCell (p:=⟨G,node,none⟩) (axe _) (svV u);have:=(aap V j N).1;omega
theorem amm {α:Type}{G B p node:Nat}{J:List Sv}(H:p≠G)(I:p<B)(f:α->List Int):aaZ B (fun r=>r=p) (fun s W=>acf G B J node (f s) W):=by
 rintro s W y row ⟨v,Z,ho⟩ N U;have V:∀{k:Nat} {cs:Array Value} {t:TypeId},W.heap[k]?=some (.cells cs t (0,0))->k≠p->row≠some k:=fun {k cs t} D Y e=>by
  rcases U k e with ⟨_,o,h1,h2⟩ | h
  · rw [D] at h1;cases h1;cases h2
  · exact Y h
 refine⟨v,(N.block G (awU.1 Z).1 (fun e=>V Z (Ne.symm H) e.symm)).trans Z,ho.kept N ?_⟩
 rcases ho.2 with ⟨h,_⟩ | ⟨g,cap,z,h,C,X,_⟩
 · rw [h];exact .inl rfl
 ·
  rw [h];refine .inr fun e=>?_;have A:row=some g:=by rw [<-e];rfl
  rcases U g A with ⟨_,o,h1,h2⟩ | h
  · rw [X] at h1;cases h1;cases h2
  · omega
theorem aoZ {α:Type}{B G p:Nat}{P:Nat->Prop}{w:World}(U:∀k,k<B->P k->k≠p):aaZ B (fun r=>r=p) (fun (_:α) W=>(∀k,k<B->P k->W.heap[k]?=w.heap[k]?)/\B<=W.heap.size):=fun s W N row h X V=>
 ⟨fun k Y Z=>(X.block k (ax6 Y h.2) (fun e=>by
  rcases V k e.symm with ⟨h1,_⟩ | h1
  · omega
  · exact U k Y Z h1)).trans (h.1 k Y Z),awT h.2 X.size⟩
theorem ag4.new {W:World}{G n:Nat}(h:W.heap[G]?=some (.cells (ac7 n) 30 (0,0))):ag4 G n [] W:=by
 refine⟨List.replicate n (none,0,0),?_,by simp,axh _,fun i v _ Z=>?_,fun i v xs _ Y=>by simp at Y⟩
 · rw [h];simp [ac7,svV]
 ·
  rw [ayJ] at Z
  split at Z
  · exact (awV Z).symm
  · cases Z
theorem Sl1.keptG {w W:World}{a:Option Addr}{n G:Nat}{x:List Int}{N:List Sv}{t:TypeId}(h:Sl1 (Value.int .i64) w a n x)(D:w.heap[G]?=some (.cells (N.map svV).toArray t (0,0)))(H:∀k,k<w.heap.size->k≠G->W.heap[k]?=w.heap[k]?)(C:w.heap.size<=W.heap.size):Sl1 (Value.int .i64) W a n x:=by
 refine⟨h.1,?_⟩
 rcases h.2 with h0 | ⟨b,off,e,Z,U⟩
 · exact .inl h0
 ·
  by_cases I:x=[]
  · left;have:=h.1;rw [I] at this;simpa using this.symm
  ·
   refine .inr ⟨b,off,e,by omega,fun j y V=>?_⟩;have X:b≠G:=by
    rintro rfl;have Y:=U j y V;rw [cell_of_row w b (off+j) _ _ _ D] at Y;simp only [ax9,axa,ayw] at Y;obtain⟨v,_,J⟩:=Y
    cases J
   exact (axp (a:=⟨b,off+j,none⟩) (H b Z X)).trans (U j y V)
theorem ag4.step {W I:World}{G n B node:Nat}{X:List Sv}{Z:List (List Int)}{xs:List Int}(hg:W.heap[G]?=some (.cells (X.map svV).toArray 30 (0,0)))(o:X.length=n)(y:Z.length=node)(hn:node<n)(U:∀(i:Nat) (v:Sv),Z.length<=i->X[i]?=some v->v=(none,0,0))
  (s:∀(i:Nat) (v:Sv) (xs:List Int),X[i]?=some v->Z[i]?=some xs->Sl1 (Value.int .i64) W v.1 v.2.1 xs/\v.2.1<=v.2.2/\∀p,v.1=some p->G<=p.block) (A:G<=B) (hh:acf G B X node xs I) (j:∀k,k<W.heap.size->k≠G->I.heap[k]?=W.heap[k]?) (x:W.heap.size<=I.heap.size):ag4 G n (Z++[xs]) I:=by
 obtain⟨v,h1,h2⟩:=hh;refine⟨_,h1,by simp [o],by simp;omega,fun i u J Y=>?_,fun i u ys Y V=>?_⟩
 · simp at J;rw [ayF (by omega)] at Y;exact U i u (by omega) Y
 ·
  by_cases J:i=node
  ·
   subst J;rw [ayE (by omega)] at Y;obtain rfl:=awV Y;rw [<-y,ayK] at V;obtain rfl:=awV V;obtain⟨a,c,e,hc,H⟩:=aaC (enc:=Value.int .i64) h2;simp only [svV,ayL] at e;obtain⟨z,e2,e3⟩:=e;rw [z,e2,e3];refine⟨H,hc,fun p N=>?_⟩
   rcases h2.2 with ⟨h,_⟩ | ⟨g,cap,a1,h,C,_⟩
   · simp only [svV,ayL] at h;rw [<-z,h.1] at N;cases N
   ·
    simp only [svV,ayL] at h;rw [<-z,h.1] at N
    cases N
    exact awT A C
  · rw [ayF (Ne.symm J)] at Y;have D:=(awR.1 V).1;rw [ax8 (by simp at D;omega)] at V;obtain⟨h3,h4⟩:=s i u ys Y V;exact⟨h3.keptG hg j x,h4⟩
theorem ag4.lls {W:World}{G n:Nat}{Z:List (List Int)}(h:ag4 G n Z W)(U:Z.length=n):Lls W (some ⟨G,0,none⟩) n Z:=by
 obtain⟨V,h1,h2,_,_,h3⟩:=h;refine⟨V,⟨h2,.inr ⟨G,0,rfl,(awU.1 h1).1,fun i v X=>?_⟩⟩,h2.trans U.symm,fun i v xs X Y=>⟨(h3 i v xs X Y).1,(h3 i v xs X Y).2.1⟩⟩;rw [cell_of_row W G (0+i) _ _ _ h1];simp [X]
def aet (Q:Nat)(W:World):List Deferred->Prop
 | []=>True
 | d :: ds=>(∃D,d={ target:=.collected D,args:=#[] }/\Q<=D/\W.heap[D]?=some (Obj.deferred (some []))/\∀Z∈ds,Z.target≠.collected D)/\aet Q W ds
theorem aet.lt {Q:Nat}{W:World}:∀{ds:List Deferred},aet Q W ds->∀D,(∃d∈ds,d.target=.collected D)->D<W.heap.size
 | [],_,D,⟨d,Z,_⟩=>by simp at Z
 | d0 :: ds,⟨⟨D0,e,_,h0,_⟩,h⟩,D,⟨d,Z,e1⟩=>by
  rcases axG.1 Z with rfl | Z
  ·
   rw [e] at e1
   cases e1
   exact (awU.1 h0).1
  · exact aet.lt h D ⟨d,Z,e1⟩
theorem aet.keep {Q:Nat}{W V:World}:∀{ds:List Deferred},aet Q W ds->(∀D,(∃d∈ds,d.target=.collected D)->W.heap[D]?=some (Obj.deferred (some []))->V.heap[D]?=some (Obj.deferred (some [])))->aet Q V ds
 | [],_,_=>trivial
 | d0 :: ds,⟨⟨D0,e,hq,h0,hn⟩,h⟩,hk=>⟨⟨D0,e,hq,hk D0 ⟨d0,List.mem_cons_self ..,by rw [e]⟩ h0,hn⟩,aet.keep h fun D ⟨d,Z,Y⟩=>hk D ⟨d,ayM _ Z,Y⟩⟩
theorem aet.push {Q D G:Nat}{W V:World}{ds:List Deferred}(h:aet Q W ds)(Y:∀k,k<W.heap.size->k≠G->V.heap[k]?=W.heap[k]?)(U:∀l:Option (List Deferred),W.heap[G]?≠some (Obj.deferred l))(H:W.heap.size<=D)(X:V.heap[D]?=some (Obj.deferred (some [])))(I:Q<=W.heap.size) :
  aet Q V ({ target:=.collected D,args:=#[] } :: ds):=by
 refine⟨⟨D,rfl,by omega,X,fun N Z e=>?_⟩,h.keep fun J Z h0=>?_⟩
 · have:=h.lt D ⟨N,Z,e⟩;omega
 · rw [Y J (awU.1 h0).1 (fun e=>U _ (by rw [<-e];exact h0))];exact h0
def aeB (Q:Nat)(W Z:World):Prop:=Below Q W Z/\Z.heap.size=W.heap.size/\∀k:Nat,(∀l:Option (List Deferred),W.heap[k]?≠some (Obj.deferred l))->Z.heap[k]?=W.heap[k]?
theorem awz {P:Program}{fn:Func}{R:Ending->World->Prop}{tmps:Array Value}{Q:Nat}:∀(ds:List Deferred) (W:World),Q<=W.heap.size->aet Q W ds->(∀Y,aeB Q W Y->∃v,(results fn tmps).run P Y=.ok v Y/\R (.returned v) Y)->
  LeavesInM Fence.wide 9 P fn tmps R ds .returning W
 | [],W,_,_,h=>h W ⟨axf _ _,rfl,fun _ _=>rfl⟩
 | d :: ds,W,hQ,⟨⟨D,e,hq,hD,hn⟩,hc⟩,h=>by
  subst e;refine⟨by simp,.inl ⟨_,_,rfl,run_takeDeferred hD,awz ds _ (by simpa [World.putObj] using hQ) (hc.keep fun I N h0=>?_) (fun Y Z=>h Y ⟨(aaS (axf Q W) hq hQ _).trans Z.1,by rw [Z.2.1];simp [World.putObj],fun k V=>?_⟩)⟩⟩
  · obtain⟨J,h1,h2⟩:=N;rw [ayn (fun e=>hn J h1 (by rw [h2,e]))];exact h0
  · have X:k≠D:=fun e=>V _ (by rw [e];exact hD);have U:(W.putObj D (.deferred none)).heap[k]?=W.heap[k]?:=ayn X;rw [Z.2.2 k (fun l=>by rw [U];exact V l),U]
theorem aeB.cell {Q:Nat}{W Y:World}(h:aeB Q W Y){a:Addr}{v:Value}(Z:W.cell? a=some v):Y.cell? a=some v:=by
 rw [<-Z];refine axp (h.2.2 _ fun l e=>?_);unfold World.cell? at Z;rw [e] at Z;simp at Z
theorem aeB.box {Q:Nat}{W X:World}(h:aeB Q W X){k:Nat}{cs:Array Value}{t:TypeId}{Y:Nat×Nat}(Z:W.heap[k]?=some (.cells cs t Y)):X.heap[k]?=some (.cells cs t Y):=
 (h.2.2 k fun l e=>by rw [Z] at e;cases e).trans Z
theorem aeB.sl1 {α:Type}{enc:α->Value}{Q:Nat}{W X:World}(h:aeB Q W X){a:Option Addr}{n:Nat}{xs:List α}(Y:Sl1 enc W a n xs):Sl1 enc X a n xs:=by
 refine⟨Y.1,?_⟩
 rcases Y.2 with h0 | ⟨b,off,e,Z,U⟩
 · exact .inl h0
 · exact .inr ⟨b,off,e,by rw [h.2.1];exact Z,fun i x V=>h.cell (U i x V)⟩
theorem aeB.wds {Q:Nat}{W X:World}(h:aeB Q W X){a:Option Addr}{n:Nat}{wss:List (List Int)}(U:Wds W a n wss):Wds X a n wss:=by
 obtain⟨V,h1,h2,h3⟩:=U;exact⟨V,h.sl1 h1,h2,fun i v xs Y Z=>⟨⟨h.sl1 (h3 i v xs Y Z).1.1,(h3 i v xs Y Z).1.2⟩,(h3 i v xs Y Z).2⟩⟩
theorem aeB.lls {Q:Nat}{W V:World}(h:aeB Q W V){a:Option Addr}{n:Nat}{Z:List (List Int)}(N:Lls W a n Z):Lls V a n Z:=by
 obtain⟨U,h1,h2,h3⟩:=N;exact⟨U,h.sl1 h1,h2,fun i v xs X Y=>⟨h.sl1 (h3 i v xs X Y).1,(h3 i v xs X Y).2⟩⟩
theorem aeB.mok {Q:Nat}{W N:World}(h:aeB Q W N){B R V U wc:Nat}{fold:Bool}{wss:List (List Int)}{lo X:Int}{a Y:Option Addr}(Z:MOK W B fold wss lo X R a V U Y wc):MOK N B fold wss lo X R a V U Y wc:=
 ⟨⟨h.box Z.mc.box,Z.mc.len⟩,h.box Z.row,h.wds Z.wds,h.lls Z.lls⟩
theorem aj6 {a b c:World}{G:Nat}(h:a.grownBy b (some G))(k:b.grownBy c (some G)):a.grownBy c (some G):=
 ⟨k.os.trans h.os,k.tape.trans h.tape,k.output.trans h.output,awT h.size k.size,fun i Y Z=>(k.block i (ax6 Y h.size) Z).trans (h.block i Y Z)⟩
theorem Mc.setW {w:World}{B:Nat}{L:List Int}{m n:Int}{row:Value}{fold:Bool}{Z:Value}{lo Y:Int}{wd:Value}(h:Mc w B L m n row fold Z lo Y wd)(u:Value):Mc (w.setCell ⟨B,263,none⟩ u) B L m n row fold Z lo Y u:=by
 refine⟨?_,h.len⟩;rw [aa4 (i:=263) h.box u];simp [mcC,List.set_append,h.len]
theorem agu {w:World}{base Z n size:Nat}{e:TypeId}{v:Value}{xs:List Value}(h:w.ownsRow base e size v n xs)(X:Z<=base):w.ownsRow Z e size v n xs:=
 ⟨h.1,h.2.imp id fun ⟨g,cap,Y,h1,h2,r⟩=>⟨g,cap,Y,h1,by omega,r⟩⟩
theorem adq.lower {w:World}{b b':Nat}{v:Value}{wss:List (List Int)}(h:adq w b v wss)(X:b'<=b):adq w b' v wss:=by
 obtain⟨es,h1,h2,h3⟩:=h;exact⟨es,agu h1 X,h2,fun i e xs Y Z=>⟨agu (h3 i e xs Y Z).1 X,(h3 i e xs Y Z).2⟩⟩
def adr (q:Nat)(W V:World):Prop:=W.heap.size<=V.heap.size/\∀k,q<=k->k<W.heap.size->(∀l,W.heap[k]?≠some (Obj.deferred l))->V.heap[k]?=W.heap[k]?
theorem adr.cell {q:Nat}{W V:World}(h:adr q W V){a:Addr}{v:Value}(X:q<=a.block)(Z:W.cell? a=some v):V.cell? a=some v:=by
 rw [<-Z];have Y:=awQ W a Z;refine axp (h.2 _ X Y fun l e=>?_);unfold World.cell? at Z;rw [e] at Z;simp at Z
theorem adr.box {q:Nat}{W V:World}(h:adr q W V){k:Nat}{cs:Array Value}{t:TypeId}{Y:Nat×Nat}(X:q<=k)(Z:W.heap[k]?=some (.cells cs t Y)):V.heap[k]?=some (.cells cs t Y):=
 (h.2 k X (awU.1 Z).1 fun l e=>by rw [Z] at e;cases e).trans Z
theorem adr.row {q:Nat}{W V:World}(h:adr q W V){e:TypeId}{size n:Nat}{v:Value}{xs:List Value}(ho:W.ownsRow q e size v n xs):V.ownsRow q e size v n xs:=
 ⟨ho.1,ho.2.imp id fun ⟨g,cap,Z,h1,h2,h3,r⟩=>⟨g,cap,Z,h1,h2,h.box h2 h3,r⟩⟩
theorem adr.ownW {q:Nat}{W V:World}(h:adr q W V){v:Value}{wss:List (List Int)}(ho:adq W q v wss):adq V q v wss:=by
 obtain⟨es,h1,h2,h3⟩:=ho;exact⟨es,h.row h1,h2,fun i e xs Y Z=>⟨h.row (h3 i e xs Y Z).1,(h3 i e xs Y Z).2⟩⟩
theorem adr.sl1 {α:Type}{enc:α->Value}{q:Nat}{W V:World}(h:adr q W V){a:Option Addr}{n:Nat}{xs:List α}(ha:∀p,a=some p->q<=p.block)(Y:Sl1 enc W a n xs):Sl1 enc V a n xs:=by
 refine⟨Y.1,?_⟩
 rcases Y.2 with h0 | ⟨b,off,e,Z,U⟩
 · exact .inl h0
 · exact .inr ⟨b,off,e,ax6 Z h.1,fun i x X=>h.cell (a:=⟨b,off+i,none⟩) (show q<=b from ha _ e) (U i x X)⟩
theorem adr.of_below {q:Nat}{W V:World}(Z:Below W.heap.size W V):adr q W V:=⟨Z.size,fun k _ Y _=>Z.block k Y⟩
theorem aeB.kept {Q q:Nat}{W Z:World}(h:aeB Q W Z):adr q W Z:=⟨by rw [h.2.1];exact axe _,fun k _ _ Y=>h.2.2 k Y⟩
structure atH (q:Nat)(W:World)(B R:Nat)(a:Option Addr)(la ca:Nat)(wss:List (List Int))(wa:Option Addr):Prop where
 b:q<=B
 r:q<=R
 own:adq W q (.slice a la ca) wss
 rows:∃vs:List Sv,Sl1 (fun v=>Value.slice v.1 v.2.1 v.2.2) W wa (aa0 wss).length vs/\vs.length=(aa0 wss).length/\(∀(i:Nat) (v:Sv) (xs:List Int),vs[i]?=some v->((List.range (aa0 wss).length).map (aaD wss))[i]?=some xs->Sl1 (Value.int .i64) W v.1 v.2.1 xs/\v.2.1<=v.2.2/\∀p,v.1=some p->q<=p.block)/\∀p,wa=some p->q<=p.block
theorem atH.kept {q B R N J:Nat}{W V:World}{a U:Option Addr}{wss:List (List Int)}(h:atH q W B R a N J wss U)(X:adr q W V):atH q V B R a N J wss U:=by
 obtain⟨I,h1,h2,h3,h4⟩:=h.rows;exact⟨h.b,h.r,X.ownW h.own,I,X.sl1 h4 h1,h2,fun i v xs Y Z=>⟨X.sl1 (h3 i v xs Y Z).2.2 (h3 i v xs Y Z).1,(h3 i v xs Y Z).2⟩,h4⟩
theorem atH.mok {q B R X N wc:Nat}{W V:World}{fold:Bool}{lo J:Int}{a Y:Option Addr}{wss:List (List Int)}(h:atH q W B R a X N wss Y)(Z:adr q W V)(U:MOK W B fold wss lo J R a X N Y wc):MOK V B fold wss lo J R a X N Y wc:=by
 obtain⟨A,h1,h2,h3,h4⟩:=(h.kept Z).rows;obtain⟨o,s,C,_,H⟩:=(h.kept Z).own.wds;simp only [ayL] at C;obtain⟨y,z,x⟩:=C;rw [<-y,<-z] at H;exact⟨⟨Z.box h.b U.mc.box,U.mc.len⟩,Z.box h.r U.row,H,A,h1,by simpa using h2,fun i v xs D I=>⟨(h3 i v xs D I).1,(h3 i v xs D I).2.1⟩⟩
theorem ag4.far {W:World}{G n q:Nat}{Z:List (List Int)}(h:ag4 G n Z W)(N:q<=G):∃Y:List Sv,Sl1 (fun v=>Value.slice v.1 v.2.1 v.2.2) W (some ⟨G,0,none⟩) n Y/\Y.length=n/\(∀(i:Nat) (v:Sv) (xs:List Int),Y[i]?=some v->Z[i]?=some xs->Sl1 (Value.int .i64) W v.1 v.2.1 xs/\v.2.1<=v.2.2/\∀p,v.1=some p->q<=p.block)/\∀p,(some ⟨G,0,none⟩:Option Addr)=some p->q<=p.block:=by
 obtain⟨Y,h1,h2,_,_,h3⟩:=h;refine⟨Y,⟨h2,.inr ⟨G,0,rfl,(awU.1 h1).1,fun i v X=>?_⟩⟩,h2,fun i v xs X V=>⟨(h3 i v xs X V).1,(h3 i v xs X V).2.1,fun p U=>awT N ((h3 i v xs X V).2.2 p U)⟩,fun p U=>by cases U;exact N⟩;rw [cell_of_row W G (0+i) _ _ _ h1];simp [X,svV]
end Go.Proofs.YtaamacoicojhnaaGreat
