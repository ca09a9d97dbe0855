/- Proofs over the given program, part 8. -/
import Derived.Test.YtaamacoicojhnaaGreatZR7
set_option linter.unusedVariables false
set_option linter.unusedSimpArgs false
set_option maxRecDepth 100000
set_option maxHeartbeats 16000000
open Go.Proofs.Tryz
open Go.Proofs.Tryz renaming prog→ZP
open Go.World(cell? frozen?)
open Go.Value(int slice pointer bool)
open Go.IntKind(i64)
namespace Go.Proofs.YtaamacoicojhnaaGreat
open Go.RowKit Go.Sort
def fcB(fold:Bool)(c:Int):Int:=if fold=true then BE c else c
theorem Nm(fold:Bool)(b:List Int):AO fold b=b.map (fcB fold):=by
 unfold AO fcB
 cases fold<;>simp
theorem al5{fold:Bool}{c:Nat}(Z:c<256):∃d:Nat,fcB fold (c:Int)=(d:Int)/\d<256:=by
 unfold fcB BE
 cases fold
 ·exact⟨c,by simp,Z⟩
 ·by_cases h:(65:Int)<=(c:Int)/\(c:Int)<=90
  ·refine⟨c+32,?_,by omega⟩;rw[Lc rfl,Lc h];omega
  ·exact⟨c,by rw[Lc rfl,Lb h],Z⟩
theorem amK{fold:Bool}{ws:La}(Z:Fe fold ws){c:Int}:inB fold ws c=true↔De ws (fcB fold c):=by
 rw[afs];unfold fcB BE CF
 cases fold with
 |false=>simp
 |true=>
  have g:=Z rfl;simp only[if_true,decide_eq_true_iff,true_and]
  constructor
  ·rintro⟨x,h1,h2⟩;have Y:=g x h1
   rcases h2 with rfl|⟨h3,h4⟩
   ·rw[Lb Y];exact h1
   ·rw[Lc om,show c+32=x by omega];exact h1
  ·intro h
   split at h
   ·exact⟨c+32,h,.inr ⟨by omega,by omega⟩⟩
   ·exact⟨c,h,.inl rfl⟩
theorem anJ{fold:Bool}{ws:La}{c d:Nat}(h:fcB fold (c:Int)=(d:Int)):DA (inB fold ws) fold c=DA (inB fold ws) fold d:=by
 unfold DA;have e:EJ fold c=EJ fold d:=by
  unfold EJ CF;unfold fcB BE at h
  cases fold with
  |false=>simp at h;simp;omega
  |true=>
   simp only[if_true]at h;simp only[FJ,decide_eq_true_iff]
   split at h
   ·rw[Lb om,Lc om];omega
   ·have:c=d:=by omega
    rw[this]
 rw[e]
theorem aow{fold:Bool}{ws:La}(X:Fe fold ws){c:Nat}(Y:c<256):(BF fold ws)[c]?=some (if inB fold ws c=true then(DA (inB fold ws) fold c:Int) else 0):=by
 cases Z:inB fold ws (c:Int)with
 |false=>rw[Lb sm];exact amJ Z Y
 |true=>rw[Lc rfl];exact ag8 (IF X) Z Y
theorem anr{ws:La}{x:List Int}{c:Int}(h:¬De ws c):lsf (AB ws) (x++[c])=[]:=by
 have h0:([]:List Int)∈AB ws:=(DT ws).2 (.inl rfl);refine aaP h0 (List.nil_suffix) h0 (λz Z X=>?_)
 rcases List.eq_nil_or_concat z with rfl|⟨y,d,rfl⟩
 ·simp
 ·exfalso
  rw[List.concat_eq_append]at Z X;obtain⟨t,Y⟩:=Z;rw[<-CE]at Y;have:=(List.append_inj' Y rfl).2;have e:d=c:=by simpa using this
  subst e;exact h (Lp X)
def KT(ws:La)(x:List Int):Int:=CW (AB ws) x
theorem agm{ws:La}{j:Nat}{x:List Int}(h:(AB ws)[j]?=some x):KT ws x=(j:Int):=CV (CL ws).nodup h
theorem anI{ws:La}{x:List Int}(h:x∈AB ws):∃j:Nat,(AB ws)[j]?=some x/\KT ws x=(j:Int)/\j<(AB ws).length:=by obtain⟨j,Z⟩:=DR h;exact⟨j,Z,agm Z,(AP.1 Z).1⟩
structure OkT(fold:Bool)(ws:La):Prop where
 great:Fe fold ws
 byt:∀x,De ws x->0<=x/\x<=255
 pos:0<(AB ws).length
theorem OZ{fold:Bool}{ws:La}(h:OkT fold ws):(FN fold ws).length=Ah fold ws*(AB ws).length:=(Mr h.great h.byt (AC _)).1
theorem agI(fold:Bool)(ws:La):1<=Ah fold ws:=(Hb _ _ _).1
theorem Oi{fold:Bool}{ws:La}(h:OkT fold ws):Hu (Ah fold ws) (FN fold ws).length=((AB ws).length:Int):=by have:=agI fold ws;unfold Hu;rw[OZ h,Lb om,<-Int.natCast_ediv,Nat.mul_div_cancel_left _ om]
theorem aju{fold:Bool}{ws:La}(h:OkT fold ws){j:Nat}{x:List Int}(N:(AB ws)[j]?=some x){c:Nat}(U:c<256) :goD (BF fold ws) (Ah fold ws) (FN fold ws) j c=some (KT ws (lsf (AB ws) (x++[fcB fold c]))):=by
 have B:=(AP.1 N).1;have C:=agI fold ws;obtain⟨h1,h2⟩:=aoy h.great h.byt N;obtain⟨v,H⟩:∃v:Nat,(BF fold ws)[c]?=some (v:Int)/\v<Ah fold ws/\(FN fold ws)[j*Ah fold ws+v]?=some (KT ws (lsf (AB ws) (x++[fcB fold c]))):=by
  rw[aow h.great U]
  by_cases Z:inB fold ws (c:Int)=true
  ·rw[Lc Z];refine⟨_,rfl,ME (IF h.great) Z U,?_⟩;obtain⟨d,J,D⟩:=al5 (fold:=fold) U;have Y:=(amK h.great).1 Z;rw[J]at Y⊢;rw[anJ J];exact h2 d Y
  ·rw[Lb Z];refine⟨0,rfl,by omega,?_⟩;rw[anr (λY=>Z ((amK h.great).2 Y)),agm (CM ws),DQ];exact h1
 obtain⟨V,I,X⟩:=H;unfold goD;rw[Oi h,V,CG,Lb (by rintro((h|h)|(h|h))<;>omega)];rw[show((j:Int)*(Ah fold ws:Int)+(v:Int)).toNat=j*Ah fold ws+v by rw[<-Iy];omega];exact X
theorem anF{fold:Bool}{ws:La}(h:OkT fold ws){j:Int}(Z:j<0∨((AB ws).length:Int)<=j)(c:Nat):goD (BF fold ws) (Ah fold ws) (FN fold ws) j c=none:=by unfold goD;rw[Oi h,Lc (.inr Z)]
theorem okT{fold:Bool}{ws:La}(Z:An fold ws=true)(Y:∀x∈ws,∀c∈x,0<=c/\c<=255):OkT fold ws:=⟨acv (Fv Z).2,λx ⟨w,h1,h2⟩=>Y w h1 x h2,apG.2 (Lo ws)⟩
section
open Go Go.RowKit Go.Sort
def nxN(L wd:List Int):Nat->Nat->Nat
 |0,_=>0
 |f+1,z=>if z=0 then 0 else if 0<=(wd[((L[z]?).getD 0).toNat]?).getD (-1) then((L[z]?).getD 0).toNat else nxN L wd f ((L[z]?).getD 0).toNat
theorem Ll(L wd:List Int)(f:Nat):nxN L wd f 0=0:=by cases f<;>simp[nxN]
theorem agR{L wd:List Int}{B:Nat}(Z:∀z,0<z->z<=B->((L[z]?).getD 0).toNat<z):∀{f g z:Nat},z<=B->z<=f->z<=g->nxN L wd f z=nxN L wd g z
 |0,g,z,hb,hf,hg=>by
  obtain rfl:z=0:=by omega
  rw[Ll,Ll]
 |f+1,0,z,hb,hf,hg=>by
  obtain rfl:z=0:=by omega
  rw[Ll,Ll]
 |f+1,g+1,z,hb,hf,hg=>by
  unfold nxN
  by_cases h0:z=0
  ·rw[Lc h0,Lc h0]
  ·rw[Lb h0,Lb h0];have:=Z z om hb
   split
   ·rfl
   ·exact agR Z om om om
def nx(ws:La)(z:Nat):Nat:=nxN (Bo ws) (AG ws).wrd z z
def Bk(ws:La):List Int:=(List.range (AB ws).length).map λz=>(nx ws z:Int)
section
variable {ws:La}
theorem Nh{z:Nat}{x:List Int}(Y:(AB ws)[z]?=some x):∃k:Nat,(Bo ws)[z]?=some (k:Int)/\(z=0->k=0)/\(0<z->k<z)/\(AB ws)[k]?=some (EC (AB ws) x):=by
 by_cases h0:z=0
 ·subst h0;have Z:=(EM Y).1 rfl;subst Z;have X:Gc ws []=0:=CV (CL ws).nodup (CM ws);exact⟨0,by rw[JP Y,X];rfl,λ_=>rfl,λh=>absurd h (Nat.lt_irrefl 0),CM ws⟩
 ·obtain⟨k,h1,h2,h3⟩:=(aiJ ws (z+1)).at_ (Nat.lt_succ_self z) Y h0;exact⟨k,h1,λh=>absurd h h0,λ_=>h2,h3⟩
theorem agw{z:Nat}(h0:0<z)(Z:z<(AB ws).length):(((Bo ws)[z]?).getD 0).toNat<z:=by
 obtain⟨k,h1,_,h3,_⟩:=Nh (ws:=ws) (z:=z) (x:=(AB ws)[z]) sm;rw[h1]
 simpa using h3 h0
theorem Lk(ws:La):nx ws 0=0:=Ll _ _ _
theorem ajZ{z k:Nat}(h0:0<z)(Y:z<(AB ws).length)(hk:(Bo ws)[z]?=some (k:Int)){v:Int}(X:(AG ws).wrd[k]?=some v):nx ws z=if 0<=v then k else nx ws k:=by
 obtain⟨f,rfl⟩:∃f,z=f+1:=⟨z-1,by omega⟩;have Z:=agw h0 Y;unfold nx
 conv=>lhs;unfold nxN
 rw[hk,CG,Aa]at Z⊢;rw[Lb om,X,CG]
 split
 ·rfl
 ·exact agR (B:=f) (λz h1 h2=>agw h1 om) om om (AC _)
theorem Jt(ws:La):(AG ws).wrd.length=(AB ws).length/\(AG ws).dep.length=(AB ws).length/\(AG ws).up.length=(AB ws).length/\(AG ws).byt.length=(AB ws).length:=by simp[AG]
theorem aom:∀{z:Nat}{x:List Int},(AB ws)[z]?=some x->∃y,(AB ws)[nx ws z]?=some y/\(0<z->nx ws z<z/\y.length<x.length)/\(0<nx ws z->∃v:Int,(AG ws).wrd[nx ws z]?=some v/\0<=v):=by
 intro z
 induction z using Nat.strongRecOn with
 |_ z ih=>
  intro x J;have D:=(AP.1 J).1
  by_cases h0:z=0
  ·subst h0;exact⟨[],by rw[Lk];exact CM ws,λh=>absurd h (Nat.lt_irrefl 0),λh=>by rw[Lk]at h;exact absurd h (Nat.lt_irrefl 0)⟩
  ·obtain⟨k,h1,_,h3,h4⟩:=Nh J;have Y:x≠[]:=λe=>h0 ((EM J).2 e);have B:=Lx (N:=AB ws) Y;have X:=h3 om;obtain⟨v,H⟩:∃v,(AG ws).wrd[k]?=some v:=⟨(AG ws).wrd[k]'(by rw[(Jt ws).1];omega),by simp⟩;have V:=ajZ om D h1 H
   by_cases Z:0<=v
   ·rw[Lc Z]at V;rw[V];exact⟨_,h4,λ_=>⟨X,B⟩,λ_=>⟨v,H,Z⟩⟩
   ·rw[Lb Z]at V;obtain⟨y,U,s,A⟩:=ih k X h4;rw[V];refine⟨y,U,λ_=>?_,A⟩
    by_cases I:k=0
    ·subst I;rw[Lk]at U⊢;rw[CM]at U;have C:=AK U;rw[<-C];refine⟨by omega,?_⟩;have:x.length≠0:=λe=>Y (Bz e);simp;omega
    ·obtain⟨e4,j⟩:=s om;exact⟨by omega,by omega⟩
theorem ID{z:Nat}(Z:z<(AB ws).length):(Bk ws)[z]?=some (nx ws z:Int):=by simp[Bk,Z]
theorem aim(ws:La):(Bk ws).length=(AB ws).length:=by simp[Bk]
end
def Ed(nxt wd:List Int):Nat->Nat->List Nat
 |0,_=>[]
 |f+1,z=>if z=0 then [] else(if 0<=(wd[z]?).getD (-1) then [z] else [])++Ed nxt wd f ((nxt[z]?).getD 0).toNat
theorem JZ(nxt wd:List Int)(f:Nat):Ed nxt wd f 0=[]:=by cases f<;>simp[Ed]
theorem aaK(nxt wd:List Int)(f z:Nat):Ed nxt wd (f+1) z=if z=0 then [] else(if 0<=(wd[z]?).getD (-1) then [z] else [])++Ed nxt wd f ((nxt[z]?).getD 0).toNat:=rfl
theorem acq{nxt wd:List Int}{B:Nat}(Z:∀z,0<z->z<=B->((nxt[z]?).getD 0).toNat<z):∀{f g z:Nat},z<=B->z<=f->z<=g->Ed nxt wd f z=Ed nxt wd g z
 |0,g,z,hb,hf,hg=>by
  obtain rfl:z=0:=by omega
  rw[JZ,JZ]
 |f+1,0,z,hb,hf,hg=>by
  obtain rfl:z=0:=by omega
  rw[JZ,JZ]
 |f+1,g+1,z,hb,hf,hg=>by
  unfold Ed
  by_cases h0:z=0
  ·rw[Lc h0,Lc h0]
  ·rw[Lb h0,Lb h0];have:=Z z om hb;rw[acq Z (show((nxt[z]?).getD 0).toNat<=B by omega) (show _<=f by omega) (show _<=g by omega)]
theorem abd(nxt wd:List Int):∀(f z:Nat),(Ed nxt wd f z).length<=f
 |0,z=>by simp[Ed]
 |f+1,z=>by
  unfold Ed
  split
  ·simp
  ·have:=abd nxt wd f ((nxt[z]?).getD 0).toNat;rw[List.length_append]
   split<;>simp<;>omega
def Fh(ws:La)(z:Nat):List Nat:=Ed (Bk ws) (AG ws).wrd z z
theorem NW{ws:La}{z:Nat}(h0:0<z)(Z:z<(AB ws).length):(((Bk ws)[z]?).getD 0).toNat<z:=by rw[ID Z,CG,Aa];obtain⟨y,_,h,_⟩:=aom (ws:=ws) (z:=z) (x:=(AB ws)[z]) sm;exact(h h0).1
theorem akm{ws:La}{z:Nat}(h0:0<z)(Y:z<(AB ws).length):Fh ws z=(if 0<=((AG ws).wrd[z]?).getD (-1) then [z] else [])++Fh ws (nx ws z):=by obtain⟨f,rfl⟩:∃f,z=f+1:=⟨z-1,by omega⟩;have Z:=NW h0 Y;unfold Fh;rw[aaK,Lb om];rw[ID Y,CG,Aa]at Z⊢;congr 1;exact acq (B:=f) (λz h1 h2=>NW h1 om) om om (AC _)
end
def nTo(P:List Int)(n j:Nat):List Int:=P.take j++List.replicate (n-j) 0
theorem anz{P:List Int}{n j:Nat}(Z:P.length=n)(Y:j<=n):(nTo P n j).length=n:=by unfold nTo;rw[List.length_append,Ag,CS];omega
theorem aoJ{P:List Int}{n j i:Nat}(Z:i<j)(X:j<=n)(Y:P.length=n):(nTo P n j)[i]?=P[i]?:=by unfold nTo;rw[By (by rw[Ag];omega),FT,Lc Z]
theorem an7{P:List Int}{n:Nat}(h1:1<=n)(h0:P[0]?=some 0):nTo P n 1=List.replicate n 0:=by obtain⟨m,rfl⟩:∃m,n=m+1:=⟨n-1,by omega⟩;have Z:=As h0;unfold nTo;rw[Z,Ip];simp
theorem ano{P:List Int}{n j:Nat}{v:Int}(V:P.length=n)(U:j<n)(Z:P[j]?=some v):(nTo P n j).set j v=nTo P n (j+1):=by
 unfold nTo;obtain⟨m,Y⟩:∃m,n-j=m+1:=⟨n-j-1,by omega⟩;have X:(P.take j).length=j:=by rw[Ag];omega
 rw[Jm _ _ om,X,FG,Y,Ip,List.set_cons_zero,As Z,show n-(j+1)=m by omega,CE]
 rfl
theorem anP{P:List Int}{n:Nat}(Z:P.length=n):nTo P n n=P:=by unfold nTo;rw[FG,List.replicate_zero,Cx,Ap om]
structure OD(W:World)(base g:Nat)(t:TV)(ws:La):Prop where
 ex:∃q:Nat,W.heap[g]?=some (.cells #[slice t.ua t.un t.uc,slice t.da t.dn t.dc,slice t.xa t.xn t.xc,slice t.ba t.bn t.bc,slice (some ⟨q,0,none⟩) (AB ws).length (AB ws).length] 238 (0,0))/\AU q (Bk ws) W/\base<=g/\base<=q
theorem OD.below{W V:World}{base g:Nat}{t:TV}{ws:La}(h:OD W base g t ws)(Z:Bt W V):OD V base g t ws:=by obtain⟨q,h1,h2,h3⟩:=h.ex;exact⟨q,(Z.block g (AD.1 h1).1).trans h1,(Z.block q (AD.1 (show W.heap[q]?=_ from h2)).1).trans h2,h3⟩
theorem ae2(t:TV)(T:Ay)(sp ws:La)(w:World)(hT:Tri w t T)(hb:t.un<=140737488351232)(hr:CI T=some (sp,ws)) :Calls ZP 133 #[.agg t.cells] w λe w'=>∃g,e=.returned (.tuple #[pointer (some ⟨g,0,none⟩),bool true])/\OD w' w.heap.size g t ws/\Bt w w':=by
 have a6:=Hx hr;obtain⟨_,ac,_⟩:=Fy.1 hr;obtain⟨ua,un,uc,da,dn,dc,xa,xn,xc,ba,bn,bc⟩:=t;have Y:xn=(AB ws).length:=by have:=hT.wrd.1;rw[ac]at this;simp[AG]at this;exact this.symm
 have aq:=AA Y;clear Y;have a7:1<=(AB ws).length:=by have:=Lo ws;have:(AB ws).length≠0:=λe=>this (Bz e);omega
 obtain⟨W,hW⟩:∃W,W=w.alloc (.cells #[slice ua un uc,slice da dn dc,slice xa xn xc,slice ba bn bc] 150):=⟨_,rfl⟩;have hB:Bt w W:=by rw[hW];exact AL _ _
 have hQ:W.heap[w.heap.size]?=some (.cells #[slice ua un uc,slice da dn dc,slice xa xn xc,slice ba bn bc] 150 (0,0)):=by rw[hW];exact AT _ _
 have c0:W.cell? ⟨w.heap.size,0,none⟩=some (slice ua un uc):=by simp[cell?,hQ]
 have c1:W.cell? ⟨w.heap.size,1,none⟩=some (slice da dn dc):=by simp[cell?,hQ]
 have c2:W.cell? ⟨w.heap.size,2,none⟩=some (slice xa xn xc):=by simp[cell?,hQ]
 have c3:W.cell? ⟨w.heap.size,3,none⟩=some (slice ba bn bc):=by simp[cell?,hQ]
 have HC:=AA (ack _ T sp ws W (hT.below hB) hb hr);have aJ:Hid (Sl1 (int i64) w xa xn (AG ws).wrd):=by rw[Hid,<-ac];exact hT.wrd
 clear hT hr ac;go_enter func133,ntmps133;go_upto_region 1 with fail
 rw[<-hW];clear hW
 go_wp2_with fail
 refine HC.out.mono ?_;rintro e A ⟨q0,rfl,a1,aO,ab⟩;have D:=hB.trans (ab.mono hB.size);have X:A.heap[w.heap.size]?=_:=(ab.block _ (AD.1 hQ).1).trans hQ;clear c0 c1 c2 c3 hQ HC hB ab;have aK:=AA (aJ.out.below D);have aL:=AA X;obtain⟨n,a2⟩:∃n,(AB ws).length=n:=⟨_,rfl⟩;have N:=AA a2;have Y:=aq.out;rw[a2]at a6 a7 Y⊢;clear aq
 replace Y:=Y.symm
 subst Y;have ay:∀V:World,(Instr.makeSlice 30 (int i64 n) (int i64 n)).run ZP V=.ok (slice (some ⟨V.heap.size,0,none⟩) n n) (V.alloc (.cells (GE n) 3)):=λV=>by
  obtain⟨i0,hi,av,ad,au⟩:=Ve JS;have h:=run_makeSlice (P:=ZP) (w:=V) 30 3 i0 (.int .i64 0) underlying30 hi av .i64 .i64 (n:Int) (n:Int) om om (by rw[ad];omega) (by rw[au];omega) om;rw[ad]at h;have e1:(n:Int).toNat*1=n:=by omega
  rw[e1,Nc,Aa]at h;exact h
 clear a2;have aj:w.heap.size<A.heap.size:=(AD.1 X).1;have ah:w.heap.size≠A.heap.size:=by omega
 have ai:w.heap.size<A.heap.size+1:=by omega
 have c0:A.cell? ⟨w.heap.size,0,none⟩=some (slice ua un uc):=by simp[cell?,X]
 have c1:A.cell? ⟨w.heap.size,1,none⟩=some (slice da dn dc):=by simp[cell?,X]
 have c2:A.cell? ⟨w.heap.size,2,none⟩=some (slice xa n xc):=by simp[cell?,X]
 have c3:A.cell? ⟨w.heap.size,3,none⟩=some (slice ba bn bc):=by simp[cell?,X]
 go_upto_region 4 with fail
 go_cut[6] (λs6 wx=>∃g q:Nat,s6=pointer (some ⟨g,0,none⟩)/\wx.heap[g]?=some (.cells #[slice ua un uc,slice da dn dc,slice xa n xc,slice ba bn bc,slice (some ⟨q,0,none⟩) n n] 238 (0,0))/\AU q (List.replicate n 0) wx/\g≠q/\A.heap.size<=g/\A.heap.size<=q/\Bt A wx)
 case first=>
  go_region
  all_goals
   go_wp2_with fail
   go_meet
   refine⟨A.heap.size+1,A.heap.size,rfl,Hf sm _,?_,by omega,by omega,by omega,?_⟩
   ·exact(Bg _ _ _ sm).trans (AU.new A n)
   ·exact((AL A _).alloc sm _).trans ⟨rfl,rfl,rfl,AC _,λ_ _=>rfl⟩
 case rest=>
  obtain⟨g,q,rfl,hg,H,aC,aT,af,Z⟩:=hcut;clear c0 c1 c2 c3 ay ah ai X;have ao:∀V:World,Bt A V->AU q0 (Bo ws) V:=λV hV=>(hV.block q0 (AD.1 (show A.heap[q0]?=_ from a1)).1).trans a1;have aN:=AA ao;have aM:Hid ((Bk ws)[0]?=some 0):=by rw[Hid,ID (by rw[N.out];omega),Lk];rfl
  have C:Hid ((Bk ws).length=n):=by rw[Hid,aim,N.out]
  have ag:AU q (nTo (Bk ws) n 1) wc:=by rw[an7 a7 aM.out];exact H
  clear ao H a1;go_wp2
  go_loopw[7] (λs7 wr=>∃j:Nat,1<=j/\j<=n/\s7=int i64 j/\wr.heap[g]?=some (.cells #[slice ua un uc,slice da dn dc,slice xa n xc,slice ba bn bc,slice (some ⟨q,0,none⟩) n n] 238 (0,0))/\AU q (nTo (Bk ws) n j) wr/\Bt A wr) (λs _=>n-(intOf s).toNat)
  case atStart=>exact⟨1,AC _,a7,rfl,hg,ag,Z⟩
  case round=>
   clear hg ag Z;obtain⟨j,aR,al,rfl,hg,H,Z⟩:=hrel
   by_cases aa:j<n
   ·have hd:decide ((j:Int)<n)=true:=by simp;omega
    obtain⟨x,hx⟩:∃x,(AB ws)[j]?=some x:=⟨(AB ws)[j]'(by have:=N.out;omega),by simp⟩;obtain⟨k,a8,_,ak,aB⟩:=Nh hx;have aA:=ak om;obtain⟨b0,o0,v,e0,az,cv,hv⟩:=DG aK.out (show k<n by omega);have B:=ajZ om (by rw[N.out];exact aa) a8 hv;have U:=ID (ws:=ws) (z:=j) (by rw[N.out];exact aa);rw[B]at U;have aQ:wr.cell? ⟨q0,j,none⟩=some (int i64 (k:Int)):=by rw[cell_of_row wr q0 j _ _ _ (aN.out wr Z)];simp[a8]
    have am:wr.heap[w.heap.size]?=_:=(Z.block _ aj).trans aL.out;have x2:wr.cell? ⟨w.heap.size,2,none⟩=some (slice xa n xc):=by simp[cell?,am]
    subst e0;have aV:wr.cell? ⟨b0,o0+k,none⟩=some (int i64 v):=(Z.cell (p:=⟨b0,o0+k,none⟩) az).trans cv;have g4:wr.cell? ⟨g,4,none⟩=some (slice (some ⟨q,0,none⟩) n n):=by simp[cell?,hg]
    have aw:=anz (P:=Bk ws) C.out al;have I:∀(i:Nat)(y:Int),(nTo (Bk ws) n j)[i]?=some y->wr.cell? ⟨q,i,none⟩=some (int i64 y):=λi y hy=>by rw[cell_of_row wr q i _ _ _ H];simp[hy]
    have aD:wr.frozen? ⟨q,j,none⟩=false:=by simp[frozen?,show wr.heap[q]?=_ from H]
    obtain⟨y0,ae⟩:∃y,(nTo (Bk ws) n j)[j]?=some y:=⟨(nTo (Bk ws) n j)[j]'om,by simp⟩;have cj:=I j y0 ae;have ck:=I k (nx ws k) (by rw[aoJ aA al C.out];exact ID (by rw[N.out];omega));have aS:g<wr.heap.size:=(AD.1 hg).1;have ax:q<wr.heap.size:=(AD.1 (show wr.heap[q]?=_ from H)).1;have ap:∀z:Int,(Bk ws)[j]?=some z->AU q (nTo (Bk ws) n (j+1)) (wr.setCell ⟨q,j,none⟩ (int i64 z))/\(wr.setCell ⟨q,j,none⟩ (int i64 z)).heap[g]?=some (.cells #[slice ua un uc,slice da dn dc,slice (some ⟨b0,o0,none⟩) n xc,slice ba bn bc,slice (some ⟨q,0,none⟩) n n] 238 (0,0))/\Bt A (wr.setCell ⟨q,j,none⟩ (int i64 z)):=λz hz=>
     ⟨by have:=H.set (j:=j) z;rwa[ano C.out aa hz]at this,(AQ _ _ _ _ (by show g≠q;exact aC)).trans hg,Z.setCell af _⟩
    have ar:=AA ap;have j1:(0:Int)<=(j:Int):=by omega
    have j2:(j:Int)<(n:Int):=by omega
    have k1:(0:Int)<=(k:Int):=by omega
    have k2:(k:Int)<(n:Int):=by omega
    clear ap hx a8 ak aB hv B am I ae aw
    by_cases J:0<=v
    ·have dv:decide ((0:Int)<=v)=true:=by simpa using J
     rw[Lc J]at U;obtain⟨f1,f2,f3⟩:=ar.out _ U;clear U J;go_wp2
     go_roundw
     case rel=>exact⟨j+1,by omega,by omega,by go_num,f2,f1,f3⟩
     case measure=>simp[intOf];omega
    ·have dv:decide ((0:Int)<=v)=false:=by simpa using J
     rw[Lb J]at U;clear J;go_upto_region 11 with fail
     refine Hw 13 mixed kr ?_;dsimp only[List.take_succ_cons,List.take_zero,List.drop_succ_cons,List.drop_zero]
     repeat (go_big_quiet_step (fail))
     refine wpQuiet_nil ?_;rintro _ ⟨nq,rfl⟩;obtain⟨f1,f2,f3⟩:=ar.out _ U;have aE:((wr.drewN nq).setCell ⟨q,j,none⟩ (int i64 (nx ws k:Int))).heap=(wr.setCell ⟨q,j,none⟩ (int i64 (nx ws k:Int))).heap:=rfl;have aI:AU q (nTo (Bk ws) n (j+1)) ((wr.drewN nq).setCell ⟨q,j,none⟩ (int i64 (nx ws k:Int))):=f1;have aH:((wr.drewN nq).setCell ⟨q,j,none⟩ (int i64 (nx ws k:Int))).heap[g]?=some (.cells #[slice ua un uc,slice da dn dc,slice (some ⟨b0,o0,none⟩) n xc,slice ba bn bc,slice (some ⟨q,0,none⟩) n n] 238 (0,0)):=f2;have aG:Bt A ((wr.drewN nq).setCell ⟨q,j,none⟩ (int i64 (nx ws k:Int))):=(Z.trans ((AN wr nq).mono Z.size)).setCell af _;have aW:(wr.drewN nq).cell? ⟨q,j,none⟩=some (int i64 y0):=cj;have aU:(wr.drewN nq).frozen? ⟨q,j,none⟩=false:=aD;have aP:q<(wr.drewN nq).heap.size:=ax;clear f1 f2 f3 aE U;go_wp2
     go_roundw
     case rel=>exact⟨j+1,by omega,by omega,by go_num,aH,aI,aG⟩
     case measure=>simp[intOf];omega
   ·obtain rfl:j=n:=by omega
    have hd:decide ((j:Int)<j)=false:=by simp
    rw[anP C.out]at H;have aF:=D.trans (Z.mono D.size);have hs:=D.size;go_wp2;go_ret2;exact⟨g,rfl,⟨⟨q,by rw[N.out];exact hg,H,by omega,by omega⟩⟩,aF⟩
section
attribute[local go_sem] Oper.semAt_some
attribute[local simp] Ak Al
attribute[local go_sem] Ak Al
abbrev NdP(n:Nat):={z:Nat // z<n}
def anB{n:Nat}(z:NdP n):Array Value:=#[int i64 (z.1:Int)]
theorem ak9(g:Nat)(node:Int)(w:World) :Calls ZP 136 #[.pointer (some ⟨g,0,none⟩),.int .i64 node] w λe w'=>e=.returned (.func (.func 188) #[] #[.pointer (some ⟨w.heap.size+1,0,none⟩),.pointer (some ⟨w.heap.size,0,none⟩)])/\
   w'=(w.alloc (.cells #[pointer (some ⟨g,0,none⟩)] 234)).alloc (.cells #[int i64 node] 3):=by
 go_enter func136,ntmps136;go_wp2;go_ret;exact⟨rfl,rfl⟩
theorem ahI(ws:La)(g C p2 q n B o0 xc:Nat)(z0:Nat)(s0 s1 s3:Value)(S:Nat->Prop)(m:Nat)(w:World)
  (hg:w.heap[g]?=some (.cells #[s0,s1,slice (some ⟨B,o0,none⟩) n xc,s3,slice (some ⟨q,0,none⟩) n n] 238 (0,0))) (hq:AU q (Bk ws) w) (hN:(AB ws).length=n) (hn:n<=1000000)
  (hW:∀(i:Nat)(v:Int),(AG ws).wrd[i]?=some v->w.cell? ⟨B,o0+i,none⟩=some (int i64 v))
  (h1:Boxed w C 234 (pointer (some ⟨g,0,none⟩))) (h2:Boxed w p2 3 (int i64 (z0:Int)))
  (hS:S g/\S q/\S C/\S p2/\S B) (D:∀k,S k->k<w.heap.size) (ag:z0<n) :
  SeqStopsK Fence.wide m ZP 188 #[pointer (some ⟨p2,0,none⟩),pointer (some ⟨C,0,none⟩)] anB (Cc S) (λzs:List (NdP n)=>zs.map Subtype.val=Fh ws z0) (λZ=>∃r,Fh ws z0=Z.map Subtype.val++r) (z0+1) w:=by
 intro l J Jx W ad hJ ai hY h0;obtain⟨ab,y,aa,a8,a7⟩:=hS;have cells:∀v:World,Cc S w v->v.cell? ⟨C,0,none⟩=some (.pointer (some ⟨g,0,none⟩))/\v.cell? ⟨p2,0,none⟩=some (.int .i64 (z0:Int))/\v.cell? ⟨g,2,none⟩=some (.slice (some ⟨B,o0,none⟩) n xc)/\v.cell? ⟨g,4,none⟩=some (.slice (some ⟨q,0,none⟩) n n)/\
   (∀(j:Nat)(x:Int),(Bk ws)[j]?=some x->v.cell? ⟨q,j,none⟩=some (int i64 x))/\(∀(j:Nat)(x:Int),(AG ws).wrd[j]?=some x->v.cell? ⟨B,o0+j,none⟩=some (int i64 x)):=by
  intro v X;have e1:v.heap[C]?=some (.cells #[pointer (some ⟨g,0,none⟩)] 234 (0,0)):=(X C aa).trans h1;have e2:v.heap[g]?=_:=(X g ab).trans hg;have e3:v.heap[q]?=some (.cells ((Bk ws).map (int i64)).toArray 3 (0,0)):=(X q y).trans hq;have e4:v.heap[p2]?=some (.cells #[int i64 (z0:Int)] 3 (0,0)):=(X p2 a8).trans h2;refine⟨by simp[cell?,e1],by simp[cell?,e4],by simp[cell?,e2],by simp[cell?,e2],λj x hx=>?_,λj x hx=>?_⟩
  ·rw[cell_of_row v q j _ _ _ e3];simp[hx]
  ·rw[<-hW j x hx];exact BC (X B a7)
 have HC:=AA cells;have H:Cc S w W:=Ke ad D;have N:=AA hN;have ak:=AA D;clear hg hq h1 h2 cells hW hN D;obtain⟨c1,c2,_,_,_,_⟩:=HC.out W H;refine callsIn_of_wp func188 rfl trivial ?_ rfl;simp only[ntmps188,Cw,Ao,Bw,Nat.reduceAdd,Nat.reduceSub,Dd,Dc,DX,Da,Av,CT]
 gi_wp2
 clear c1 c2
 gi_loopw[4] (λs4 wr=>∃(z f:Nat)(Z:List (NdP n)),z<=f/\z<=z0/\s4=int i64 (z:Int)/\Hid (Fh ws z0=Z.map Subtype.val++Ed (Bk ws) (AG ws).wrd f z)/\J Z wr/\Cc S w wr) (λs _=>(intOf s).toNat)
 case atStart=>exact⟨z0,z0,[],AC _,AC _,rfl,rfl,h0,H⟩
 case round=>
  clear H;obtain⟨z,f,Z,af,ae,rfl,HP,hj,hk⟩:=hrel;obtain⟨c1,c2,c3,c4,c5,c6⟩:=HC.out wr hk
  by_cases hz:z=0
  ·subst hz;have A:Hid (Z.map Subtype.val=Fh ws z0):=by rw[Hid,HP.out,JZ,Cx]
   gi_wp2
   go_end0
   exact⟨⟨_,rfl⟩,.inl ⟨Z,A.out,hj⟩⟩
  ·obtain⟨f,rfl⟩:∃f',f=f'+1:=⟨f-1,by omega⟩;obtain⟨v,X⟩:∃v,(AG ws).wrd[z]?=some v:=⟨(AG ws).wrd[z]'(by rw[(Jt ws).1,N.out];omega),by simp⟩;have U:=ID (ws:=ws) (z:=z) (by rw[N.out];omega);have ac:=NW (ws:=ws) (z:=z) om (by rw[N.out];omega);have Y:=HP.out;rw[aaK,Lb hz,X,CG]at Y;rw[U,CG,Aa]at Y ac;have cw:=c6 z v X;have cn:=c5 z _ U;have ah:((z:Int) != 0)=true:=by simp;omega
   have i1:(0:Int)<=(z:Int):=by omega
   have i2:(z:Int)<(n:Int):=by omega
   have I:z<n:=by omega
   by_cases V:0<=v
   ·have dv:decide ((0:Int)<=v)=true:=by simpa using V
    rw[Lc V]at Y;have A:Hid (Fh ws z0=(Z++[(⟨z,I⟩:NdP n)]).map Subtype.val++Ed (Bk ws) (AG ws).wrd f (nx ws z)):=by rw[Hid,Y];simp
    have a1:Z.length<z0+1:=by have h1:=congrArg List.length Y;have h2:=abd (Bk ws) (AG ws).wrd z0 z0;unfold Fh at h1;rw[List.length_append,List.length_append,BP,OK]at h1;omega
    obtain⟨fn,tmps,assign,body,h,a6⟩:=hY Z ⟨z,I⟩ wr hj a1;dsimp only[anB]at h;clear Y X U
    gi_wp2
    refine a6.mono ?_;rintro e W4 (⟨rfl,hJ4,hk4⟩|⟨rfl,hJx4⟩)
    ·have a2:=GD hk hk4;obtain⟨d1,d2,d3,d4,d5,d6⟩:=HC.out W4 a2;have dn:=(hk4 q y);have aj:W4.cell? ⟨q,z,none⟩=some (int i64 (nx ws z:Int)):=d5 z _ (ID (by rw[N.out];omega));clear c1 c2 c3 c4 c5 c6 cw cn d5 d6 a6 h dn
     gi_wp2
     go_roundw
     case rel=>exact⟨nx ws z,f,_,by omega,by omega,rfl,A,hJ4,a2⟩
     case measure=>simp[intOf];omega
    ·have HG:Hid (∃r,Fh ws z0=(Z++[(⟨z,I⟩:NdP n)]).map Subtype.val++r):=⟨_,A.out⟩
     gi_wp2
     refine Vf (results_none rfl _ _ _) rfl ?_;exact⟨⟨_,rfl⟩,.inr ⟨_,HG.out,hJx4⟩⟩
   ·have dv:decide ((0:Int)<=v)=false:=by simpa using V
    rw[Lb V,Av]at Y;have A:=AA Y;clear Y X U c5 c6
    gi_wp2
    go_roundw
    case rel=>exact⟨nx ws z,f,Z,by omega,by omega,rfl,A,hj,hk⟩
    case measure=>simp[intOf];omega
end
section
attribute[local go_sem] Oper.semAt_some
attribute[local simp] Ak Al
attribute[local go_sem] Ak Al
theorem ane(W:World)(z:Int):SlK 1 (W.alloc (.cells #[int i64 z] 3)) (some ⟨W.heap.size,0,none⟩) 1 [int i64 z]:=
 ⟨rfl,.inr ⟨_,_,rfl,by simp,λi u Z=>by
  have:=GI (w:=W) #[int i64 z] 3 rfl i u (by simpa using Z)
  rwa[Cf]at this⟩⟩
theorem ak6(t:TV)(T:Ay)(X ws:La)(w:World)(U:Tri w t T)(J:t.un<=140737488351232)(V:CI T=some (X,ws)) :Calls ZP 88 #[.agg t.cells] w λe w'=>∃q,e=.returned (.tuple #[slice (some ⟨q,0,none⟩) (AB ws).length (AB ws).length,int i64 0])/\AU q (Bk ws) w'/\w.heap.size<=q/\Bt w w':=by
 obtain⟨ua,un,uc,da,dn,dc,xa,xn,xc,ba,bn,bc⟩:=t;have hB:=AL w (.cells #[slice ua un uc,slice da dn dc,slice xa xn xc,slice ba bn bc] 150);have I:=AA (ae2 _ T X ws _ (U.below hB) J V);clear U V;go_enter func88,ntmps88
 go_wp2_with fail
 refine I.out.mono ?_;rintro e N ⟨g,rfl,Y,Z⟩;obtain⟨q,h1,h3,h6,h7⟩:=Y.ex;have c5:N.cell? ⟨g,4,none⟩=some (slice (some ⟨q,0,none⟩) (AB ws).length (AB ws).length):=by simp[cell?,h1]
 simp only[DN]at h7;clear h1;go_wp2;go_ret2;exact⟨q,rfl,h3,by omega,hB.trans (Z.mono hB.size)⟩
end
section
attribute[local go_sem] Oper.semAt_some
attribute[local simp] Ak Al
attribute[local go_sem] Ak Al
def CA(ws:La)(z:Nat):List Int:=(Fh ws z).map λn=>((AG ws).wrd[n]?).getD 0
def DW(base b:Nat)(w W:World):Prop:=(∀k,k<base->k≠b->W.heap[k]?=w.heap[k]?)/\base<=W.heap.size
theorem aaq{base b:Nat}{v w:World}(h:DW base b v w)(o:Obj):DW base b v (w.alloc o):=⟨λk h1 h2=>((AL w o).block k (Af h1 h.2)).trans (h.1 k h1 h2),by have:=h.2;rw[DN];omega⟩
end
theorem afO(ws:La):CA ws 0=[]:=by
 unfold CA Fh;rw[JZ]
 rfl
theorem acI{ws:La}{z:Nat}{v:Int}(h0:0<z)(Y:z<(AB ws).length)(Z:(AG ws).wrd[z]?=some v):CA ws z=(if 0<=v then [v] else [])++CA ws (nx ws z):=by
 unfold CA;rw[akm h0 Y,Z,CG,Aj];congr 1
 split
 ·rw[BO,Z];rfl
 ·rfl
def mcC(L:List Int)(m n:Int)(row:Value)(fold:Bool)(sw:Value)(lo mo:Int)(wd:Value):List Value:=L.map (int i64)++[int i64 m,int i64 n,row,bool fold,sw,int i64 lo,int i64 mo,wd]
structure Mc(W:World)(B:Nat)(L:List Int)(m n:Int)(row:Value)(fold:Bool)(sw:Value)(lo mo:Int)(wd:Value):Prop where
 box:W.heap[B]?=some (.cells (mcC L m n row fold sw lo mo wd).toArray 162 (0,0))
 len:L.length=256
section
variable {W V:World}{B:Nat}{L:List Int}{m n:Int}{row:Value}{fold:Bool}{sw:Value}{lo mo:Int}{wd:Value}
theorem Mc.lt(h:Mc W B L m n row fold sw lo mo wd):B<W.heap.size:=(AD.1 h.box).1
theorem Mc.below(h:Mc W B L m n row fold sw lo mo wd)(Z:Bt W V):Mc V B L m n row fold sw lo mo wd:=⟨(Z.block B h.lt).trans h.box,h.len⟩
theorem Mc.cls(h:Mc W B L m n row fold sw lo mo wd){c:Nat}{v:Int}(Z:L[c]?=some v):W.cell? ⟨B,c,none⟩=some (int i64 v):=by
 have Y:c<256:=by have:=(AP.1 Z).1;have:=h.len;omega
 have e:(mcC L m n row fold sw lo mo wd)[c]?=some (int i64 v):=by
  unfold mcC;rw[By (by simp[h.len];omega),BU,Z]
  rfl
 simp only[cell?,h.box];simp[e]
theorem Mc.off(h:Mc W B L m n row fold sw lo mo wd){i:Nat}{v:Value}(Z:[int i64 m,int i64 n,row,bool fold,sw,int i64 lo,int i64 mo,wd][i]?=some v):W.cell? ⟨B,256+i,none⟩=some v:=by
 have e:(mcC L m n row fold sw lo mo wd)[256+i]?=some v:=by
  unfold mcC;rw[DY (by simp[h.len])]
  simpa[h.len]using Z
 simp only[cell?,h.box];simp[e]
theorem Mc.cells(h:Mc W B L m n row fold sw lo mo wd):W.cell? ⟨B,256,none⟩=some (int i64 m)/\W.cell? ⟨B,257,none⟩=some (int i64 n)/\W.cell? ⟨B,258,none⟩=some row/\W.cell? ⟨B,259,none⟩=some (bool fold)/\W.cell? ⟨B,260,none⟩=some sw/\W.cell? ⟨B,261,none⟩=some (int i64 lo)/\W.cell? ⟨B,262,none⟩=some (int i64 mo)/\W.cell? ⟨B,263,none⟩=some wd:=⟨h.off (i:=0) rfl,h.off (i:=1) rfl,h.off (i:=2) rfl,h.off (i:=3) rfl,h.off (i:=4) rfl,h.off (i:=5) rfl,h.off (i:=6) rfl,h.off (i:=7) rfl⟩
end
def Lls(W:World)(a:Option Addr)(len:Nat)(Z:La):Prop:=
 ∃Y:List (Option Addr×Nat×Nat),Sl1 (λv=>slice v.1 v.2.1 v.2.2) W a len Y/\Y.length=Z.length/\∀(i:Nat)(v:Option Addr×Nat×Nat)(xs:List Int),Y[i]?=some v->Z[i]?=some xs->Sl1 (int i64) W v.1 v.2.1 xs/\v.2.1<=v.2.2
theorem Lls.below{W V:World}{a:Option Addr}{len:Nat}{Z:La}(h:Lls W a len Z)(U:Bt W V):Lls V a len Z:=by obtain⟨N,h1,h2,h3⟩:=h;exact⟨N,h1.below U,h2,λi v xs X Y=>⟨(h3 i v xs X Y).1.below U,(h3 i v xs X Y).2⟩⟩
theorem Lls.at_{w:World}{a:Option Addr}{len:Nat}{Z:La}(h:Lls w a len Z){k:Nat}(hk:k<len) :∃b off J l c xs,a=some ⟨b,off,none⟩/\b<w.heap.size/\w.cell? ⟨b,off+k,none⟩=some (slice J l c)/\Z[k]?=some xs/\Sl1 (int i64) w J l xs/\l<=c:=by obtain⟨X,⟨h0,h1⟩,h2,h3⟩:=h;obtain⟨b,off,rfl,Y,I⟩:=h1.resolve_left om;obtain⟨v,N⟩:∃v,X[k]?=some v:=⟨X[k]'om,by simp⟩;obtain⟨x,U⟩:∃v,Z[k]?=some v:=⟨Z[k]'om,by simp⟩;exact⟨b,off,v.1,v.2.1,v.2.2,x,rfl,Y,I k v N,U,h3 k v x N U⟩
structure MOK(W:World)(B:Nat)(fold:Bool)(wss:La)(lo mo:Int)(R:Nat)(a:Option Addr)(la ca:Nat)(wa:Option Addr)(wc:Nat):Prop where
 mc:Mc W B (BF fold wss) (Ah fold wss) ((AB wss).length:Int) (slice (some ⟨R,0,none⟩) (Ah fold wss*(AB wss).length) (Ah fold wss*(AB wss).length)) fold (slice a la ca) lo mo (slice wa (AB wss).length wc)
 row:AU R (FN fold wss) W
 wds:Wds W a la wss
 lls:Lls W wa (AB wss).length ((List.range (AB wss).length).map (CA wss))
theorem MOK.below{W V:World}{B R X U wc:Nat}{fold:Bool}{wss:La}{lo mo:Int}{a Y:Option Addr}(h:MOK W B fold wss lo mo R a X U Y wc)(Z:Bt W V):MOK V B fold wss lo mo R a X U Y wc:=⟨h.mc.below Z,(Z.block R h.row.lt).trans h.row,h.wds.below Z,h.lls.below Z⟩
theorem Nk(B:Nat)(L:List Int)(m n:Int)(row:Value)(fold:Bool)(sw:Value)(lo mo:Int)(wd:Value)(node:Int)(w:World)(h:Mc w B L m n row fold sw lo mo wd) :Calls ZP 271 #[pointer (some ⟨B,0,none⟩),int i64 node] w λe w'=>e=.returned (bool (decide (0<=node/\node<n)))/\w=w':=by
 have c5:=h.cells.2.1;clear h
 by_cases h0:0<=node
 ·have X:decide ((0:Int)<=node)=true:=by simpa using h0
  obtain⟨D,U⟩:∃D,decide (node<n)=D:=⟨_,rfl⟩;have Y:Hid (decide (0<=node/\node<n)=D):=by rw[Hid,<-U];simp[h0]
  clear h0;have Z:∀(r:Ending)(w':World),r=.returned (bool D)/\w=w'->r=.returned (bool (decide (0<=node/\node<n)))/\w=w':=λr w' h=>by rw[Y.out];exact h
  refine Calls.mono ?_ Z;clear Z Y;go_enter func271,ntmps271;go_wp2;go_ret;exact⟨rfl,rfl⟩
 ·have X:decide ((0:Int)<=node)=false:=by simpa using h0
  have Y:Hid (decide (0<=node/\node<n)=false):=by simp[Hid];omega
  have Z:∀(r:Ending)(w':World),r=.returned (bool false)/\w=w'->r=.returned (bool (decide (0<=node/\node<n)))/\w=w':=λr w' h=>by rw[Y.out];exact h
  refine Calls.mono ?_ Z;clear Z Y;go_enter func271,ntmps271;go_wp2;go_ret;exact⟨rfl,rfl⟩
section
attribute[local go_sem] Oper.semAt_some
attribute[local simp] Ak Al
attribute[local go_sem] Ak Al
def OX(x:Int):Array Value:=#[int i64 x]
theorem ain(t:TV)(a:Option Addr)(n c:Nat)(z:Int)(w:World) :Calls ZP 93 #[.agg t.cells,.slice a n c,.int .i64 z] w λe w'=>e=.returned (.func (.func 137) #[] #[.pointer (some ⟨w.heap.size+1+1,0,none⟩),.pointer (some ⟨w.heap.size+1,0,none⟩),.pointer (some ⟨w.heap.size,0,none⟩)])/\
   w'=((w.alloc (.cells t.cells 150)).alloc (.cells #[slice a n c] 30)).alloc (.cells #[int i64 z] 3):=by
 obtain⟨ua,un,uc,da,dn,dc,xa,xn,xc,ba,bn,bc⟩:=t;go_enter func93,ntmps93;go_wp2;go_ret;exact⟨rfl,rfl⟩
def Mg(ws:La)(l:List Nat):List Int:=l.map λn=>((AG ws).wrd[n]?).getD 0
theorem aez(ws:La)(Z p2 C q n y o0 xc qc:Nat)(z0:Nat)(s0 s1 s3:Value)(S:Nat->Prop)(m:Nat)(w:World)
  (hg:w.heap[C]?=some (.cells #[s0,s1,slice (some ⟨y,o0,none⟩) n xc,s3] 150 (0,0))) (hq:AU q (Bk ws) w) (hN:(AB ws).length=n) (hn:n<=1000000)
  (hW:∀(i:Nat)(v:Int),(AG ws).wrd[i]?=some v->w.cell? ⟨y,o0+i,none⟩=some (int i64 v))
  (h1:Boxed w p2 30 (slice (some ⟨q,0,none⟩) n qc)) (h2:Boxed w Z 3 (int i64 (z0:Int)))
  (hS:S C/\S q/\S Z/\S p2/\S y) (ab:∀k,S k->k<w.heap.size) (hp:Z≠C/\Z≠q/\Z≠p2/\Z≠y) (ar:z0<n) :
  abI Fence.wide m ZP 137 #[pointer (some ⟨Z,0,none⟩),pointer (some ⟨p2,0,none⟩),pointer (some ⟨C,0,none⟩)] OX (Cc S) (λr=>r=Z) (λzs:List Int=>zs=CA ws z0) (λpre=>∃r,CA ws z0=pre++r) (z0+1) w:=by
 intro l J Jx W aa hJ av hY h0;obtain⟨aj,ai,ah,ag,af⟩:=hS;obtain⟨n3,nq,n2,n0⟩:=hp;have cells:∀v:World,(∀k,S k->k≠Z->v.heap[k]?=w.heap[k]?)->v.cell? ⟨p2,0,none⟩=some (.slice (some ⟨q,0,none⟩) n qc)/\v.cell? ⟨C,2,none⟩=some (.slice (some ⟨y,o0,none⟩) n xc)/\
   (∀(j:Nat)(x:Int),(Bk ws)[j]?=some x->v.cell? ⟨q,j,none⟩=some (int i64 x))/\(∀(j:Nat)(x:Int),(AG ws).wrd[j]?=some x->v.cell? ⟨y,o0+j,none⟩=some (int i64 x)):=by
  intro v N;have e1:v.heap[p2]?=some (.cells #[slice (some ⟨q,0,none⟩) n qc] 30 (0,0)):=(N p2 ag (Ne.symm n2)).trans h1;have e2:v.heap[C]?=_:=(N C aj (Ne.symm n3)).trans hg;have e3:v.heap[q]?=some (.cells ((Bk ws).map (int i64)).toArray 3 (0,0)):=(N q ai (Ne.symm nq)).trans hq;refine⟨by simp[cell?,e1],by simp[cell?,e2],λj x hx=>?_,λj x hx=>?_⟩
  ·rw[cell_of_row v q j _ _ _ e3];simp[hx]
  ·rw[<-hW j x hx];exact BC (N y af (Ne.symm n0))
 have HC:=AA cells;have a8:∀k,S k->k≠Z->W.heap[k]?=w.heap[k]?:=λk hk _=>aa.block k (ab k hk);have al:Boxed W Z 3 (int i64 (z0:Int)):=(aa.block Z h2.lt).trans h2;have D:=AA hN;have am:=AA ah;clear hg hq h1 h2 cells hW hN ab;refine callsIn_of_wp func137 rfl trivial ?_ rfl;simp only[ntmps137,Cw,Ao,Bw,Nat.reduceAdd,Nat.reduceSub,Dd,Dc,DX,Da,Av,CT]
 gi_wp2
 gi_loopw[5] (λs5 wr=>∃(z f:Nat)(pre:List Int),z<=f/\z<=z0/\Hid (CA ws z0=pre++Mg ws (Ed (Bk ws) (AG ws).wrd f z))/\Hid (pre.length+f<=z0)/\Boxed wr Z 3 (int i64 (z:Int))/\J pre wr/\Hid (∀k,S k->k≠Z->wr.heap[k]?=w.heap[k]?)) (λ_ wr=>Ic Z wr)
 case atStart=>exact⟨z0,z0,[],AC _,AC _,rfl,by simp[Hid],al,h0,a8⟩
 case round=>
  clear a8;obtain⟨z,f,pre,aq,ap,HP,h,U,hj,HK⟩:=hrel;have cz:=U.cell;have ad:=AA (Lm U)
  by_cases hz:z=0
  ·subst hz;have HF:Hid (pre=CA ws z0):=by rw[Hid,HP.out,JZ];simp[Mg]
   gi_wp2
   go_end0
   exact⟨⟨_,rfl⟩,.inl ⟨pre,HF.out,hj⟩⟩
  ·obtain⟨f,rfl⟩:∃f',f=f'+1:=⟨f-1,by omega⟩;obtain⟨c1,c2,c3,c4⟩:=HC.out wr HK.out;obtain⟨v,N⟩:∃v,(AG ws).wrd[z]?=some v:=⟨(AG ws).wrd[z]'(by rw[(Jt ws).1,D.out];omega),by simp⟩;have H:=ID (ws:=ws) (z:=z) (by rw[D.out];omega);have B:=NW (ws:=ws) (z:=z) om (by rw[D.out];omega);have Y:=HP.out;rw[aaK,Lb hz,N,CG]at Y;rw[H,CG,Aa]at Y B;have cw:=c4 z v N;have cn:=c3 z _ H;have au:((z:Int) != 0)=true:=by simp;omega
   have i1:(0:Int)<=(z:Int):=by omega
   have i2:(z:Int)<(n:Int):=by omega
   have fz:=U.frozen;have ak:=U.lt
   by_cases I:0<=v
   ·have dv:decide ((0:Int)<=v)=true:=by simpa using I
    rw[Lc I]at Y;have HF:Hid (CA ws z0=(pre++[v])++Mg ws (Ed (Bk ws) (AG ws).wrd f (nx ws z))):=by rw[Hid,Y];simp[Mg,N]
    have a7:pre.length<z0+1:=by have:=h.out;omega
    obtain⟨fn,tmps,assign,body,a6,ac⟩:=hY pre v wr hj a7;dsimp only[OX]at a6;clear Y N H
    gi_wp2
    refine ac.mono ?_;rintro e W4 (⟨rfl,hJ4,hk4⟩|⟨rfl,hJx4⟩)
    ·have V:Boxed W4 Z 3 (int i64 (z:Int)):=(hk4 Z am.out).trans U;have ae:Hid (∀k,S k->k≠Z->W4.heap[k]?=w.heap[k]?):=λk h1 h2=>(hk4 k h1).trans (HK.out k h1 h2);obtain⟨d1,d2,d3,d4⟩:=HC.out W4 ae.out;have ay:W4.cell? ⟨q,z,none⟩=some (int i64 (nx ws z:Int)):=d3 z _ (ID (by rw[D.out];omega));have ax:=V.cell;have aw:=V.frozen;have ao:=V.lt;have A:=adx hJ hJ4 (p:=Z) rfl 0 (int i64 (nx ws z:Int));have X:=V.set (int i64 (nx ws z:Int));have s:=AA (Lm X);have a2:Hid (∀j,S j->j≠Z->(W4.setCell ⟨Z,0,none⟩ (int i64 (nx ws z:Int))).heap[j]?=w.heap[j]?):=λj h1 h2=>(AQ _ _ _ _ (by show j≠Z;exact h2)).trans (ae.out j h1 h2);have a1:Hid ((pre++[v]).length+f<=z0):=by have:=h.out;rw[Hid,List.length_append,OK];omega
     clear c1 c2 c3 c4 cw cn d3 d4 ac a6 cz fz ak hJ4
     gi_wp2
     go_roundw
     case rel=>exact⟨nx ws z,f,_,by omega,by omega,HF,a1,X,A,a2⟩
     case measure=>rw[ad.out,s.out];exact B
    ·have HG:Hid (∃r,CA ws z0=(pre++[v])++r):=⟨_,HF.out⟩
     gi_wp2
     refine Vf (results_none rfl _ _ _) rfl ?_;exact⟨⟨_,rfl⟩,.inr ⟨_,HG.out,hJx4⟩⟩
   ·have dv:decide ((0:Int)<=v)=false:=by simpa using I
    rw[Lb I,Av]at Y;have HF:=AA Y;have A:=adx hJ hj (p:=Z) rfl 0 (int i64 (nx ws z:Int));have X:=U.set (int i64 (nx ws z:Int));have s:=AA (Lm X);have a2:Hid (∀j,S j->j≠Z->(wr.setCell ⟨Z,0,none⟩ (int i64 (nx ws z:Int))).heap[j]?=w.heap[j]?):=λj h1 h2=>(AQ _ _ _ _ (by show j≠Z;exact h2)).trans (HK.out j h1 h2);have a1:Hid (pre.length+f<=z0):=by have:=h.out;rw[Hid];omega
    clear Y N H c3 c4
    gi_wp2
    go_roundw
    case rel=>exact⟨nx ws z,f,pre,by omega,by omega,HF,a1,X,A,a2⟩
    case measure=>rw[ad.out,s.out];exact B
end
theorem aev(fold:Bool)(a:Option Addr)(Z H:Nat)(wss:La)(w:World)(N:Wds w a Z wss)(B:Z<=1000000) :Calls ZP 91 #[.agg (AM fold a Z H)] w λe w'=>e=.returned (int i64 (Au wss))/\Bt w w':=by
 have Y:Bt w (w.alloc (.cells (AM fold a Z H) 24)):=(AH _ _).alloc (AC _) _;have U:=N.below Y;have y:=AA N.len;clear N;go_enter func91,ntmps91;go_wp2
 go_loop[3,9] (λs i=>∃(k:Nat)(n:Int),k<=Z/\i=int i64 k/\s=int i64 n/\Hid (n=Au (wss.take k))) (λ_ i=>Z-(intOf i).toNat)
 case atStart=>exact⟨0,0,AR _,rfl,rfl,by simp[Hid,Au]⟩
 case round=>
  obtain⟨k,n,hk,rfl,rfl,D⟩:=hrel
  by_cases X:k<Z
  ·obtain⟨bb,off,a',l,c,x,rfl,A,V,J,I,C⟩:=U.at_ X;have z:Hid (max n (l:Int)=Au (wss.take (k+1))):=by rw[Hid,As J,acO,I.len,D.out]
   clear J I;go_wp2
   go_round
   case rel=>exact⟨k+1,_,by omega,by go_num,rfl,z⟩
   case measure=>simp[intOf];omega
  ·obtain rfl:k=Z:=by omega
   have j:Hid (n=Au wss):=by
    have h:=D.out
    rwa[Ap (by have:=y.out;omega)]at h
   go_wp2;go_ret;exact⟨by rw[<-j.out];rfl,Y⟩
theorem aeD{fn:Func}{p:Tmp}{tmps:Array Value}{W:World}{B:Nat}{x y:Value}(h:fn.results=#[.cell p 24])(Y:tmps.getD p undef=pointer (some ⟨B,0,none⟩))(hB:W.heap[B]?=some (.cells #[x,y] 24 (0,0))) :(results fn tmps).run ZP W=.ok (.agg #[x,y]) W:=by
 have X:(loadVar 24 ⟨B,0,none⟩).run ZP W=.ok (.agg #[x,y]) W:=run_loadVar_row W B 24 24 #[x,y] (0,0) _ hB underlying24 rfl kr;have Z:tmps[p]?.getD undef=.pointer (some ⟨B,0,none⟩):=by simpa using Y
 simp[results,h,Z,asAddr,X,Result.andThen]
theorem alD(fold:Bool)(a:Option Addr)(U ca:Nat)(wss:La)(w:World)(hA:Wds w a U wss)(aD:U<=1000000)(hM:∀x∈wss,x.length<=1000000) :Calls ZP 90 #[.agg (AM fold a U ca)] w λe w'=>∃v,e=.returned (.agg #[bool fold,v])/\BI w' w.heap.size v wss/\Bt w w':=by
  obtain⟨W,hW⟩:∃W,W=(w.alloc (.cells (AM fold a U ca) 24)).alloc (.cells (AM false none 0 0) 24):=⟨_,rfl⟩;have hB:Bt w W:=by rw[hW];exact((AH _ _).alloc (AC _) _).alloc sm _
  have hO:Bx w.heap.size [.cells (AM fold a U ca) 24,.cells (AM false none 0 0) 24] W:=by rw[hW];exact((Bx.nil _ w).snoc _ rfl).snoc _ sm
  have s0:W.cell? ⟨w.heap.size,0,none⟩=some (bool fold):=hO.cell (i:=0) rfl rfl;have s1:W.cell? ⟨w.heap.size,1,none⟩=some (slice a U ca):=hO.cell (i:=0) rfl rfl;have hz:W.heap[w.heap.size+1]?=some (.cells (AM false none 0 0) 24 (0,0)):=hO 1 _ rfl;have a6:W.heap.size=w.heap.size+1+1:=by rw[hW];simp
  have HL:=AA hA.len;have HA:=AA hA;have a8:w.heap.size<W.heap.size:=by omega
  clear hO hA;go_enter func90,ntmps90;go_upto_region 1 with fail
  rw[<-hW];clear hW;go_upto_region 2 with fail
  have s2:(W.alloc (.cells #[bool fold,slice none 0 0] 24)).cell? ⟨w.heap.size,1,none⟩=some (slice a U ca):=by rw[OH _ _ _ a8];exact s1
  have aa:Bt w (W.alloc (.cells #[bool fold,slice none 0 0] 24)):=hB.alloc hB.size _;have a7:(W.alloc (.cells #[bool fold,slice none 0 0] 24)).heap[w.heap.size+1+1]?=some (.cells #[bool fold,slice none 0 0] 24 (0,0)):=by rw[<-a6];exact AT _ _
  have a2:(W.alloc (.cells #[bool fold,slice none 0 0] 24)).heap[w.heap.size+1]?=some (.cells (AM false none 0 0) 24 (0,0)):=(Bg _ _ _ om).trans hz;clear s0 s1 a6;go_wp2
  go_loopw[12] (λi wr=>∃(k:Nat)(v:Value),k<=U/\i=int i64 k/\Bt w wr/\wr.heap[w.heap.size+1]?=some (.cells (AM false none 0 0) 24 (0,0))/\wr.heap[w.heap.size+1+1]?=some (.cells #[bool fold,v] 24 (0,0))/\BI wr w.heap.size v (wss.take k)) (λi _=>U-(intOf i).toNat)
  case atStart=>exact⟨0,slice none 0 0,AR _,rfl,aa,a2,a7,by simpa using BI.nil _ _⟩
  case round=>
    clear s2 aa a2 a7;obtain⟨k,v,hk,rfl,D,Z,N,X⟩:=hrel
    by_cases ai:k<U
    ·
      obtain⟨bb,off,a',l,c,x,rfl,aF,ar,hx,hX,aC⟩:=(HA.out.below D).at_ ai;have ae:l<=1000000:=by have:=Ff hM hx;rw[hX.len]at this;exact this
      obtain⟨H,I,rfl,aq,hW⟩:=X.wds;have ah:(wss.take k).length<=1000000:=by have:=MU k wss;omega
      have HX:=AA hx;have i1:(0:Int)<=(k:Int):=by omega
      have i2:(k:Int)<(U:Int):=by omega
      have ap:decide ((k:Int)<(U:Int))=true:=by simp;omega
      clear hx;obtain⟨i0,hi,am,al,ak⟩:=Ve OT;have s1:wr.cell? ⟨w.heap.size+1+1,1,none⟩=some (slice H (wss.take k).length I):=by simp[cell?,N]
      obtain⟨es,e1,e2,e3⟩:=X;have ax:∀n,Bys (wr.drewN n) a' l x:=λn=>hX.below ⟨rfl,rfl,rfl,AC _,λ_ _=>rfl⟩;have hd:∀n,Bt wr (wr.drewN n):=λn=>⟨rfl,rfl,rfl,AC _,λ_ _=>rfl⟩;obtain⟨m,hm⟩:∃m,(wss.take k).length=m:=⟨_,rfl⟩;rw[hm]at s1 N e1 e2 ah;have a1:=AA hm;clear hm hW;go_wp2;have aw:Bys wr.drew a' l x:=ax 1;have ao:Bt wr wr.drew:=hd 1
      go_region_law (first
        | (go_simp;go_at_call 134;refine (agG false a' l c x wr.drew aw ae).mono ?_;rintro e A ⟨a3,c3,rfl,s,au⟩
           have C:Bt wr A:=ao.trans au;have B:=DJ e1 C;have J:A.heap[w.heap.size+1+1]?=some (.cells #[bool fold,slice H m I] 24 (0,0)):=(C.block _ (AD.1 N).1).trans N;have ab:A.cell? ⟨w.heap.size+1+1,1,none⟩=some (slice H m I):=by simp[cell?,J]
           have aj:w.heap.size+1+1<A.heap.size:=(AD.1 J).1;have aA:w.heap.size+1+1≠A.heap.size:=by omega
           have az:A.heap.size≠w.heap.size+1+1:=by omega
           have aB:(A.alloc (.cells #[slice a3 l c3] 32)).cell? ⟨w.heap.size+1+1,1,none⟩=some (slice H m I):=by rw[OH _ _ _ aj];exact ab
           have ag:=Gz B J (Lj kr);have V:Bt w A:=D.trans (C.mono D.size);dsimp only)
        | (refine step_append_lies _ (by rfl) _ _ 22 (by rfl) w.heap.size 32 i0 (.slice none 0 0) 1 24 underlying22 hi am al ak rfl (by decide) (.slice H m I) m es (by rfl) (B.alloc _) ⟨A.heap.size,0,none⟩ 1 1 [.slice a3 l c3] (by rfl) rfl (cell_one_new _ _ _) (by simp [Value.oneCell']) (by decide) (by unfold maxLen;omega) om (by have:=V.size;simp;omega) _ rfl ?_
           intro g5 c5 y h Y aG aE;have z:y.heap[w.heap.size+1+1]?=some (.cells #[bool fold,slice H m I] 24 (0,0)):=(Y.block _ (by simp;have:=(AD.1 J).1;omega) (Ne.symm ag)).trans ((Bg _ _ _ (AD.1 J).1).trans J);have q0:y.cell? ⟨w.heap.size+1+1,1,none⟩=some (slice H m I):=by simp[cell?,z]
           have q1:y.frozen? ⟨w.heap.size+1+1,1,none⟩=false:=by simp[frozen?,z]))
      all_goals
        go_wp2;have ay:Bt w y:=(V.alloc (by have:=V.size;omega) _).grown Y (by simp;have:=V.size;omega) (λj hj=>(B.lt j hj).1);have ac:y.heap[w.heap.size+1]?=some (.cells (AM false none 0 0) 24 (0,0)):=by have h3:A.heap[w.heap.size+1]?=_:=(C.block _ (AD.1 Z).1).trans Z;exact(Y.block _ (by simp;have:=(AD.1 h3).1;omega) (Ne.symm (Gz B h3 (Lj kr)))).trans ((Bg _ _ _ (AD.1 h3).1).trans h3)
        go_roundw
        case rel=>
          refine⟨k+1,_,by omega,by go_num,ay.setCell (by show w.heap.size<=w.heap.size+1+1;omega) _,(AQ y ⟨w.heap.size+1+1,1,none⟩ _ _ sm).trans ac,by simpa using AJ (i:=1) z (.slice (some ⟨g5,0,none⟩) (m+1) c5),?_⟩;rw [As HX.out];have af:=BI.step (wss:=wss.take k) (xs:=x) (e:=.slice a3 l c3) (es:=es) (v:=.slice H m I) (by rw [a1.out];exact B.alloc _) (by rw [a1.out];exact e2)
            (λi e xs he hx=>⟨DJ (DJ (e3 i e xs he hx).1 C) ((AH _ _).alloc (AC _) _),(e3 i e xs he hx).2⟩) (by rw[hX.len];exact(abR (s.alloc _) (by have:=D.size;simpa using this))) hX.2 (by rw[a1.out];exact h) Y
          exact af.turned (BH y (w.heap.size+1+1) 1 _) z (Lj kr) (Lj kr)
        case measure=>simp[intOf];omega
    ·
      obtain rfl:k=U:=by omega
      have HF:Hid (wss.take k=wss):=Ap (by have:=HL.out;omega);have ap:decide ((k:Int)<(k:Int))=false:=by simp
      have s0:wr.cell? ⟨w.heap.size+1+1,0,none⟩=some (bool fold):=by simp[cell?,N]
      rw[HF.out]at X;obtain⟨H,I,rfl,aq,hW⟩:=X.wds;have s1:wr.cell? ⟨w.heap.size+1+1,1,none⟩=some (slice H wss.length I):=by simp[cell?,N]
      have z0:wr.cell? ⟨w.heap.size+1,0,none⟩=some (bool false):=by simp[cell?,Z]
      have z1:wr.cell? ⟨w.heap.size+1,1,none⟩=some (slice none 0 0):=by simp[cell?,Z]
      have y0:wr.frozen? ⟨w.heap.size+1,0,none⟩=false:=by simp[frozen?,Z]
      have y1:wr.frozen? ⟨w.heap.size+1,1,none⟩=false:=by simp[frozen?,Z]
      go_wp2;have ad:=AJ (i:=1) (AJ (i:=0) Z (bool fold)) (slice H wss.length I);refine Vf (aeD rfl rfl (by simpa using ad)) rfl ?_;refine⟨_,rfl,?_,(D.setCell sm _).setCell sm _⟩;have ho:=(X.turned (BH wr (w.heap.size+1) 0 (bool fold)) Z (Lj kr) (Lj kr)).turned (BH _ (w.heap.size+1) 1 (slice H wss.length I)) (AJ (i:=0) Z (bool fold)) (Lj kr) (Lj kr);exact ho
def tbC(L:List Int)(m n:Int)(row:Value):List Value:=L.map (int i64)++[int i64 m,int i64 n,row]
theorem amL(L:List Int)(m n:Int)(row:Value)(fold:Bool)(Z:Value)(lo Y:Int)(wd:Value):mcC L m n row fold Z lo Y wd=tbC L m n row++[bool fold,Z,int i64 lo,int i64 Y,wd]:=by simp[mcC,tbC]
theorem ao5:(ZP.info? 157).map (λi=>i.zero.map Value.cells)=some (some (tbC (List.replicate 256 0) 0 0 (slice none 0 0)).toArray):=by kernel_rfl
theorem an9:(ZP.info? 162).map (λi=>i.zero.map Value.cells)=some (some (mcC (List.replicate 256 0) 0 0 (slice none 0 0) false (slice none 0 0) 0 0 (slice none 0 0)).toArray):=by kernel_rfl
theorem ajC:(match ZP.underlying 157 with|some (.struct fields)=>fields.toList.mapM (λf=>(ZP.info? f.type).map λi=>(f.offset,i.size))|_=>none)=some [(0,256),(256,1),(257,1),(258,1)]:=by kernel_rfl
theorem ajq:(match ZP.underlying 162 with|some (.struct fields)=>fields.toList.mapM (λf=>(ZP.info? f.type).map λi=>(f.offset,i.size))|_=>none)=some [(0,259),(259,2),(261,1),(262,1),(263,1)]:=by kernel_rfl
theorem ajU{L:List Int}(Z:L.length=256)(m n:Int)(row:Value):(tbC L m n row).length=259:=by simp[tbC,Z]
theorem adQ(L:List Int)(m k:Int)(a:Option Addr)(n c:Nat)(N:L.length=256) :ZP.built 157 [(0,.agg (L.map (int i64)).toArray),(1,int i64 m),(2,int i64 k),(3,slice a n c)]=some (tbC L m k (slice a n c)).toArray:=by
 obtain⟨X,U,Z⟩:∃X:List Int,X.length=256/\(ZP.info? 157).map (λi=>i.zero.map Value.cells)=some (some (tbC X 0 0 (slice none 0 0)).toArray):=⟨_,by rw[CS],ao5⟩;have Y:=ajC;unfold Program.built
 cases H:ZP.info? 157 with
 |none=>rw[H]at Z;cases Z
 |some it=>
  rw[H]at Z;simp only[Dw,DC]at Z
  cases I:ZP.underlying 157 with
  |none=>rw[I]at Y;cases Y
  |some d=>
   rw[I]at Y
   cases d<;>try (cases Y;done)
   rename_i J
   simp only at Y⊢
   cases V:it.zero with
   |none=>rw[V]at Z;cases Z
   |some z=>
    rw[V]at Z;simp only[Dw,DC]at Z;simp only[Y,Z];have s:(tbC X 0 0 (slice none 0 0)).toArray=([]++(X.map (int i64))++[int i64 0,int i64 0,slice none 0 0]).toArray:=by simp[tbC]
    have x:[]++L.map (int i64)++[int i64 0,int i64 0,slice none 0 0]=L.map (int i64)++[int i64 0]++[int i64 0,slice none 0 0]:=by simp
    have y:L.map (int i64)++[int i64 m]++[int i64 0,slice none 0 0]=(L.map (int i64)++[int i64 m])++[int i64 0]++[slice none 0 0]:=by simp
    have A:(L.map (int i64)++[int i64 m])++[int i64 k]++[slice none 0 0]=(L.map (int i64)++[int i64 m,int i64 k])++[slice none 0 0]++[]:=by simp
    have B:([(0,256),(256,1),(257,1),(258,1)]:List (Nat×Nat)).toArray[0]?=some (([]:List Value).length,(X.map (int i64)).length):=by rw[BP,U];rfl
    have C:([(0,256),(256,1),(257,1),(258,1)]:List (Nat×Nat)).toArray[1]?=some ((L.map (int i64)).length,([int i64 0]:List Value).length):=by rw[BP,N];rfl
    have p2:([(0,256),(256,1),(257,1),(258,1)]:List (Nat×Nat)).toArray[2]?=some ((L.map (int i64)++[int i64 m]).length,([int i64 0]:List Value).length):=by rw[List.length_append,BP,N];rfl
    have D:([(0,256),(256,1),(257,1),(258,1)]:List (Nat×Nat)).toArray[3]?=some ((L.map (int i64)++[int i64 m,int i64 k]).length,([slice none 0 0]:List Value).length):=by rw[List.length_append,BP,N];rfl
    rw[s,Ig _ _ _ _ (L.map (int i64)) 0 _ _ rfl (by rw[BP,BP,N,U]) B];rw[x,Ig _ _ [int i64 0] _ [int i64 m] 1 (int i64 m) _ rfl rfl C];rw[y,Ig _ _ [int i64 0] _ [int i64 k] 2 (int i64 k) _ rfl rfl p2];rw[A,Ig _ _ [slice none 0 0] [] [slice a n c] 3 (slice a n c) _ rfl rfl D];simp[Instr.fill,tbC]
theorem aad(T:List Value)(fold:Bool)(a:Option Addr)(n c:Nat)(lo N:Int)(J:T.length=259) :ZP.built 162 [(0,.agg T.toArray),(1,.agg #[bool fold,slice a n c]),(2,int i64 lo),(3,int i64 N)]=some (T++[bool fold,slice a n c,int i64 lo,int i64 N,slice none 0 0]).toArray:=by
 obtain⟨X,U,Z⟩:∃X:List Value,X.length=259/\(ZP.info? 162).map (λi=>i.zero.map Value.cells)=some (some (X++[bool false,slice none 0 0,int i64 0,int i64 0,slice none 0 0]).toArray):=
  ⟨tbC (List.replicate 256 0) 0 0 (slice none 0 0),ajU (by rw[CS]) _ _ _,by rw[an9,amL]⟩
 have Y:=ajq;unfold Program.built
 cases D:ZP.info? 162 with
 |none=>rw[D]at Z;cases Z
 |some it=>
  rw[D]at Z;simp only[Dw,DC]at Z
  cases H:ZP.underlying 162 with
  |none=>rw[H]at Y;cases Y
  |some d=>
   rw[H]at Y
   cases d<;>try (cases Y;done)
   rename_i I
   simp only at Y⊢
   cases V:it.zero with
   |none=>rw[V]at Z;cases Z
   |some z=>
    rw[V]at Z;simp only[Dw,DC]at Z;simp only[Y,Z];have j:(X++[bool false,slice none 0 0,int i64 0,int i64 0,slice none 0 0]).toArray=([]++X++[bool false,slice none 0 0,int i64 0,int i64 0,slice none 0 0]).toArray:=by simp
    have s:[]++T++[bool false,slice none 0 0,int i64 0,int i64 0,slice none 0 0]=T++[bool false,slice none 0 0]++[int i64 0,int i64 0,slice none 0 0]:=by simp
    have x:T++[bool fold,slice a n c]++[int i64 0,int i64 0,slice none 0 0]=(T++[bool fold,slice a n c])++[int i64 0]++[int i64 0,slice none 0 0]:=by simp
    have y:(T++[bool fold,slice a n c])++[int i64 lo]++[int i64 0,slice none 0 0]=(T++[bool fold,slice a n c,int i64 lo])++[int i64 0]++[slice none 0 0]:=by simp
    have A:([(0,259),(259,2),(261,1),(262,1),(263,1)]:List (Nat×Nat)).toArray[0]?=some (([]:List Value).length,X.length):=by rw[U];rfl
    have B:([(0,259),(259,2),(261,1),(262,1),(263,1)]:List (Nat×Nat)).toArray[1]?=some (T.length,([bool false,slice none 0 0]:List Value).length):=by rw[J];rfl
    have p2:([(0,259),(259,2),(261,1),(262,1),(263,1)]:List (Nat×Nat)).toArray[2]?=some ((T++[bool fold,slice a n c]).length,([int i64 0]:List Value).length):=by rw[List.length_append,J];rfl
    have C:([(0,259),(259,2),(261,1),(262,1),(263,1)]:List (Nat×Nat)).toArray[3]?=some ((T++[bool fold,slice a n c,int i64 lo]).length,([int i64 0]:List Value).length):=by rw[List.length_append,J];rfl
    rw[j,Ig _ _ _ _ T 0 _ _ rfl (by rw[J,U]) A];rw[s,Ig _ _ [bool false,slice none 0 0] _ [bool fold,slice a n c] 1 (Value.agg #[bool fold,slice a n c]) _ rfl rfl B];rw[x,Ig _ _ [int i64 0] _ [int i64 lo] 2 (int i64 lo) _ rfl rfl p2];rw[y,Ig _ _ [int i64 0] _ [int i64 N] 3 (int i64 N) _ rfl rfl C];simp[Instr.fill]
theorem LL(ws:La)(z:Nat):(CA ws z).length<=z:=by unfold CA;rw[BP];exact abd _ _ _ _
section
attribute[local go_sem] Oper.semAt_some
attribute[local simp] Ak Al
attribute[local go_sem] Ak Al
def Jb(ws:La)(z:Nat):Nat:=(Fh ws z).length
theorem aht(ws:La)(g q ab s o0 n xc z:Nat)(s0 s1 s3:Value)(w:World)
  (hg:w.heap[g]?=some (.cells #[s0,s1,slice (some ⟨s,o0,none⟩) n xc,s3,slice (some ⟨q,0,none⟩) n n] 238 (0,0))) (hq:AU q (Bk ws) w) (hN:(AB ws).length=n) (hn:n<=1000)
  (hW:∀(i:Nat)(v:Int),(AG ws).wrd[i]?=some v->w.cell? ⟨s,o0+i,none⟩=some (int i64 v)) (ac:s<w.heap.size)
  (ha:Boxed w ab 234 (pointer (some ⟨g,0,none⟩))) (hz:z<n) :
  Calls ZP 135 #[int i64 (z:Int),pointer (some ⟨ab,0,none⟩)] w λe w'=>e=.returned (int i64 (Jb ws z:Int))/\Bt w w':=by
 have aa:g<w.heap.size:=(AD.1 hg).1;have a7:q<w.heap.size:=(AD.1 (show w.heap[q]?=_ from hq)).1;obtain⟨Y,U⟩:∃W,W=w.alloc (.cells #[int i64 0] 3):=⟨_,rfl⟩;have I:Bt w Y:=by rw[U];exact AL _ _
 have bC:Boxed Y w.heap.size 3 (int i64 0):=by rw[U];exact Boxed.new _ _ _
 have a6:Y.heap.size=w.heap.size+1:=by rw[U];simp
 have a2:Boxed Y ab 234 (pointer (some ⟨g,0,none⟩)):=(I.block ab ha.lt).trans ha;have ca:=a2.cell;refine Hc func135 rfl ?_;simp only[ntmps135,Cw,Ao,Bw,Nat.reduceAdd,Nat.reduceSub,Dd,Dc,DX,Da,Av,CT];go_upto_region 2 with fail
 rw[<-U];clear U
 go_wp2_with (go_at_call 136;refine(ak9 g z Y).mono ?_;rintro e w' ⟨rfl,rfl⟩)
 obtain⟨Z,V⟩:∃W,W=(Y.alloc (.cells #[pointer (some ⟨g,0,none⟩)] 234)).alloc (.cells #[int i64 (z:Int)] 3):=⟨_,rfl⟩;have N:Bt Y Z:=by rw[V];exact(AL _ _).alloc sm _
 have A:Boxed Z Y.heap.size 234 (pointer (some ⟨g,0,none⟩)):=by rw[V];exact(Boxed.new Y 234 _).alloc _
 have C:Boxed Z (Y.heap.size+1) 3 (int i64 (z:Int)):=by
  rw[V];have:=Boxed.new (Y.alloc (.cells #[pointer (some ⟨g,0,none⟩)] 234)) 3 (int i64 (z:Int))
  rwa[DN]at this
 rw[<-V];clear V;have ae:Boxed Z w.heap.size 3 (int i64 0):=(N.block _ bC.lt).trans bC;have H:Bt w Z:=I.trans (N.mono I.size);have e1:Z.heap[g]?=_:=(H.block g aa).trans hg;have e2:AU q (Bk ws) Z:=(H.block q a7).trans hq;have j:∀(i:Nat)(v:Int),(AG ws).wrd[i]?=some v->Z.cell? ⟨s,o0+i,none⟩=some (int i64 v):=λi v X=>(H.cell (p:=⟨s,o0+i,none⟩) ac).trans (hW i v X);have a1:=C.lt;rw[a6]at A C a1;have a8:=ahI ws g (w.heap.size+1) (w.heap.size+1+1) q n s o0 xc z _ _ _ (λk=>k<Z.heap.size/\k≠w.heap.size) 8 Z e1 e2 hN om j A C ⟨⟨by omega,by omega⟩,⟨by omega,by omega⟩,⟨by omega,by omega⟩,⟨by omega,by omega⟩,⟨by omega,by omega⟩⟩ (λk hk=>hk.1) hz;clear hg hq hW ha a2 ca e1 e2 A C j hN bC I N
 apply KI rfl (enters_of func188 kr rfl) a8 GD (JR λk hk=>hk.1) (λ_=>rfl)
  (λJ W=>Boxed W w.heap.size 3 (int i64 ((J.length:Nat):Int))/\Bt w W/\Z.heap.size<=W.heap.size)
  (λ_ _ _=>False)
 case hI=>exact OwnFrom.and (Own.from (boxed_own _ _ _) _) (OwnFrom.and (ownFrom_below (AC _) om) (Li _ _))
 case hIx=>exact λ_ _ _ _ _ hs _ _=>hs
 case h0=>exact⟨by simpa using ae,H,AC _⟩
 case hassign=>
  intro l x W K hK;unfold anB
  gi_wp2
  exact hK
 case hbody=>
  rintro l J ⟨y,hy⟩ W ⟨X,B,hs⟩ af;dsimp only;obtain⟨m,hm⟩:∃m,J.length=m:=⟨_,rfl⟩;have HM:Hid ((J++[(⟨y,hy⟩:NdP n)]).length=m+1):=by rw[Hid,List.length_append,hm];rfl
  have ah:m<=1000000:=by omega
  rw[hm]at X;have c2:=X.cell;have c4:=X.frozen;have ai:=X.lt;clear hm
  gi_wp2
  refine⟨(Jp W ⟨w.heap.size,0,none⟩ (int i64 ((m:Int)+1))).from _,λk hk=>AQ _ _ _ _ hk.2,?_,B.setCell (AC _) _,by show Z.heap.size<=(W.setCell _ _).heap.size;rw[World.size_setCell];omega⟩;rw[HM.out];exact X.set (int i64 ((m:Int)+1))
 case hdone=>
  rintro D zs W hD hS ⟨X,B,hs⟩ ad;have HZ:Hid (((zs.length:Nat):Int)=(Jb ws z:Int)):=by unfold Hid Jb;rw[<-hS,BP]
  rw[HZ.out]at X;have ag:Boxed (W.putObj D (.deferred none)) w.heap.size 3 (int i64 (Jb ws z:Int)):=(Cm om).trans X;have c2:=X.cell;go_wp2;exact Gg rfl ad (results_tmp rfl _ _ _) ⟨rfl,FZ B om (AC _) _⟩
 case hstop=>exact λ_ _ _ _ _ _ h _=>h.elim
end
def Dm(ws:La):Nat->Nat
 |0=>0
 |i+1=>max (Dm ws i) (Jb ws i)
theorem akF(t:TV)(T:Ay)(sp ws:La)(w:World)(hT:Tri w t T)(hb:t.un<=140737488351232)(hr:CI T=some (sp,ws)) :Calls ZP 92 #[.agg t.cells] w λe w'=>e=.returned (int i64 ((Dm ws (AB ws).length:Nat):Int))/\Bt w w':=by
 obtain⟨ua,un,uc,da,dn,dc,xa,xn,xc,ba,bn,bc⟩:=t;obtain⟨W,hW⟩:∃W,W=w.alloc (.cells #[slice ua un uc,slice da dn dc,slice xa xn xc,slice ba bn bc] 150):=⟨_,rfl⟩;have hB:Bt w W:=by rw[hW];exact AL _ _
 have hQ:W.heap[w.heap.size]?=some (.cells #[slice ua un uc,slice da dn dc,slice xa xn xc,slice ba bn bc] 150 (0,0)):=by rw[hW];exact AT _ _
 have c0:W.cell? ⟨w.heap.size,0,none⟩=some (slice ua un uc):=by simp[cell?,hQ]
 have c1:W.cell? ⟨w.heap.size,1,none⟩=some (slice da dn dc):=by simp[cell?,hQ]
 have c2:W.cell? ⟨w.heap.size,2,none⟩=some (slice xa xn xc):=by simp[cell?,hQ]
 have c3:W.cell? ⟨w.heap.size,3,none⟩=some (slice ba bn bc):=by simp[cell?,hQ]
 have HC:=AA (ae2 _ T sp ws W (hT.below hB) hb hr);have HN:Hid ((AB ws).length<=400):=Hx hr;obtain⟨_,D,_⟩:=Fy.1 hr;have J:Hid (Sl1 (int i64) w xa xn (AG ws).wrd):=by rw[Hid,<-D];exact hT.wrd
 have y:(AG ws).dep.length=dn:=by rw[<-D];exact hT.dep.1
 have x:(AG ws).dep.length=(AB ws).length:=by simp[AG]
 rw[x]at y;subst y;clear hT hr D x;go_enter func92,ntmps92;go_upto_region 1 with fail
 rw[<-hW];clear hW
 go_wp2_with fail
 refine HC.out.mono ?_;rintro e H ⟨g,rfl,aa,a1⟩;have a7:=hB.trans (a1.mono hB.size);clear c0 c1 c2 c3 hQ hB a1;go_upto_region 5 with fail
 obtain⟨B,V⟩:∃W,W=H.alloc (.cells #[pointer (some ⟨g,0,none⟩)] 234):=⟨_,rfl⟩;have h:Bt H B:=by rw[V];exact AL _ _
 have N:Boxed B H.heap.size 234 (pointer (some ⟨g,0,none⟩)):=by rw[V];exact Boxed.new H 234 _
 rw[<-V];clear V;have U:=a7.trans (h.mono a7.size);have Y:=aa.below h;have ae:=N.lt;obtain⟨q,C,f2,f3,f4⟩:=Y.ex;have A:(AG ws).wrd.length=xn:=J.out.1;rw[(Jt ws).1]at A;subst A;have al:g<B.heap.size:=(AD.1 C).1;have c7:=N.cell;have c8:B.cell? ⟨g,4,none⟩=some (slice (some ⟨q,0,none⟩) (AB ws).length (AB ws).length):=by simp[cell?,C]
 have aj:=AA N;have ai:=AA Y;clear C f2 f3 f4 aa N Y;obtain⟨n,hn⟩:∃n,(AB ws).length=n:=⟨_,rfl⟩;have I:=AA hn;rw[hn]at HC HN J c8;clear HC hn;have ak:n<=400:=HN.out
 go_wp2_with fail
 go_loopw[6,21] (λs6 ab wr=>∃i:Nat,i<=n/\s6=int i64 ((Dm ws i:Nat):Int)/\ab=int i64 i/\Bt B wr) (λ_ s _=>n-(intOf s).toNat)
 case atStart=>exact⟨0,AR _,rfl,rfl,AH _ _⟩
 case round=>
  obtain⟨i,hi,rfl,rfl,Z⟩:=hrel
  by_cases z:i<n
  ·have hd:decide ((i:Int)<n)=true:=by simp;omega
   have a8:Boxed wr H.heap.size 234 (pointer (some ⟨g,0,none⟩)):=(Z.block _ ae).trans aj.out;have a2:=ai.out.below Z;obtain⟨q,C,f2,_⟩:=a2.ex;obtain⟨b0,o0,v0,ac,am,_,_⟩:=DG J.out z;subst ac;have a6:=U.trans (Z.mono U.size);rw[I.out]at C;have HT:=AA (aht ws g q H.heap.size b0 o0 n xc i _ _ _ wr C f2 I.out (by have:=HN.out;omega) (λj v hv=>by
      obtain⟨b2,o2,x2,e2,af,ah,X⟩:=DG J.out (k:=j) (by rw[<-I.out,<-(Jt ws).1];exact(AP.1 hv).1)
      injection e2 with e2
      injection e2 with e3 e4 e5
      subst e3 e4;rw[hv]at X
      injection X with X
      subst X;exact(a6.cell (p:=⟨b0,o0+j,none⟩) af).trans ah) (by have:=a6.size;omega) a8 z)
   have ad:max ((Dm ws i:Nat):Int) ((Jb ws i:Nat):Int)=((Dm ws (i+1):Nat):Int):=by show _=((max (Dm ws i) (Jb ws i):Nat):Int);omega
   clear a8 a2 C f2
   go_wp2_with fail
   refine HT.out.mono ?_;rintro e w3 ⟨rfl,ag⟩;go_wp2
   go_roundw
   case rel=>exact⟨i+1,by omega,by rw[<-ad],by go_num,Z.trans (ag.mono Z.size)⟩
   case measure=>simp[intOf];omega
  ·obtain rfl:i=n:=by omega
   have hd:decide ((i:Int)<i)=false:=by simp
   go_wp2;go_ret;refine⟨?_,U.trans (Z.mono U.size)⟩;rw[I.out]
   rfl
section
variable {P:Program}{md:Region.Mode}{ops:Array Oper}{Q:Exit->Act->World->Prop}{S:World->Prop}
end
theorem aaS{P:Program}{ops:Array Oper}{S:World->Prop}{op:Oper}{a:Act}(X:Region.wanted op (yielded ops a.tmps)=true)(ty:TypeId)(x:Operand)(ho:op.op=.load ty x)
  (g:Nat) (Y:a.eval x=pointer (some ⟨g,0,none⟩)) (t:TypeId) (cs:Array Value) (fr:Nat×Nat) (d:TypeDesc) (J:∀w,S w->w.heap[g]?=some (.cells cs t fr))
  (V:P.underlying ty=some d) (N:(match d with|.struct _|.array _ _=>true|_=>false)=true) (U:(P.info? ty).map (·.size)=some cs.size):YieldsIf P ops S op (.agg cs) a:=
 .inl ⟨X,λw Z=>by unfold execOp;simp only[ho,Y,Instr.loadAt,Instr.sureAddr,IN,IM,Result.andThen_ok,run_loadVar_row w g t ty cs fr d (J w Z) V N U]⟩
theorem anq{L:List Int}(Z:L.length=256)(m:Int)(row:Value):(ZP.info? 146).map (·.size)=some (dvC L m row).toArray.size:=by rw[Ko Z];exact Nl
theorem aoH{L:List Int}(Z:L.length=256)(m:Int)(row:Value):Tryz.zeroCells146.size=(dvC L m row).toArray.size:=by rw[amP,Ko Z,Ko CS]
def apB(M:Act->World->Prop):Exit->Act->World->Prop
 |.normal,a,w=>M a w
 |_,_,_=>False
theorem alp(ws:La):(AG ws).up.length=(AB ws).length:=by simp[AG]
def FD(G B:Nat)(Z:List Sv)(node:Nat)(l:List Int)(W:World):Prop:=∃v:Sv,W.heap[G]?=some (.cells ((Z.set node v).map svV).toArray 30 (0,0))/\FB W B (svV v) l
def GP(G n:Nat)(Z:La)(W:World):Prop:=∃Y:List Sv,W.heap[G]?=some (.cells (Y.map svV).toArray 30 (0,0))/\Y.length=n/\Z.length<=n/\(∀(i:Nat)(v:Sv),Z.length<=i->Y[i]?=some v->v=(none,0,0))/\
 ∀(i:Nat)(v:Sv)(xs:List Int),Y[i]?=some v->Z[i]?=some xs->Sl1 (int i64) W v.1 v.2.1 xs/\v.2.1<=v.2.2/\∀p,v.1=some p->G<=p.block
theorem aov{w:World}{G node:Nat}{Z:List Sv}{v:Sv}{t:TypeId}(h:w.heap[G]?=some (.cells ((Z.set node v).map svV).toArray t (0,0)))(u:Sv):(w.setCell ⟨G,node,none⟩ (svV u)).heap[G]?=some (.cells ((Z.set node u).map svV).toArray t (0,0)):=by have:=AJ (i:=node) h (svV u);rw[this];simp[Is]
theorem FD.cell{W:World}{G B node:Nat}{Z:List Sv}{v:Sv}{t:TypeId}(h:W.heap[G]?=some (.cells ((Z.set node v).map svV).toArray t (0,0)))(Y:node<Z.length):W.cell? ⟨G,node,none⟩=some (svV v):=by rw[cell_of_row W G node _ _ _ h];simp[Gr,Y]
theorem FD.app{W U:World}{G B node:Nat}{H:List Sv}{l:List Int}{z:Int}{v u:Sv}{Y:Obj}(y:W.heap[G]?=some (.cells ((H.set node v).map svV).toArray 30 (0,0)))(V:FB W B (svV v) l)(x:G<B)(s:B<=W.heap.size)
  (X:U.ownsRow B 3 1 (svV u) (l.length+1) (l.map (int i64)++[int i64 z])) (Z:(W.alloc Y).grownBy U (svV v).ownBlock) :
  U.heap[G]?=some (.cells ((H.set node v).map svV).toArray 30 (0,0))/\FD G B H node (l++[z]) (U.setCell ⟨G,node,none⟩ (svV u))/\KeepsOthers W (U.setCell ⟨G,node,none⟩ (svV u))/\(∀k,k<B->k≠G->(U.setCell ⟨G,node,none⟩ (svV u)).heap[k]?=W.heap[k]?)/\Below G W (U.setCell ⟨G,node,none⟩ (svV u)):=by
 have I:∀k,k<B->(svV v).ownBlock≠some k:=λk hk e=>by have:=(BA V k e).1;omega
 have J:U.heap[G]?=_:=(Z.block G (by simp;omega) (λe=>I G x e.symm)).trans ((Bg W Y G om).trans y);refine⟨J,⟨u,aov J u,?_⟩,?_,λk hk D=>?_,?_⟩
 ·have:=World.ownsRow.kept X (BH U G node (svV u)) (.inr λe=>by have:=(BA X G e).1;omega);unfold FB;rw[List.length_append,Aj];exact this
 ·refine((KeepsOthers.alloc W Y).trans (KeepsOthers.of_grownBy Z λj o N A=>?_)).trans (Jp _ _ _)
  rcases(World.ownsRow.alloc V Y).2 with⟨h,_⟩|⟨g,cap,a1,h,_,C,_⟩
  ·rw[h]at N;simp[Value.ownBlock]at N
  ·rw[h]at N;obtain rfl:g=j:=by simpa[Value.ownBlock]using N
   rw[C]at A;cases A;rfl
 ·exact(AQ _ _ _ _ (by show k≠G;exact D)).trans ((Z.block k (by simp;omega) (λe=>I k hk e.symm)).trans (Bg _ _ _ om))
 ·refine(((AH G W).alloc om Y).grown Z (by simp;omega) λj N=>?_).setCell (p:=⟨G,node,none⟩) (AC _) (svV u);have:=(BA V j N).1;omega
theorem aft{α:Type}{G B p node:Nat}{J:List Sv}(H:p≠G)(I:p<B)(f:α->List Int):BL B (λr=>r=p) (λs W=>FD G B J node (f s) W):=by
 rintro s W z row ⟨v,Z,ho⟩ N U;have V:∀{k:Nat}{cs:Array Value}{t:TypeId},W.heap[k]?=some (.cells cs t (0,0))->k≠p->row≠some k:=λ{k cs t} hk Y e=>by
  rcases U k e with⟨_,o,h1,h2⟩|h
  ·rw[hk]at h1;cases h1;cases h2
  ·exact Y h
 refine⟨v,(N.block G (AD.1 Z).1 (λe=>V Z (Ne.symm H) e.symm)).trans Z,ho.kept N ?_⟩
 rcases ho.2 with⟨h,_⟩|⟨g,cap,A,h,D,X,_⟩
 ·rw[h];exact .inl rfl
 ·rw[h];refine .inr λe=>?_;have C:row=some g:=by rw[<-e];rfl
  rcases U g C with⟨_,o,h1,h2⟩|h
  ·rw[X]at h1;cases h1;cases h2
  ·omega
theorem ahk{α:Type}{B G p:Nat}{P:Nat->Prop}{w:World}(V:∀k,k<B->P k->k≠p):BL B (λr=>r=p) (λ(_:α) W=>(∀k,k<B->P k->W.heap[k]?=w.heap[k]?)/\B<=W.heap.size):=λs W U row h Y X=>
 ⟨λk hk Z=>(Y.block k (Af hk h.2) (λe=>by
  rcases X k e.symm with⟨h1,_⟩|h1
  ·omega
  ·exact V k hk Z h1)).trans (h.1 k hk Z),AS h.2 Y.size⟩
theorem GP.new{W:World}{G n:Nat}(h:W.heap[G]?=some (.cells (GW n) 30 (0,0))):GP G n [] W:=by
 refine⟨List.replicate n (none,0,0),?_,by simp,AR _,λi v _ Z=>?_,λi v xs _ Y=>by simp at Y⟩
 ·rw[h];simp[GW,svV]
 ·rw[Jo]at Z
  split at Z
  ·exact(AK Z).symm
  ·cases Z
theorem Sl1.keptG{w W:World}{a:Option Addr}{n G:Nat}{x:List Int}{N:List Sv}{t:TypeId}(h:Sl1 (int i64) w a n x)(H:w.heap[G]?=some (.cells (N.map svV).toArray t (0,0)))(hk:∀k,k<w.heap.size->k≠G->W.heap[k]?=w.heap[k]?)(D:w.heap.size<=W.heap.size):Sl1 (int i64) W a n x:=by
 refine⟨h.1,?_⟩
 rcases h.2 with h0|⟨b,off,e,Z,U⟩
 ·exact .inl h0
 ·by_cases I:x=[]
  ·left;have:=h.1;rw[I]at this;simpa using this.symm
  ·refine .inr ⟨b,off,e,by omega,λj y V=>?_⟩;have X:b≠G:=by
    rintro rfl;have Y:=U j y V;rw[cell_of_row w b (off+j) _ _ _ H]at Y;simp only[Dy,BU,Fo]at Y;obtain⟨v,_,J⟩:=Y
    cases J
   exact(BC (a:=⟨b,off+j,none⟩) (hk b Z X)).trans (U j y V)
theorem GP.step{W I:World}{G n B node:Nat}{X:List Sv}{Z:La}{xs:List Int}(hg:W.heap[G]?=some (.cells (X.map svV).toArray 30 (0,0)))(j:X.length=n)(y:Z.length=node)(hn:node<n)(U:∀(i:Nat)(v:Sv),Z.length<=i->X[i]?=some v->v=(none,0,0))
  (s:∀(i:Nat)(v:Sv)(xs:List Int),X[i]?=some v->Z[i]?=some xs->Sl1 (int i64) W v.1 v.2.1 xs/\v.2.1<=v.2.2/\∀p,v.1=some p->G<=p.block) (A:G<=B) (hh:FD G B X node xs I) (hk:∀k,k<W.heap.size->k≠G->I.heap[k]?=W.heap[k]?) (x:W.heap.size<=I.heap.size):GP G n (Z++[xs]) I:=by
 obtain⟨v,h1,h2⟩:=hh;refine⟨_,h1,by simp[j],by simp;omega,λi u J Y=>?_,λi u ys Y V=>?_⟩
 ·simp at J;rw[FH om]at Y;exact U i u om Y
 ·by_cases J:i=node
  ·subst J;rw[FU om]at Y;obtain rfl:=AK Y;rw[<-y,MX]at V;obtain rfl:=AK V;obtain⟨a,c,e,hc,H⟩:=Co (enc:=int i64) h2;simp only[svV,IL]at e;obtain⟨z,e2,e3⟩:=e;rw[z,e2,e3];refine⟨H,hc,λp N=>?_⟩
   rcases h2.2 with⟨h,_⟩|⟨g,cap,a1,h,C,_⟩
   ·simp only[svV,IL]at h;rw[<-z,h.1]at N;cases N
   ·simp only[svV,IL]at h;rw[<-z,h.1]at N
    cases N
    exact AS A C
  ·rw[FH (Ne.symm J)]at Y;have D:=(AP.1 V).1;rw[By (by simp at D;omega)]at V;obtain⟨h3,h4⟩:=s i u ys Y V;exact⟨h3.keptG hg hk x,h4⟩
theorem GP.lls{W:World}{G n:Nat}{Z:La}(h:GP G n Z W)(U:Z.length=n):Lls W (some ⟨G,0,none⟩) n Z:=by obtain⟨V,h1,h2,_,_,h3⟩:=h;refine⟨V,⟨h2,.inr ⟨G,0,rfl,(AD.1 h1).1,λi v X=>?_⟩⟩,h2.trans U.symm,λi v xs X Y=>⟨(h3 i v xs X Y).1,(h3 i v xs X Y).2.1⟩⟩;rw[cell_of_row W G (0+i) _ _ _ h1];simp[X]
def FE(Q:Nat)(W:World):List Deferred->Prop
 |[]=>True
 |d::ds=>(∃D,d={target:=.collected D,args:=#[]}/\Q<=D/\W.heap[D]?=some (Obj.deferred (some []))/\∀Z∈ds,Z.target≠.collected D)/\FE Q W ds
theorem FE.lt{Q:Nat}{W:World}:∀{ds:List Deferred},FE Q W ds->∀D,(∃d∈ds,d.target=.collected D)->D<W.heap.size
 |[],_,D,⟨d,Z,_⟩=>by simp at Z
 |d0::ds,⟨⟨D0,e,_,h0,_⟩,h⟩,D,⟨d,Z,e1⟩=>by
  rcases CR.1 Z with rfl|Z
  ·rw[e]at e1
   cases e1
   exact(AD.1 h0).1
  ·exact FE.lt h D ⟨d,Z,e1⟩
theorem FE.keep{Q:Nat}{W V:World}:∀{ds:List Deferred},FE Q W ds->(∀D,(∃d∈ds,d.target=.collected D)->W.heap[D]?=some (Obj.deferred (some []))->V.heap[D]?=some (Obj.deferred (some [])))->FE Q V ds
 |[],_,_=>trivial
 |d0::ds,⟨⟨D0,e,hq,h0,hn⟩,h⟩,hk=>⟨⟨D0,e,hq,hk D0 ⟨d0,List.mem_cons_self ..,by rw[e]⟩ h0,hn⟩,FE.keep h λD ⟨d,Z,Y⟩=>hk D ⟨d,MT _ Z,Y⟩⟩
theorem FE.push{Q D G:Nat}{W V:World}{ds:List Deferred}(h:FE Q W ds)(hk:∀k,k<W.heap.size->k≠G->V.heap[k]?=W.heap[k]?)(X:∀l:Option (List Deferred),W.heap[G]?≠some (Obj.deferred l))(I:W.heap.size<=D)(Y:V.heap[D]?=some (Obj.deferred (some [])))(J:Q<=W.heap.size) :FE Q V ({target:=.collected D,args:=#[]}::ds):=by
 refine⟨⟨D,rfl,by omega,Y,λU Z e=>?_⟩,h.keep λN Z h0=>?_⟩
 ·have:=h.lt D ⟨U,Z,e⟩;omega
 ·rw[hk N (AD.1 h0).1 (λe=>X _ (by rw[<-e];exact h0))];exact h0
def FA(Q:Nat)(W Z:World):Prop:=Below Q W Z/\Z.heap.size=W.heap.size/\∀k:Nat,(∀l:Option (List Deferred),W.heap[k]?≠some (Obj.deferred l))->Z.heap[k]?=W.heap[k]?
theorem apl{P:Program}{fn:Func}{R:Ending->World->Prop}{tmps:Array Value}{Q:Nat}:∀(ds:List Deferred)(W:World),Q<=W.heap.size->FE Q W ds->(∀Y,FA Q W Y->∃v,(results fn tmps).run P Y=.ok v Y/\R (.returned v) Y)->
  LeavesInM Fence.wide 9 P fn tmps R ds .returning W
 |[],W,_,_,h=>h W ⟨AH _ _,rfl,λ_ _=>rfl⟩
 |d::ds,W,hQ,⟨⟨D,e,hq,hD,hn⟩,hc⟩,h=>by
  subst e;refine⟨by simp,.inl ⟨_,_,rfl,run_takeDeferred hD,apl ds _ (by simpa[World.putObj]using hQ) (hc.keep λJ U h0=>?_) (λY Z=>h Y ⟨(FZ (AH Q W) hq hQ _).trans Z.1,by rw[Z.2.1];simp[World.putObj],λk hk=>?_⟩)⟩⟩
  ·obtain⟨N,h1,h2⟩:=U;rw[Cm (λe=>hn N h1 (by rw[h2,e]))];exact h0
  ·have X:k≠D:=λe=>hk _ (by rw[e];exact hD);have V:(W.putObj D (.deferred none)).heap[k]?=W.heap[k]?:=Cm X;rw[Z.2.2 k (λl=>by rw[V];exact hk l),V]
theorem FA.cell{Q:Nat}{W Y:World}(h:FA Q W Y){a:Addr}{v:Value}(Z:W.cell? a=some v):Y.cell? a=some v:=by rw[<-Z];refine BC (h.2.2 _ λl e=>?_);unfold cell? at Z;rw[e]at Z;simp at Z
theorem FA.box{Q:Nat}{W X:World}(h:FA Q W X){k:Nat}{cs:Array Value}{t:TypeId}{Y:Nat×Nat}(Z:W.heap[k]?=some (.cells cs t Y)):X.heap[k]?=some (.cells cs t Y):=(h.2.2 k λl e=>by rw[Z]at e;cases e).trans Z
theorem FA.sl1{α:Type}{enc:α->Value}{Q:Nat}{W X:World}(h:FA Q W X){a:Option Addr}{n:Nat}{xs:List α}(Y:Sl1 enc W a n xs):Sl1 enc X a n xs:=by
 refine⟨Y.1,?_⟩
 rcases Y.2 with h0|⟨b,off,e,Z,U⟩
 ·exact .inl h0
 ·exact .inr ⟨b,off,e,by rw[h.2.1];exact Z,λi x V=>h.cell (U i x V)⟩
theorem FA.wds{Q:Nat}{W X:World}(h:FA Q W X){a:Option Addr}{n:Nat}{wss:La}(U:Wds W a n wss):Wds X a n wss:=by obtain⟨V,h1,h2,h3⟩:=U;exact⟨V,h.sl1 h1,h2,λi v xs Y Z=>⟨⟨h.sl1 (h3 i v xs Y Z).1.1,(h3 i v xs Y Z).1.2⟩,(h3 i v xs Y Z).2⟩⟩
theorem FA.lls{Q:Nat}{W V:World}(h:FA Q W V){a:Option Addr}{n:Nat}{Z:La}(N:Lls W a n Z):Lls V a n Z:=by obtain⟨U,h1,h2,h3⟩:=N;exact⟨U,h.sl1 h1,h2,λi v xs X Y=>⟨h.sl1 (h3 i v xs X Y).1,(h3 i v xs X Y).2⟩⟩
theorem FA.mok{Q:Nat}{W N:World}(h:FA Q W N){B R V U wc:Nat}{fold:Bool}{wss:La}{lo X:Int}{a Y:Option Addr}(Z:MOK W B fold wss lo X R a V U Y wc):MOK N B fold wss lo X R a V U Y wc:=⟨⟨h.box Z.mc.box,Z.mc.len⟩,h.box Z.row,h.wds Z.wds,h.lls Z.lls⟩
theorem adm{a b c:World}{G:Nat}(h:a.grownBy b (some G))(k:b.grownBy c (some G)):a.grownBy c (some G):=⟨k.os.trans h.os,k.tape.trans h.tape,k.output.trans h.output,AS h.size k.size,λi Y Z=>(k.block i (Af Y h.size) Z).trans (h.block i Y Z)⟩
theorem Mc.setW{w:World}{B:Nat}{L:List Int}{m n:Int}{row:Value}{fold:Bool}{Z:Value}{lo Y:Int}{wd:Value}(h:Mc w B L m n row fold Z lo Y wd)(u:Value):Mc (w.setCell ⟨B,263,none⟩ u) B L m n row fold Z lo Y u:=by refine⟨?_,h.len⟩;rw[AJ (i:=263) h.box u];simp[mcC,List.set_append,h.len]
theorem abM{w:World}{base Z n size:Nat}{e:TypeId}{v:Value}{xs:List Value}(h:w.ownsRow base e size v n xs)(X:Z<=base):w.ownsRow Z e size v n xs:=⟨h.1,h.2.imp id λ⟨g,cap,Y,h1,h2,r⟩=>⟨g,cap,Y,h1,by omega,r⟩⟩
theorem BI.lower{w:World}{b b':Nat}{v:Value}{wss:La}(h:BI w b v wss)(X:b'<=b):BI w b' v wss:=by obtain⟨es,h1,h2,h3⟩:=h;exact⟨es,abM h1 X,h2,λi e xs Y Z=>⟨abM (h3 i e xs Y Z).1 X,(h3 i e xs Y Z).2⟩⟩
def EF(q:Nat)(W V:World):Prop:=W.heap.size<=V.heap.size/\∀k,q<=k->k<W.heap.size->(∀l,W.heap[k]?≠some (Obj.deferred l))->V.heap[k]?=W.heap[k]?
theorem EF.cell{q:Nat}{W V:World}(h:EF q W V){a:Addr}{v:Value}(X:q<=a.block)(Z:W.cell? a=some v):V.cell? a=some v:=by rw[<-Z];have Y:=DO W a Z;refine BC (h.2 _ X Y λl e=>?_);unfold cell? at Z;rw[e]at Z;simp at Z
theorem EF.box{q:Nat}{W V:World}(h:EF q W V){k:Nat}{cs:Array Value}{t:TypeId}{Y:Nat×Nat}(X:q<=k)(Z:W.heap[k]?=some (.cells cs t Y)):V.heap[k]?=some (.cells cs t Y):=(h.2 k X (AD.1 Z).1 λl e=>by rw[Z]at e;cases e).trans Z
theorem EF.row{q:Nat}{W V:World}(h:EF q W V){e:TypeId}{size n:Nat}{v:Value}{xs:List Value}(ho:W.ownsRow q e size v n xs):V.ownsRow q e size v n xs:=⟨ho.1,ho.2.imp id λ⟨g,cap,Z,h1,h2,h3,r⟩=>⟨g,cap,Z,h1,h2,h.box h2 h3,r⟩⟩
theorem EF.ownW{q:Nat}{W V:World}(h:EF q W V){v:Value}{wss:La}(ho:BI W q v wss):BI V q v wss:=by obtain⟨es,h1,h2,h3⟩:=ho;exact⟨es,h.row h1,h2,λi e xs Y Z=>⟨h.row (h3 i e xs Y Z).1,(h3 i e xs Y Z).2⟩⟩
theorem EF.sl1{α:Type}{enc:α->Value}{q:Nat}{W V:World}(h:EF q W V){a:Option Addr}{n:Nat}{xs:List α}(ha:∀p,a=some p->q<=p.block)(Y:Sl1 enc W a n xs):Sl1 enc V a n xs:=by
 refine⟨Y.1,?_⟩
 rcases Y.2 with h0|⟨b,off,e,Z,U⟩
 ·exact .inl h0
 ·exact .inr ⟨b,off,e,Af Z h.1,λi x X=>h.cell (a:=⟨b,off+i,none⟩) (show q<=b from ha _ e) (U i x X)⟩
theorem EF.of_below{q:Nat}{W V:World}(Z:Bt W V):EF q W V:=⟨Z.size,λk _ hk _=>Z.block k hk⟩
theorem FA.kept{Q q:Nat}{W Z:World}(h:FA Q W Z):EF q W Z:=⟨by rw[h.2.1];exact AC _,λk _ _ Y=>h.2.2 k Y⟩
structure Il(q:Nat)(W:World)(B R:Nat)(a:Option Addr)(la ca:Nat)(wss:La)(wa:Option Addr):Prop where
 b:q<=B
 r:q<=R
 own:BI W q (slice a la ca) wss
 rows:∃vs:List Sv,Sl1 (λv=>slice v.1 v.2.1 v.2.2) W wa (AB wss).length vs/\vs.length=(AB wss).length/\(∀(i:Nat)(v:Sv)(xs:List Int),vs[i]?=some v->((List.range (AB wss).length).map (CA wss))[i]?=some xs->Sl1 (int i64) W v.1 v.2.1 xs/\v.2.1<=v.2.2/\∀p,v.1=some p->q<=p.block)/\∀p,wa=some p->q<=p.block
theorem Il.kept{q B R U N:Nat}{W V:World}{a X:Option Addr}{wss:La}(h:Il q W B R a U N wss X)(hk:EF q W V):Il q V B R a U N wss X:=by obtain⟨J,h1,h2,h3,h4⟩:=h.rows;exact⟨h.b,h.r,hk.ownW h.own,J,hk.sl1 h4 h1,h2,λi v xs Y Z=>⟨hk.sl1 (h3 i v xs Y Z).2.2 (h3 i v xs Y Z).1,(h3 i v xs Y Z).2⟩,h4⟩
theorem Il.mok{q B R Y U wc:Nat}{W V:World}{fold:Bool}{lo N:Int}{a Z:Option Addr}{wss:La}(h:Il q W B R a Y U wss Z)(hk:EF q W V)(X:MOK W B fold wss lo N R a Y U Z wc):MOK V B fold wss lo N R a Y U Z wc:=by obtain⟨C,h1,h2,h3,h4⟩:=(h.kept hk).rows;obtain⟨s,x,D,_,I⟩:=(h.kept hk).own.wds;simp only[IL]at D;obtain⟨z,A,y⟩:=D;rw[<-z,<-A]at I;exact⟨⟨hk.box h.b X.mc.box,X.mc.len⟩,hk.box h.r X.row,I,C,h1,by simpa using h2,λi v xs H J=>⟨(h3 i v xs H J).1,(h3 i v xs H J).2.1⟩⟩
theorem GP.far{W:World}{G n q:Nat}{Z:La}(h:GP G n Z W)(N:q<=G):∃Y:List Sv,Sl1 (λv=>slice v.1 v.2.1 v.2.2) W (some ⟨G,0,none⟩) n Y/\Y.length=n/\(∀(i:Nat)(v:Sv)(xs:List Int),Y[i]?=some v->Z[i]?=some xs->Sl1 (int i64) W v.1 v.2.1 xs/\v.2.1<=v.2.2/\∀p,v.1=some p->q<=p.block)/\∀p,(some ⟨G,0,none⟩:Option Addr)=some p->q<=p.block:=by obtain⟨Y,h1,h2,_,_,h3⟩:=h;refine⟨Y,⟨h2,.inr ⟨G,0,rfl,(AD.1 h1).1,λi v X=>?_⟩⟩,h2,λi v xs X V=>⟨(h3 i v xs X V).1,(h3 i v xs X V).2.1,λp U=>AS N ((h3 i v xs X V).2.2 p U)⟩,λp U=>by cases U;exact N⟩;rw[cell_of_row W G (0+i) _ _ _ h1];simp[X,svV]
section
variable {P:Program}{md:Region.Mode}{ops:Array Oper}{Q:Exit->Act->World->Prop}{S:World->Prop}
def Kz(P:Program)(ops:Array Oper)(Q:Exit->Act->World->Prop)(S:World->Prop)(o:Oper)(R:Value->World->Prop)(a:Act):Prop:=
 ∀w,S w->∀K:Act->World->Prop,(∀v w',S w'->R v w'->Bt w w'->K (a.put o.dst v) w')->if Region.wanted o (yielded ops a.tmps)=true then Oper.wp P o a w K Q else K (a.put o.dst undef) w
end
end Go.Proofs.YtaamacoicojhnaaGreat
