/- Proofs over the given program, part 5. -/
import Derived.Test.YtaamacoicojhnaaGreatZO4
set_option linter.unusedVariables false
set_option linter.unusedSimpArgs false
set_option maxRecDepth 100000
set_option maxHeartbeats 16000000
open Go.Proofs.Tryz
open Go.Proofs.Tryz renaming prog→ZP
open Go.World(cell? frozen?)
open Go.Value(int slice pointer bool)
open Go.IntKind(i64)
namespace Go.Proofs.YtaamacoicojhnaaGreat
open Go.RowKit Go.Sort
theorem ach{fold:Bool}{x:List Int}{Z:Lq}:BV fold x Z<0↔∀y∈Z,AO fold y≠AO fold x:=by
 unfold BV LM
 cases e:Z.findIdx? (λw=>CH fold x w)with
 |none=>
  rw[List.findIdx?_eq_none_iff]at e
  constructor
  ·intro _ y Y h;have:=e y Y;unfold CH at this;simp at this;exact this h.symm
  ·intro _;dsimp only;omega
 |some k=>
  constructor
  ·intro h;dsimp only at h;omega
  ·intro h;obtain⟨hk,h1,_⟩:=List.findIdx?_eq_some_iff_getElem.1 e;unfold CH at h1;simp at h1;exact absurd h1.symm (h _ (List.getElem_mem hk))
theorem ahV(fold:Bool)(l:Lq):(AZ fold l).Nodup/\∀y∈AZ fold l,AO fold y=y:=by
 refine IT (P:=λl=>(AZ fold l).Nodup/\∀y∈AZ fold l,AO fold y=y) (by simp[AZ]) (λl x ⟨h1,h2⟩=>?_) l;rw[Ka];unfold GK
 by_cases h:BV fold x (AZ fold l)<0
 ·rw[Vb h];have X:=ach.1 h;refine⟨?_,λy Z=>?_⟩
  ·rw[List.nodup_append];refine⟨h1,by simp,λa ha b Y e=>?_⟩;simp at Y;subst Y;subst e;exact X _ ha (abq _ _)
  ·rcases Bf.1 Z with Z|Z
   ·exact h2 y Z
   ·simp at Z;subst Z;exact abq _ _
 ·rw[Va h];exact⟨h1,h2⟩
theorem ahQ:∀(l:Lq),l.Nodup->AZ false l=l:=by
 refine IT (P:=λl=>l.Nodup->AZ false l=l) (by simp[AZ]) (λl x Z h=>?_);rw[List.nodup_append]at h;rw[Ka,Z h.1];unfold GK;rw[Vb (ach.2 λy Y e=>?_)]
 ·simp[AO]
 ·simp[AO]at e;exact h.2.2 y Y x sm e
theorem EI{fold:Bool}{wss:Lq}(h:An fold wss=true):wss.length<=64/\wss≠[]/\(∀x∈wss,x.length≠0/\x.length<=32)/\Ds wss<=600/\Cl fold wss<=400/\AZ fold wss=wss:=by
 rw[NF]at h;unfold Fw at h;rw[Bq]at h;have h1:DL fold wss=0:=Vc h.1;have h2:AZ fold wss=wss:=Vc h.2;unfold DL at h1
 by_cases Z:wss.length=0
 ·rw[Vb Z]at h1;cases h1
 ·rw[Va Z]at h1
  by_cases a2:wss.length > 64
  ·rw[Vb a2]at h1;cases h1
  ·rw[Va a2]at h1
   by_cases a3:∃x∈wss,x.length=0
   ·rw[Vb a3]at h1;cases h1
   ·rw[Va a3]at h1
    by_cases a4:∃x∈wss,x.length > 32
    ·rw[Vb a4]at h1;cases h1
    ·rw[Va a4]at h1
     by_cases a5:Ds wss > 600
     ·rw[Vb a5]at h1;cases h1
     ·rw[Va a5]at h1
      by_cases X:Cl fold wss > 400
      ·rw[Vb X]at h1;cases h1
      ·exact⟨by omega,λe=>Z (by rw[e];rfl),λx Y=>⟨λe=>a3 ⟨x,Y,e⟩,Nat.not_lt.1 λe=>a4 ⟨x,Y,e⟩⟩,by omega,by omega,h2⟩
theorem Fv{fold:Bool}{wss:Lq}(h:An fold wss=true):wss.Nodup/\∀w∈wss,AO fold w=w:=by
 have:=ahV fold wss
 rwa[(EI h).2.2.2.2.2]at this
theorem aae(fold:Bool){wss:Lq}(Y:∀w∈wss,AO fold w=w):((AB wss).length:Int)=Cl fold wss:=by
 obtain⟨h1,h2⟩:=count_eq fold wss;have Z:(AB wss).Perm (Di (Ad fold wss)).1:=by
  rw[List.perm_ext_iff_of_nodup (CL wss).nodup (ajx (Ad fold wss)).nodup];intro x;rw[DT,h2,Ei.iff];unfold OC
  constructor
  ·rintro(h|⟨h0,w,hw,Z⟩)
   ·exact .inl h
   ·exact .inr ⟨w,hw,by rw[Y w hw];exact Z⟩
  ·rintro(h|⟨w,hw,Z⟩)
   ·exact .inl h
   ·by_cases e:x=[]
    ·exact .inl e
    ·exact .inr ⟨e,w,hw,by rw[Y w hw]at Z;exact Z⟩
 rw[Z.length_eq];exact h1
theorem IY{fold:Bool}{wss:Lq}(h:An fold wss=true):An false wss=true:=by
 obtain⟨h1,h2,h3,h4,h5,h6⟩:=EI h;obtain⟨X,Y⟩:=Fv h;have V:Cl false wss=Cl fold wss:=by rw[<-aae fold Y,<-aae false (λw _=>by simp[AO])]
 rw[NF];unfold Fw;rw[Bq];refine⟨Ve ?_,Ve (ahQ wss X)⟩;unfold DL;rw[Va (λe=>h2 (Bz e)),Va om,Va (λ⟨x,Z,e⟩=>(h3 x Z).1 e),Va (λ⟨x,Z,e⟩=>by have:=(h3 x Z).2;omega),Va om,Va (by rw[V];omega)]
/-! ### a trie read -/
def Cy(T:Ay):Nat->Option Lq
 |0=>none
 |1=>some [[]]
 |i+2=>(Cy T (i+1)).bind λl=>match T.up[i+1]?,T.byt[i+1]? with
  |some u,some c=>if 0<=u/\u<(i:Int)+1 then(l[u.toNat]?).map λp=>l++[p++[c]] else none
  |_,_=>none
def spO(T:Ay):Option Lq:=
 if 1<=T.up.length/\T.up.length<=400/\T.byt.length=T.up.length/\T.dep.length=T.up.length/\T.wrd.length=T.up.length then Cy T T.up.length else none
theorem Mv{T:Ay}:∀{i:Nat}{l:Lq},Cy T i=some l->l.length=i
 |0,l,h=>by cases h
 |1,l,h=>by simp[Cy]at h;simp[<-h]
 |i+2,l,h=>by
  unfold Cy at h;obtain⟨Y,h0,h⟩:=Io.1 h;have Z:=Mv h0
  split at h
  ·split at h
   ·obtain⟨p,X,rfl⟩:=Fo.1 h;simp[Z]
   ·cases h
  ·cases h
def Dl(T:Ay)(n:Nat):Nat->Option (List Int×Int)
 |0=>some (List.replicate n 0,0)
 |i+1=>(Dl T n i).bind λs=>match T.wrd[i]? with
  |some w=>if w=-1 then some s else if w<0∨(n:Int)<=w∨i=0∨(s.1[w.toNat]?).getD 0≠0 then none else some (s.1.set w.toNat i,s.2+1)
  |none=>none
def Df(Z:Lq)(at_:List Int):Nat->Option Lq
 |0=>some []
 |k+1=>(Df Z at_ k).bind λl=>match at_[k]? with
  |some i=>if i=0 then none else(Z[i.toNat]?).map λx=>l++[x]
  |none=>none
def nuO(T:Ay)(Z:Lq):Option Lq:=(Dl T Z.length T.wrd.length).bind λs=>Df Z s.1 s.2.toNat
def eqT(T U:Ay):Bool:=decide (T.up=U.up)&&decide (T.dep=U.dep)&&decide (T.wrd=U.wrd)&&decide (T.byt=U.byt)
theorem ajJ{T U:Ay}:eqT T U=true↔T=U:=by obtain⟨a,b,c,d⟩:=T;obtain⟨X,b',Y,Z⟩:=U;simp[eqT,and_assoc]
def CI(T:Ay):Option (Lq×Lq):=
 (spO T).bind λZ=>(nuO T Z).bind λws=>if(An false ws&&eqT (AG ws) T)=true then some (Z,ws) else none
section
variable {ws:Lq}
theorem afG(w:List Int):AO false w=w:=by simp[AO]
theorem NE(h:An false ws=true):1<=(AB ws).length/\(AB ws).length<=400:=by have h1:=(EI h).2.2.2.2.1;have h2:=aae false (wss:=ws) (λw _=>afG w);have h3:(AB ws).length≠0:=λe=>Lo ws (Bz e);omega
theorem aoL{i:Nat}{x:List Int}(h:(AB ws)[i]?=some x)(h0:x≠[]):∃j,j<i/\(AB ws)[j]?=some x.dropLast/\CW (AB ws) x.dropLast=j:=by
 have U:=CL ws;have H:x.dropLast∈AB ws:=(DT ws).2 ((DT ws).1 (AX h)).up;obtain⟨j,X⟩:=DR H;refine⟨j,?_,X,CV U.nodup X⟩;have J:x.dropLast.length<x.length:=by rw[List.length_dropLast];have:x.length≠0:=λe=>h0 (Bz e);omega
 have V:=(AP.1 h);have Y:=(AP.1 X)
 rcases LG j i with Z|D
 ·exact Z
 ·exfalso
  rcases LG i j with Z|I
  ·have N:=List.pairwise_iff_getElem.1 U i j V.1 Y.1 Z;rw[V.2,Y.2]at N;have:=ag6 N;omega
  ·have e:i=j:=by omega
   subst e;rw[h]at X;have:=congrArg List.length (AK X);omega
theorem acb{x:List Int}(h:x≠[]):x.dropLast++[DU x]=x:=by unfold DU;rw[MV h,CG];exact Em h
theorem amD{i:Nat}{x:List Int}(h:(AB ws)[i+1]?=some x):x≠[]:=by intro e;subst e;have h0:=CM ws;have Z:=(CL ws).nodup;have:=Ln Z h0 h;omega
theorem adK:∀i,1<=i->i<=(AB ws).length->Cy (AG ws) i=some ((AB ws).take i)
 |0,h,_=>by omega
 |1,_,_=>by
  have h0:=CM ws
  revert h0
  cases AB ws with
  |nil=>intro h;cases h
  |cons a l=>intro h;simp at h;simp[Cy,h]
 |i+2,_,h=>by
  have V:=adK (i+1) om om;obtain⟨x,Z⟩:∃x,(AB ws)[i+1]?=some x:=⟨(AB ws)[i+1]'om,by simp⟩;have h0:=amD Z;obtain⟨j,U,X,Y⟩:=aoL Z h0;unfold Cy;rw[V,EV];have N:(AG ws).up[i+1]?=some (j:Int):=by simp[AG,Z,Y]
  have e2:(AG ws).byt[i+1]?=some (DU x):=by simp[AG,Z]
  rw[N,e2];dsimp only;rw[Vb ⟨by omega,by omega⟩,Aa,FT,Vb U,X,Dw,acb h0,As Z]
theorem agF(h:An false ws=true):spO (AG ws)=some (AB ws):=by
 obtain⟨h1,h2⟩:=NE h;unfold spO;have e:(AG ws).up.length=(AB ws).length:=by simp[AG]
 rw[Vb ⟨by rw[e];exact h1,by rw[e];exact h2,by simp[AG],by simp[AG],by simp[AG]⟩,e,adK _ h1 (AC _),Hl]
def atW(ws:Lq)(i w:Nat):Int:=match ws[w]? with
 |some x=>if(AB ws).idxOf x<i then((AB ws).idxOf x:Int) else 0
 |none=>0
theorem adL{w:Nat}{x:List Int}(Y:ws[w]?=some x)(h0:x≠[]):∃j,1<=j/\(AB ws)[j]?=some x/\(AB ws).idxOf x=j:=by
 have X:x∈AB ws:=(DT ws).2 (Ei.iff.2 (.inr ⟨h0,x,AX Y,List.prefix_refl _⟩));obtain⟨j,Z⟩:=DR X;refine⟨j,?_,Z,?_⟩
 ·by_cases e:j=0
  ·subst e;rw[CM]at Z;exact absurd (AK Z).symm h0
  ·omega
 ·have:=List.Nodup.idxOf_getElem (CL ws).nodup j (AP.1 Z).1
  rwa[(AP.1 Z).2]at this
def JM(ws:Lq)(i:Nat):Int:=((ws.filter λx=>decide ((AB ws).idxOf x<i)).length:Int)
theorem OS(h:An false ws=true):ws.length<(AB ws).length:=by
 obtain⟨U,_⟩:=Fv h;have h3:=(EI h).2.2.1;have X:([]::ws).Nodup:=by rw[List.nodup_cons];exact⟨λV=>(h3 _ V).1 rfl,U⟩
 have Y:([]::ws) ⊆ AB ws:=λx Z=>by
  rw[DT,Ei.iff]
  rcases CR.1 Z with e|Z
  ·exact .inl e
  ·exact .inr ⟨λe=>by subst e;exact(h3 _ Z).1 rfl,x,Z,List.prefix_refl _⟩
 have:=X.length_le_of_subset Y;rw[Ao]at this;omega
theorem aoE{i w:Nat}(V:w<ws.length)(h:An false ws=true):∃j x,1<=j/\ws[w]?=some x/\(AB ws)[j]?=some x/\atW ws i w=if j<i then(j:Int) else 0:=by obtain⟨x,Z⟩:∃x,ws[w]?=some x:=⟨ws[w]'V,by simp⟩;have h3:=((EI h).2.2.1 x (AX Z)).1;obtain⟨j,U,Y,X⟩:=adL Z (λe=>h3 (by rw[e];rfl));refine⟨j,x,U,Z,Y,?_⟩;unfold atW;rw[Z];dsimp only;rw[X]
theorem aeJ(h:An false ws=true):∀i,i<=(AB ws).length->Dl (AG ws) (AB ws).length i=some ((List.range (AB ws).length).map (λw=>atW ws i w),JM ws i)
 |0,_=>by
  unfold Dl;have e1:(λw=>atW ws 0 w)=λ_=>0:=by
   funext w
   unfold atW
   split<;>simp
  have e2:JM ws 0=0:=by simp[JM]
  rw[e1,e2];simp[List.map_const']
 |i+1,hi=>by
  have ih:=aeJ h i om;obtain⟨g1,_⟩:=Fv h;have a6:=(CL ws).nodup;obtain⟨x,I⟩:∃x,(AB ws)[i]?=some x:=⟨(AB ws)[i]'om,by simp⟩;have X:(AB ws).idxOf x=i:=by
   have:=List.Nodup.idxOf_getElem a6 i om
   rwa[(AP.1 I).2]at this
  unfold Dl;rw[ih,EV];have ew:(AG ws).wrd[i]?=some (CW ws x):=by simp[AG,I]
  rw[ew];dsimp only;have Y:∀y∈ws,(AB ws).idxOf y=i->y=x:=λy U e=>by
   have o:y∈AB ws:=by rw[DT,Ei.iff];exact .inr ⟨λe=>by subst e;exact((EI h).2.2.1 _ U).1 rfl,y,U,List.prefix_refl _⟩
   have h1:=List.getElem_idxOf (List.idxOf_lt_length_of_mem o);have h2:=(AP.1 I).2;rw[<-h1,<-h2];congr 1
  by_cases C:x∈ws
  ·obtain⟨w,D⟩:=DR C;have a8:=(AP.1 D).1;have a7:=OS h;have hp:=CV g1 D;have a2:x≠[]:=λe=>by subst e;exact((EI h).2.2.1 _ C).1 rfl
   have aa:i≠0:=λe=>by subst e;rw[CM]at I;exact a2 (AK I).symm
   rw[hp,Va om,Aa];have ea:atW ws i w=0:=by unfold atW;rw[D];dsimp only;rw[X,Va om]
   have eg:(((List.range (AB ws).length).map (λw=>atW ws i w))[w]?).getD 0=0:=by
    rw[BU,It om]
    simpa using ea
   rw[Va (by rw[eg];omega)];congr 1;refine Prod.ext ?_ ?_
   ·dsimp only
    apply Hn
    intro v;rw[Gr]
    by_cases e:w=v
    ·subst e;have H:w<(AB ws).length:=by omega
     have e1:atW ws (i+1) w=i:=by unfold atW;rw[D];dsimp only;rw[X,Vb om]
     simp[H,e1]
    ·rw[Va e,BU,BU]
     by_cases hv:v<(AB ws).length
     ·rw[It hv];simp only[Dw,DC];unfold atW
      cases A:ws[v]? with
      |none=>rfl
      |some y=>
       dsimp only;have V:(AB ws).idxOf y≠i:=λe2=>by have:=Y y (AX A) e2;subst this;exact e (Ln g1 D A)
       by_cases Z:(AB ws).idxOf y<i
       ·rw[Vb Z,Vb om]
       ·rw[Va Z,Va om]
     ·rw[GT (by simpa using hv)];rfl
   ·dsimp only;unfold JM;have s:∀(l:Lq),l.Nodup->x∈l->(∀y∈l,(AB ws).idxOf y=i->y=x)->(l.filter λy=>decide ((AB ws).idxOf y<i+1)).length=(l.filter λy=>decide ((AB ws).idxOf y<i)).length+1:=by
     intro l
     induction l with
     |nil=>intro _ h;cases h
     |cons y l ihl=>
      intro hn j hu;rw[List.nodup_cons]at hn
      by_cases e:y=x
      ·subst e;have N:∀z∈l,(decide ((AB ws).idxOf z<i+1))=decide ((AB ws).idxOf z<i):=λz B=>by
        have V:(AB ws).idxOf z≠i:=λe2=>by have:=hu z (by simp[B]) e2;subst this;exact hn.1 B
        rw[decide_eq_decide];omega
       rw[List.filter_cons,List.filter_cons,Vb (by rw[X];simp),Va (by rw[X];simp),Ao,List.filter_congr N]
      ·have a1:x∈l:=(CR.1 j).resolve_left (λe2=>e e2.symm);have V:(AB ws).idxOf y≠i:=λe2=>e (hu y sm e2);have J:=ihl hn.2 a1 (λz B=>hu z (by simp[B]));rw[List.filter_cons,List.filter_cons]
       by_cases Z:(AB ws).idxOf y<i
       ·rw[Vb (by simp;omega),Vb (by simpa using Z),Ao,Ao,J]
       ·rw[Va (by simp;omega),Va (by simpa using Z),J]
    rw[s ws g1 C Y];omega
  ·rw[abt C,Vb rfl];congr 1;have V:∀y∈ws,(AB ws).idxOf y≠i:=λy U e=>C (Y y U e ▸ U);refine Prod.ext ?_ ?_
   ·dsimp only
    apply OJ
    intro v _;unfold atW
    cases A:ws[v]? with
    |none=>rfl
    |some y=>
     dsimp only;have:=V y (AX A)
     by_cases Z:(AB ws).idxOf y<i
     ·rw[Vb Z,Vb om]
     ·rw[Va Z,Va om]
   ·dsimp only;have ef:(ws.filter λy=>decide ((AB ws).idxOf y<i+1))=ws.filter λy=>decide ((AB ws).idxOf y<i):=List.filter_congr (λy U=>by have:=V y U;rw[decide_eq_decide];omega);unfold JM;rw[ef]
theorem akn(h:An false ws=true):JM ws (AB ws).length=ws.length:=by
 unfold JM;rw[List.filter_eq_self.2];intro y Y;have Z:y∈AB ws:=by rw[DT,Ei.iff];exact .inr ⟨λe=>by subst e;exact((EI h).2.2.1 _ Y).1 rfl,y,Y,List.prefix_refl _⟩
 simpa using List.idxOf_lt_length_of_mem Z
theorem aeu(h:An false ws=true):∀k,k<=ws.length->Df (AB ws) ((List.range (AB ws).length).map (λw=>atW ws (AB ws).length w)) k=some (ws.take k)
 |0,_=>rfl
 |k+1,hk=>by have X:=aeu h k om;obtain⟨j,x,U,V,Z,ha⟩:=aoE (i:=(AB ws).length) (w:=k) om h;have Y:=(AP.1 Z).1;rw[Vb Y]at ha;unfold Df;rw[X,EV,BU,It (by have:=OS h;omega)];simp only[Dw,ha];rw[Va om,Aa,Z,Dw,As V]
theorem al7(h:An false ws=true):nuO (AG ws) (AB ws)=some ws:=by
 unfold nuO;have e:(AG ws).wrd.length=(AB ws).length:=by simp[AG]
 rw[e,aeJ h _ (AC _),EV];dsimp only;rw[akn h,Aa,aeu h _ (AC _),Hl]
theorem ahK(h:An false ws=true):CI (AG ws)=some (AB ws,ws):=by unfold CI;rw[agF h,EV,al7 h,EV,Vb (by rw[h,ajJ.2 rfl];rfl)]
end
theorem Fy{T:Ay}{X ws:Lq}:CI T=some (X,ws)↔An false ws=true/\T=AG ws/\X=AB ws:=by
 constructor
 ·intro h;unfold CI at h;obtain⟨V,h1,h⟩:=Io.1 h;obtain⟨Y,h2,h⟩:=Io.1 h
  split at h
  ·rename_i Z
   rw[Bq]at Z;have Z:An false Y=true/\T=AG Y:=⟨Z.1,(ajJ.1 Z.2).symm⟩
   injection h with h
   injection h with e1 e2
   subst e1 e2;refine⟨Z.1,Z.2,?_⟩;rw[Z.2,agF Z.1]at h1;exact(AK h1).symm
  ·cases h
 ·rintro⟨h1,rfl,rfl⟩;exact ahK h1
structure TV where
 ua:Option Addr
 un:Nat
 uc:Nat
 da:Option Addr
 dn:Nat
 dc:Nat
 xa:Option Addr
 xn:Nat
 xc:Nat
 ba:Option Addr
 bn:Nat
 bc:Nat
abbrev TV.cells(t:TV):Array Value:=#[slice t.ua t.un t.uc,slice t.da t.dn t.dc,slice t.xa t.xn t.xc,slice t.ba t.bn t.bc]
structure Tri(W:World)(t:TV)(T:Ay):Prop where
 up:Sl1 (int i64) W t.ua t.un T.up
 dep:Sl1 (int i64) W t.da t.dn T.dep
 wrd:Sl1 (int i64) W t.xa t.xn T.wrd
 byt:Bys W t.ba t.bn T.byt
 cap:t.un<=t.uc/\t.dn<=t.dc/\t.xn<=t.xc/\t.bn<=t.bc
theorem Tri.below{W Y:World}{t:TV}{T:Ay}(h:Tri W t T)(Z:Br W Y):Tri Y t T:=⟨h.up.below Z,h.dep.below Z,h.wrd.below Z,h.byt.below Z,h.cap⟩
theorem akv(s:Byt):Ie s=DU (toI s):=by unfold Ie DU toI;rw[List.getLast?_map]
theorem adO(s:Byt):toI s.dropLast=(toI s).dropLast:=by simp[toI,List.map_dropLast]
theorem amY{s:Byt}:toI s=[]↔s=[]:=by simp[toI]
def Hh(wss:Lq)(k:Nat)(f:Byt->Option Int):Prop:=∀s:Byt,f s=if toI s∈wss.take k then some (CW wss (toI s)) else none
theorem Hh.start(wss:Lq):Hh wss 0 (λ_=>none):=λs=>by simp
theorem Hh.step{wss:Lq}{k:Nat}{f:Byt->Option Int}{x:List Int}(h:Hh wss k f)(Y:wss.Nodup)(Z:wss[k]?=some x)(X:∀c∈x,0<=c/\c<=255):Hh wss (k+1) (λs=>if s=ofI x then some (k:Int) else f s):=λs=>by
 rw[As Z];show(if s=ofI x then some (k:Int) else f s)=_
 by_cases e:s=ofI x
 ·rw[Vb e];have e2:toI s=x:=by rw[e,Mj X]
  rw[e2,Vb sm,CV Y Z]
 ·rw[Va e,h s];have e2:toI s≠x:=λe2=>e (by rw[<-e2,ao9])
  by_cases h1:toI s∈wss.take k
  ·rw[Vb h1,Vb (by simp[h1])]
  ·rw[Va h1,Va (by simp[h1,e2])]
theorem Hh.get{wss:Lq}{f:Byt->Option Int}(h:Hh wss wss.length f)(s:Byt):(f s).getD (-1)=CW wss (toI s):=by
 rw[h s,Hl]
 by_cases e:toI s∈wss
 ·rw[Vb e];rfl
 ·rw[Va e,abt e];rfl
theorem MK.putW{base N nb Y I A m:Nat}{H v C:Byt->Option Int}{U D X B:List Int}{u d x b:Value}{W V:World}(h:MK base N nb Y I A H v U D X B u d x b W)(y:MS V Y m C)(Z:W.grownBy V (some Y)):MK base N nb Y I m H C U D X B u d x b V:=by have J:=(AD.1 h.box).1;refine⟨(Z.block N J (λe=>by injection e with e;exact h.lt.2.2.2.2.1 e)).trans h.box,h.up.kept Z (Gv h.up h.lt.2.2.1),h.dep.kept Z (Gv h.dep h.lt.2.2.1),h.wrd.kept Z (Gv h.wrd h.lt.2.2.1),h.byt.kept Z (Gv h.byt h.lt.2.2.1),h.s1,h.s2,h.s3,h.s4,h.s5,h.s6,h.nod.kept Z (λe=>by injection e with e;exact h.lt.2.2.2.2.2 e.symm),y,h.lt,AS h.sz Z.size⟩
theorem alG{nb Z:Nat}(i:Nat)(s:Byt)(h:(JL (slice none 0 0) (slice none 0 0) (slice none 0 0) (slice none 0 0) nb Z)[i]?=some (Ca s)):False:=by rcases i with _|_|_|_|_|_|i<;>simp at h
theorem NQ{α:Type}{enc:α->Value}{w:World}{base n c:Nat}{e:TypeId}{a:Option Addr}{xs:List α}(h:w.ownsRow base e 1 (slice a n c) n (xs.map enc)):Sl1 enc w a n xs:=by
 obtain⟨Y,Z,e,_,h1⟩:=Co h
 injection e with e1 e2 e3
 subst e1;exact h1
theorem alX{wss:Lq}(h:∀x∈wss,∀c∈x,0<=c/\c<=255):∀c∈(AG wss).byt,0<=c/\c<=255:=λc Y=>by
 simp only[AG,Be]at Y;obtain⟨x,X,rfl⟩:=Y;unfold DU
 cases e:x.getLast? with
 |none=>simp
 |some y=>
  have Z:=List.mem_of_getLast? e
  rcases(DT wss).1 X with h1|⟨w,V,k,_,_,h2⟩
  ·rw[h1]at Z;cases Z
  ·rw[h2]at Z;exact h w V y (EG Z)
theorem Ft(v:Value):sep (slice none 0 0) v:=λk h _=>by cases h
theorem aaY{fn:Func}{p u:Tmp}{tmps:Array Value}{W:World}{B:Nat}{x y z v:Value}(h:fn.results=#[.cell p 150,.tmp u])(Z:tmps.getD p undef=pointer (some ⟨B,0,none⟩))(hB:W.heap[B]?=some (.cells #[x,y,z,v] 150 (0,0))) :(results fn tmps).run ZP W=.ok (.tuple #[.agg #[x,y,z,v],tmps.getD u undef]) W:=by have Y:(loadVar 150 ⟨B,0,none⟩).run ZP W=.ok (.agg #[x,y,z,v]) W:=run_loadVar_row W B 150 150 #[x,y,z,v] (0,0) _ hB underlying150 rfl kr;rw[results_cell_tmp h,Z];simp[asAddr,Y,Result.andThen]
abbrev IC:Array Value:=#[slice none 0 0,slice none 0 0,slice none 0 0,slice none 0 0]
theorem amr(fold:Bool)(a:Option Addr)(Y V:Nat)(wss:Lq)(w:World)(y:Wds w a Y wss)(N:Y<=1000000)(A:∀x∈wss,x.length<=1000000)(B:(Ad fold wss).length<=1000000)(D:An fold wss=false) :Calls ZP 87 #[.agg (AM fold a Y V)] w λe w'=>e=.returned (.tuple #[.agg #[slice none 0 0,slice none 0 0,slice none 0 0,slice none 0 0],int i64 2])/\Br w w':=by
 have v:=AA D;clear D;have X:Br w ((w.alloc (.cells (AM fold a Y V) 24)).alloc (.cells (IC) 150)):=((AH _ _).alloc (AC _) _).alloc sm _;have H:=Hf (w:=w.alloc (.cells (AM fold a Y V) 24)) (n:=w.heap.size+1) sm (.cells (IC) 150);have s:=AA (aaM fold a Y V wss _ (y.below X) N A B);go_enter func87,ntmps87
 go_wp2_with fail
 refine s.out.mono ?_;rintro e Z ⟨rfl,J⟩;rw[v.out];have I:Br w Z:=X.trans (J.mono (by simp;omega));have m1:Z.heap[w.heap.size+1]?=some (.cells IC 150 (0,0)):=(J.block _ sm).trans H;have C:w.heap.size+1<Z.heap.size:=(AD.1 m1).1;clear J H;have q0:Z.cell? ⟨w.heap.size+1,0,none⟩=some (slice none 0 0):=by simp[cell?,m1]
 have q1:Z.cell? ⟨w.heap.size+1,1,none⟩=some (slice none 0 0):=by simp[cell?,m1]
 have j:Z.cell? ⟨w.heap.size+1,2,none⟩=some (slice none 0 0):=by simp[cell?,m1]
 have o:Z.cell? ⟨w.heap.size+1,3,none⟩=some (slice none 0 0):=by simp[cell?,m1]
 have f0:∀i,Z.frozen? ⟨w.heap.size+1,i,none⟩=false:=λi=>by simp[frozen?,m1]
 go_wp2;have U:=AJ (i:=3) (AJ (i:=2) (AJ (i:=1) (AJ (i:=0) m1 (slice none 0 0)) (slice none 0 0)) (slice none 0 0)) (slice none 0 0);refine Vl (aaY rfl rfl (by simpa using U)) rfl ?_;exact⟨rfl,(((I.setCell (by show w.heap.size<=w.heap.size+1;omega) _).setCell (by show w.heap.size<=w.heap.size+1;omega) _).setCell (by show w.heap.size<=w.heap.size+1;omega) _).setCell (by show w.heap.size<=w.heap.size+1;omega) _⟩
theorem afU(wss:Lq):(Ef (wss.map ofI):Int)=Ds wss:=by
 unfold Ef Ds
 induction wss with
 |nil=>rfl
 |cons x l ih=>simp only[BO,List.sum_cons]at ih⊢;rw[LK,ih];simp[ofI]
theorem abH(fold:Bool)(a:Option Addr)(N A:Nat)(wss:Lq)(w:World)(hA:Wds w a N wss)(aD:N<=1000000)(hM:∀x∈wss,x.length<=1000000)(hT:(Ad fold wss).length<=1000000)(hr:An fold wss=true) :Calls ZP 87 #[.agg (AM fold a N A)] w λe w'=>∃t:TV,e=.returned (.tuple #[.agg t.cells,int i64 0])/\Tri w' t (AG wss)/\Br w w':=by
 have HR:=AA hr;have HL:=AA hA.len;obtain⟨r1,r2,r3,r4,r5,r6⟩:=EI hr;have aA:=(Fv hr).1;obtain⟨bo,bm⟩:=NE (IY hr);have b5:Ef (wss.map ofI)<=1000000:=by have:=afU wss;omega
 have bh:=AA aA;have aI:=AA hA.bytes;have bq:=@run_makeMap ZP;have bf:=AA r3;clear hr r2 r3 r4 r5 r6 aA;have ak:Br w ((w.alloc (.cells (AM fold a N A) 24)).alloc (.cells (IC) 150)):=((AH _ _).alloc (AC _) _).alloc sm _;have n1:=Hf (w:=w.alloc (.cells (AM fold a N A) 24)) (n:=w.heap.size+1) sm (.cells (IC) 150);have n0:((w.alloc (.cells (AM fold a N A) 24)).alloc (.cells (IC) 150)).heap[w.heap.size]?=some (.cells (AM fold a N A) 24 (0,0)):=(Bg _ _ _ sm).trans (AT _ _);have HC:=AA (aaM fold a N A wss _ (hA.below ak) aD hM hT);go_enter func87,ntmps87
 go_wp2_with fail
 refine HC.out.mono ?_;rintro e U ⟨rfl,hb⟩;rw[HR.out];have am:Br w U:=ak.trans (hb.mono (by simp;omega));have m0:U.heap[w.heap.size]?=some (.cells (AM fold a N A) 24 (0,0)):=(hb.block _ (by simp;omega)).trans n0;have m1:U.heap[w.heap.size+1]?=some (.cells IC 150 (0,0)):=(hb.block _ sm).trans n1;have aw:w.heap.size+1<U.heap.size:=(AD.1 m1).1;clear hb n1 n0 ak;go_upto_region 4 with fail
 obtain⟨W4,a8⟩:∃W4,W4=((U.alloc (Obj.map #[] 0)).alloc (Obj.map #[] 0)).alloc (.cells (JL (slice none 0 0) (slice none 0 0) (slice none 0 0) (slice none 0 0) U.heap.size (U.heap.size+1)) 230):=⟨_,rfl⟩;have a1:Br U W4:=by rw[a8];exact(((AH _ _).alloc (AC _) _).alloc sm _).alloc (by simp;omega) _
 have X:MK (U.heap.size+1+1+1) (U.heap.size+1+1) U.heap.size (U.heap.size+1) 0 0 (λ_=>none) (λ_=>none) [] [] [] [] (slice none 0 0) (slice none 0 0) (slice none 0 0) (slice none 0 0) W4:=by
  rw[a8];have aC:=MQ (H:=Unit) (U.alloc (Obj.map #[] 0)) ZP 9 (plainElem ZP 3);rw[DN]at aC;exact⟨Hf sm _,BN _ _ _ _,BN _ _ _ _,BN _ _ _ _,BN _ _ _ _,Ft _,Ft _,Ft _,Ft _,Ft _,Ft _,
   ((MS.start _ (MQ U ZP 9 (plainElem ZP 3))).alloc _).alloc _,(MS.start _ aC).alloc _,⟨by omega,by omega,by omega,by omega,by omega,by omega⟩,by simp⟩
 have V:Br w W4:=am.trans (a1.mono am.size);have k0:W4.heap[w.heap.size]?=_:=(a1.block _ om).trans m0;have k1:W4.heap[w.heap.size+1]?=_:=(a1.block _ aw).trans m1;rw[<-a8];clear a8 a1 am m0 m1;obtain⟨P,hP⟩:∃P,U.heap.size=P:=⟨_,rfl⟩;rw[hP]at X aw⊢;clear hP;have s1:W4.cell? ⟨w.heap.size,1,none⟩=some (slice a N A):=by simp[cell?,k0]
 go_wp2;clear s1
 go_loopw[5,6,19] (λ_ _ aK wr=>∃(k:Nat)(fW:Byt->Option Int),k<=N/\aK=int i64 k/\Hid (Hh wss k fW)/\MK (P+1+1+1) (P+1+1) P (P+1) 0 k (λ_=>none) fW [] [] [] [] (slice none 0 0) (slice none 0 0) (slice none 0 0) (slice none 0 0) wr/\Br w wr/\wr.heap[w.heap.size]?=some (.cells (AM fold a N A) 24 (0,0))/\wr.heap[w.heap.size+1]?=some (.cells IC 150 (0,0))) (λ_ _ i _=>N-(intOf i).toNat)
 case atStart=>exact⟨0,_,AR _,rfl,Hh.start wss,X,V,k0,k1⟩
 case round=>
  clear X V k0 k1;obtain⟨k,fW,hk,rfl,HW,X,V,k0,k1⟩:=hrel
  by_cases aT:k<N
  ·obtain⟨bb,off,ax,lx,cx,x,b6,bv,b2,hx,hX,bt⟩:=(hA.below V).at_ aT;have bp:lx<=1000000:=by have:=Ff hM hx;rw[hX.len]at this;exact this
   have cv:=Gh hX cx;rw[agO]at cv;have ay:(ofI x).length<=maxLen:=by have:=hX.len;simp[ofI];unfold maxLen;omega
   have aH:=AA (HW.out.step bh.out hx (aI.out x (AX hx)));obtain⟨s,hs⟩:∃s,ofI x=s:=⟨_,rfl⟩;rw[hs]at cv ay aH;subst b6;have aS:P+1+1<wr.heap.size:=(AD.1 X.box).1;have c5:=X.cells.1.2.2.2.2.2;have aR:=X.wds;have aY:decide ((k:Int)<N)=true:=by simp;omega
   clear hx hs hX
   go_wp2_with (at_mapUpdate;refine OQ rfl _ _ _ rfl rfl aR (by unfold maxLen;omega) s k (OW om) rfl rfl ay ?_;intro J aB a6)
   have I:=X.putW aB a6;have aj:Br w J:=V.grown a6 V.size (λk e=>by cases e;omega);have j0:J.heap[w.heap.size]?=_:=(a6.block _ om (by intro e;injection e with e;omega)).trans k0;have j1:J.heap[w.heap.size+1]?=_:=(a6.block _ om (by intro e;injection e with e;omega)).trans k1
   go_roundw
   case rel=>exact⟨k+1,_,by omega,by go_num,aH,I,aj,j0,j1⟩
   case measure=>simp[intOf];omega
  ·obtain rfl:k=N:=by omega
   have aY:decide ((k:Int)<k)=false:=by simp
   have be:Hid (Hh wss wss.length fW):=by rw[Hid,HL.out];exact HW.out
   have s1:wr.cell? ⟨w.heap.size,1,none⟩=some (slice a k A):=by simp[cell?,k0]
   go_wp2_with fail
   refine(ame a k A wss wr (hA.below V) aD hM b5).mono ?_;rintro e J ⟨al,nl,cl,l,rfl,ag,hl,aN,hb⟩;have aj:Br w J:=V.trans (hb.mono V.size);have aS:P+1+1<wr.heap.size:=(AD.1 X.box).1;have I:=X.below hb;have av:wr.heap.size<=J.heap.size:=hb.size;have j1:J.heap[w.heap.size+1]?=_:=(hb.block _ om).trans k1;have az:nl=(AB wss).length:=by rw[ag,<-hl];simp
   have B:MK J.heap.size (P+1+1) P (P+1) 0 k (λ_=>none) fW ((AG wss).up.take 0) ((AG wss).dep.take 0) ((AG wss).wrd.take 0) ((AG wss).byt.take 0) (slice none 0 0) (slice none 0 0) (slice none 0 0) (slice none 0 0) J:=
    ⟨I.box,BN _ _ _ _,BN _ _ _ _,BN _ _ _ _,BN _ _ _ _,Ft _,Ft _,Ft _,Ft _,Ft _,Ft _,I.nod,I.wds,⟨by omega,by omega,by omega,by omega,by omega,by omega⟩,AC _⟩
   have ao:=AA hl;have o:=AA az;have bg:=AA ag;have aQ:nl<=400:=by omega
   obtain⟨BS,ai⟩:∃BS,J.heap.size=BS:=⟨_,rfl⟩;have bd:Hid (∀q,q<BS->q≠P+1+1->q≠P->J.heap[q]?=J.heap[q]?):=λ_ _ _ _=>rfl;rw[ai]at B av;obtain⟨_,aa⟩:=aN;obtain⟨g,off,b7,aE,a7⟩:=aa.resolve_left om;obtain⟨x0,af⟩:∃x0,l[0]?=some x0:=⟨l[0]'om,by simp⟩;have aX:g≠P+1+1:=λe=>by have h1:=a7 0 x0 af;rw[e]at h1;have h2:=B.box;simp only[cell?,h2]at h1;exact alG _ _ h1
   have aW:g≠P:=λe=>by have h1:=a7 0 x0 af;rw[e]at h1;obtain⟨D,⟨es,b9,h2,_⟩,_⟩:=B.nod;simp[cell?,h2]at h1
   have bk:=AA a7;rw[ai]at aE;subst b7;clear X I V k0 k1 hb s1 hl ag az ai bd aa a7 af;go_wp2
   go_loopw[8,34] (λ_ aJ wr=>∃(i:Nat)(fN:Byt->Option Int)(u d x b:Value),i<=nl/\aJ=int i64 i/\Hid (∀j y,j<i->l[j]?=some y->fN y=some (j:Int))/\MK BS (P+1+1) P (P+1) i k fN fW ((AG wss).up.take i) ((AG wss).dep.take i) ((AG wss).wrd.take i) ((AG wss).byt.take i) u d x b wr/\Bl (P+1+1) P BS J wr) (λ_ s _=>nl-(intOf s).toNat)
   case atStart=>exact⟨0,_,_,_,_,_,AR _,rfl,(λj y h=>by omega),B,Bl.refl _ _ _ _⟩
   case round=>
    clear B;obtain⟨i,fN,u,d,x,b,hi,rfl,HF,Y,C⟩:=hrel
    by_cases bu:i<nl
    ·obtain⟨s,hs⟩:∃s,l[i]?=some s:=⟨l[i]'(by have:=bg.out;omega),by simp⟩;have hN:(AB wss)[i]?=some (toI s):=by rw[<-ao.out,BU,hs];rfl
     have cs:wr.cell? ⟨g,off+i,none⟩=some (Ca s):=(BC (C.block g aE aX aW)).trans (bk.out i s hs);have aM:s.length<=32:=by
      have h1:=(DT wss).1 (AX hN);have h2:=Ml s
      rcases h1 with h1|⟨z,hz,q,_,h3,h4⟩
      ·rw[h1]at h2;simp at h2;omega
      ·have h5:=(bf.out z hz).2;rw[h4,Ag]at h2;omega
     obtain⟨uI,a2⟩:∃uI,CW (AB wss) (toI s).dropLast=uI:=⟨_,rfl⟩;have ar:s=[]->uI=0:=λe=>by rw[<-a2,e];exact CV (CL wss).nodup (CM wss)
     have aq:s≠[]->fN s.dropLast=some uI:=λe=>by
      obtain⟨j,hj,aU,aO⟩:=aoL hN (λe2=>e (amY.1 e2));rw[<-a2,aO];have h1:(l.map toI)[j]?=some (toI s).dropLast:=by rw[ao.out];exact aU
      rw[BU]at h1;obtain⟨y,hy,h2⟩:=Fo.1 h1;rw[<-adO]at h2;rw[<-LS h2];exact HF.out j y hj hy
     have eU:Hid ((AG wss).up.take (i+1)=(AG wss).up.take i++[uI]):=As (by simp[AG,hN,a2]);have eD:Hid ((AG wss).dep.take (i+1)=(AG wss).dep.take i++[(s.length:Int)]):=As (by simp[AG,hN,Ml]);have eX:Hid ((AG wss).wrd.take (i+1)=(AG wss).wrd.take i++[(fW s).getD (-1)]):=As (by rw[be.out.get];simp[AG,hN]);have eB:Hid ((AG wss).byt.take (i+1)=(AG wss).byt.take i++[Ie s]):=As (by rw[akv];simp[AG,hN]);have aV:i<(AB wss).length:=by have:=o.out;omega
     have lU:((AG wss).up.take i).length=i:=by rw[Ag];simp[AG];omega
     have lD:((AG wss).dep.take i).length=i:=by rw[Ag];simp[AG];omega
     have lX:((AG wss).wrd.take i).length=i:=by rw[Ag];simp[AG];omega
     have lB:((AG wss).byt.take i).length=i:=by rw[Ag];simp[AG];omega
     have bj:Hid (∀j y,j<i+1->l[j]?=some y->(if y=s then some (((AG wss).up.take i).length:Int) else fN y)=some (j:Int)):=λj y hj hy=>by
      by_cases e:j=i
      ·subst e;rw[hs]at hy;rw[Vb (AK hy).symm,lU]
      ·have aP:y≠s:=λe2=>by
        subst e2;have h1:(AB wss)[j]?=some (toI y):=by rw[<-ao.out,BU,hy];rfl
        exact e (Ln (CL wss).nodup h1 hN)
       rw[Va aP];exact HF.out j y om hy
     have ae:=AA (anN BS (P+1+1) P (P+1) i k fN fW _ _ _ _ u d x b s uI wr Y om om om om om om ar aq);have aZ:decide ((i:Int)<nl)=true:=by simp;omega
     clear Y ar aq hN hs a2 lU lD lX lB HF
     go_wp2_with fail
     refine ae.out.mono ?_;rintro e w6 ⟨rfl,u',d',x',b',aF,ac⟩;have b8:Hid (MK BS (P+1+1) P (P+1) (i+1) k (λq=>if q=s then some (((AG wss).up.take i).length:Int) else fN q) fW ((AG wss).up.take (i+1)) ((AG wss).dep.take (i+1)) ((AG wss).wrd.take (i+1)) ((AG wss).byt.take (i+1)) u' d' x' b' w6):=by rw[Hid,eU.out,eD.out,eX.out,eB.out];exact aF
     have bi:=AA (C.trans ac);clear aF ac C ae cs eU eD eX eB;go_wp2
     go_roundw
     case rel=>exact⟨i+1,_,u',d',x',b',by omega,by go_num,bj,b8.out,bi.out⟩
     case measure=>simp[intOf];omega
    ·obtain rfl:i=nl:=by omega
     have aZ:decide ((i:Int)<i)=false:=by simp
     have tU:(AG wss).up.take i=(AG wss).up:=Ap (by have:=o.out;simp[AG];omega);have tD:(AG wss).dep.take i=(AG wss).dep:=Ap (by have:=o.out;simp[AG];omega);have tX:(AG wss).wrd.take i=(AG wss).wrd:=Ap (by have:=o.out;simp[AG];omega);have tB:(AG wss).byt.take i=(AG wss).byt:=Ap (by have:=o.out;simp[AG];omega);rw[tU,tD,tX,tB]at Y;clear tU tD tX tB;have aG:Br w wr:=C.below aj om om om;have j7:wr.heap[w.heap.size+1]?=some (.cells IC 150 (0,0)):=(C.block _ om om om).trans j1;obtain⟨au,cu,rfl,b1,_⟩:=Co Y.up;obtain⟨ad,cd,rfl,b3,_⟩:=Co Y.dep;obtain⟨ax,cx,rfl,b0,_⟩:=Co Y.wrd;obtain⟨ab,cb,rfl,b4,_⟩:=Co Y.byt;obtain⟨⟨c0,c1,c2,c3,_,_⟩,_⟩:=Y.cells;have q0:wr.cell? ⟨w.heap.size+1,0,none⟩=some (slice none 0 0):=by simp[cell?,j7]
     have q1:wr.cell? ⟨w.heap.size+1,1,none⟩=some (slice none 0 0):=by simp[cell?,j7]
     have q2:wr.cell? ⟨w.heap.size+1,2,none⟩=some (slice none 0 0):=by simp[cell?,j7]
     have q3:wr.cell? ⟨w.heap.size+1,3,none⟩=some (slice none 0 0):=by simp[cell?,j7]
     have f0:∀i,wr.frozen? ⟨w.heap.size+1,i,none⟩=false:=λi=>by simp[frozen?,j7]
     have Z:w.heap.size+1<BS:=by omega
     obtain⟨vU,aL⟩:∃v,v=slice au (AG wss).up.length cu:=⟨_,rfl⟩;have rU:=λv0 v1 v2 v3=>Bm (i:=3) (Bm (i:=2) (Bm (i:=1) (Bm (i:=0) Y.up Z v0) Z v1) Z v2) Z v3;have rD:=λv0 v1 v2 v3=>Bm (i:=3) (Bm (i:=2) (Bm (i:=1) (Bm (i:=0) Y.dep Z v0) Z v1) Z v2) Z v3;have rX:=λv0 v1 v2 v3=>Bm (i:=3) (Bm (i:=2) (Bm (i:=1) (Bm (i:=0) Y.wrd Z v0) Z v1) Z v2) Z v3;have rB:=λv0 v1 v2 v3=>Bm (i:=3) (Bm (i:=2) (Bm (i:=1) (Bm (i:=0) Y.byt Z v0) Z v1) Z v2) Z v3;have HU:=AA rU;have HD:=AA rD;have HX:=AA rX;have HB:=AA rB;have ap:=AJ (i:=3) (AJ (i:=2) (AJ (i:=1) (AJ (i:=0) j7 (slice au (AG wss).up.length cu)) (slice ad (AG wss).dep.length cd)) (slice ax (AG wss).wrd.length cx)) (slice ab (AG wss).byt.length cb);have HZ:=AA ap;have bl:=AA ((((aG.setCell (p:=⟨w.heap.size+1,0,none⟩) (by show w.heap.size<=w.heap.size+1;omega) (slice au (AG wss).up.length cu)).setCell (p:=⟨w.heap.size+1,1,none⟩) (by show w.heap.size<=w.heap.size+1;omega) (slice ad (AG wss).dep.length cd)).setCell (p:=⟨w.heap.size+1,2,none⟩) (by show w.heap.size<=w.heap.size+1;omega) (slice ax (AG wss).wrd.length cx)).setCell (p:=⟨w.heap.size+1,3,none⟩) (by show w.heap.size<=w.heap.size+1;omega) (slice ab (AG wss).byt.length cb));clear Y rU rD rX rB ap aG aL vU j7 C;go_wp2;refine Vl (aaY rfl rfl (by simpa using HZ.out)) rfl ?_;refine⟨⟨au,(AG wss).up.length,cu,ad,(AG wss).dep.length,cd,ax,(AG wss).wrd.length,cx,ab,(AG wss).byt.length,cb⟩,rfl,⟨NQ (HU.out _ _ _ _),NQ (HD.out _ _ _ _),NQ (HX.out _ _ _ _),⟨NQ (HB.out _ _ _ _),alX aI.out⟩,⟨b1,b3,b0,b4⟩⟩,bl.out⟩
theorem afE(a b:Option Addr)(Y ca U cb:Nat)(l m:List Int)(w:World)(D:Sl1 (int i64) w a Y l)(hB:Sl1 (int i64) w b U m)(j:Y<=4611686018427387904) :Calls ZP 75 #[slice a Y ca,slice b U cb] w λe w'=>e=.returned (bool (decide (l=m)))/\Br w w':=by
 have s:=AA D.1;have v:=AA hB.1
 by_cases H:Y=U
 ·subst H;go_enter func75,ntmps75;go_wp2
  go_loopw[13] (λi wr=>∃k:Nat,k<=Y/\i=int i64 k/\Hid (l.take k=m.take k)/\Br w wr) (λi _=>Y-(intOf i).toNat)
  case atStart=>exact⟨0,AR _,rfl,by simp[Hid],AH _ _⟩
  case round=>
   obtain⟨k,hk,rfl,A,Z⟩:=hrel
   by_cases V:k<Y
   ·obtain⟨b1,o1,x,rfl,a2,x0,I⟩:=DG (D.below Z) V;obtain⟨b2,o2,y,rfl,a1,y0,J⟩:=DG (hB.below Z) V;have B:=AA I;have C:=AA J;clear I J;have hd:decide ((k:Int)<Y)=true:=by simp;omega
    by_cases h:x=y
    ·have X:Hid (l.take (k+1)=m.take (k+1)):=by rw[As B.out,As C.out,A.out,h];rfl
     have N:((x:Int) != y)=false:=by simp[h]
     clear h;go_wp2
     go_quiet (fail)
     go_wp2
     go_roundw
     case rel=>exact⟨k+1,by omega,by go_num,X,Z.trans ⟨rfl,rfl,rfl,AC _,λ_ _=>rfl⟩⟩
     case measure=>simp[intOf];omega
    ·have X:Hid (decide (l=m)=false):=by
      have:l≠m:=λe=>by have h1:=B.out;rw[e,C.out]at h1;exact h (AK h1).symm
      simp[Hid,this]
     have N:((x:Int) != y)=true:=by simp[h]
     clear h;go_wp2
     go_quiet (fail)
     go_wp2;go_ret;exact⟨by rw[X.out];rfl,Z.trans ⟨rfl,rfl,rfl,AC _,λ_ _=>rfl⟩⟩
   ·obtain rfl:k=Y:=by omega
    have X:Hid (decide (l=m)=true):=by have h:=A.out;rw[Ap (by rw[s.out];exact AC _),Ap (by rw[v.out];exact AC _)]at h;simp[Hid,h]
    go_wp2;go_ret;exact⟨by rw[X.out];rfl,Z⟩
 ·have X:Hid (decide (l=m)=false):=by
   have:l≠m:=λe=>H (by rw[<-s.out,<-v.out,e]);simp[Hid,this]
  have o:((Y:Int) != (U:Int))=true:=by simp;omega
  go_enter func75,ntmps75;go_wp2;go_ret;exact⟨by rw[X.out];rfl,AH _ _⟩
theorem anw(a b:Option Addr)(Y ca U cb:Nat)(l m:List Int)(w:World)(D:Sl1 (Value.int .u8) w a Y l)(hB:Sl1 (Value.int .u8) w b U m)(j:Y<=4611686018427387904) :Calls ZP 74 #[slice a Y ca,slice b U cb] w λe w'=>e=.returned (bool (decide (l=m)))/\Br w w':=by
 have s:=AA D.1;have v:=AA hB.1
 by_cases H:Y=U
 ·subst H;go_enter func74,ntmps74;go_wp2
  go_loopw[13] (λi wr=>∃k:Nat,k<=Y/\i=int i64 k/\Hid (l.take k=m.take k)/\Br w wr) (λi _=>Y-(intOf i).toNat)
  case atStart=>exact⟨0,AR _,rfl,by simp[Hid],AH _ _⟩
  case round=>
   obtain⟨k,hk,rfl,A,Z⟩:=hrel
   by_cases V:k<Y
   ·obtain⟨b1,o1,x,rfl,a2,x0,I⟩:=DG (D.below Z) V;obtain⟨b2,o2,y,rfl,a1,y0,J⟩:=DG (hB.below Z) V;have B:=AA I;have C:=AA J;clear I J;have hd:decide ((k:Int)<Y)=true:=by simp;omega
    by_cases h:x=y
    ·have X:Hid (l.take (k+1)=m.take (k+1)):=by rw[As B.out,As C.out,A.out,h];rfl
     have N:((x:Int) != y)=false:=by simp[h]
     clear h;go_wp2
     go_quiet (fail)
     go_wp2
     go_roundw
     case rel=>exact⟨k+1,by omega,by go_num,X,Z.trans ⟨rfl,rfl,rfl,AC _,λ_ _=>rfl⟩⟩
     case measure=>simp[intOf];omega
    ·have X:Hid (decide (l=m)=false):=by
      have:l≠m:=λe=>by have h1:=B.out;rw[e,C.out]at h1;exact h (AK h1).symm
      simp[Hid,this]
     have N:((x:Int) != y)=true:=by simp[h]
     clear h;go_wp2
     go_quiet (fail)
     go_wp2;go_ret;exact⟨by rw[X.out];rfl,Z.trans ⟨rfl,rfl,rfl,AC _,λ_ _=>rfl⟩⟩
   ·obtain rfl:k=Y:=by omega
    have X:Hid (decide (l=m)=true):=by have h:=A.out;rw[Ap (by rw[s.out];exact AC _),Ap (by rw[v.out];exact AC _)]at h;simp[Hid,h]
    go_wp2;go_ret;exact⟨by rw[X.out];rfl,Z⟩
 ·have X:Hid (decide (l=m)=false):=by
   have:l≠m:=λe=>H (by rw[<-s.out,<-v.out,e]);simp[Hid,this]
  have o:((Y:Int) != (U:Int))=true:=by simp;omega
  go_enter func74,ntmps74;go_wp2;go_ret;exact⟨by rw[X.out];rfl,AH _ _⟩
theorem aiD(t v:TV)(T U:Ay)(w:World)(hT:Tri w t T)(hU:Tri w v U)(X:t.un<=4611686018427387904/\t.dn<=4611686018427387904/\t.xn<=4611686018427387904/\t.bn<=4611686018427387904) :Calls ZP 278 #[.agg t.cells,.agg v.cells] w λe w'=>e=.returned (bool (eqT T U))/\Br w w':=by
 obtain⟨ua,un,uc,da,dn,dc,xa,xn,xc,ba,bn,bc⟩:=t;obtain⟨j,s,o,ea,en,ec,y,B,A,ca,cn,cc⟩:=v;dsimp only at X;obtain⟨h1,h2,h3,h4⟩:=X;have N:Br w ((w.alloc (.cells #[slice ua un uc,slice da dn dc,slice xa xn xc,slice ba bn bc] 150)).alloc (.cells #[slice j s o,slice ea en ec,slice y B A,slice ca cn cc] 150)):=((AH _ _).alloc (AC _) _).alloc sm _;have hO:Bx w.heap.size [.cells #[slice ua un uc,slice da dn dc,slice xa xn xc,slice ba bn bc] 150,.cells #[slice j s o,slice ea en ec,slice y B A,slice ca cn cc] 150] ((w.alloc (.cells #[slice ua un uc,slice da dn dc,slice xa xn xc,slice ba bn bc] 150)).alloc (.cells #[slice j s o,slice ea en ec,slice y B A,slice ca cn cc] 150)):=
  ((Bx.nil _ w).snoc _ rfl).snoc _ sm
 have C:=hT.below N;have D:=hU.below N;obtain⟨TU,TD,TX,TB⟩:=T;obtain⟨UU,UD,UX,UB⟩:=U;have HE:Hid (eqT ⟨TU,TD,TX,TB⟩ ⟨UU,UD,UX,UB⟩=(decide (TU=UU)&&decide (TD=UD)&&decide (TX=UX)&&decide (TB=UB))):=rfl;have k1:=λ(V:World)(Z:Below ((w.alloc (.cells #[slice ua un uc,slice da dn dc,slice xa xn xc,slice ba bn bc] 150)).alloc (.cells #[slice j s o,slice ea en ec,slice y B A,slice ca cn cc] 150)).heap.size _ V)=>afE ua j un uc s o TU UU V (C.up.below Z) (D.up.below Z) h1;have k2:=λ(V:World)(Z:Below ((w.alloc (.cells #[slice ua un uc,slice da dn dc,slice xa xn xc,slice ba bn bc] 150)).alloc (.cells #[slice j s o,slice ea en ec,slice y B A,slice ca cn cc] 150)).heap.size _ V)=>afE da ea dn dc en ec TD UD V (C.dep.below Z) (D.dep.below Z) h2;have k3:=λ(V:World)(Z:Below ((w.alloc (.cells #[slice ua un uc,slice da dn dc,slice xa xn xc,slice ba bn bc] 150)).alloc (.cells #[slice j s o,slice ea en ec,slice y B A,slice ca cn cc] 150)).heap.size _ V)=>afE xa y xn xc B A TX UX V (C.wrd.below Z) (D.wrd.below Z) h3;have k4:=λ(V:World)(Z:Below ((w.alloc (.cells #[slice ua un uc,slice da dn dc,slice xa xn xc,slice ba bn bc] 150)).alloc (.cells #[slice j s o,slice ea en ec,slice y B A,slice ca cn cc] 150)).heap.size _ V)=>anw ba ca bn bc cn cc TB UB V (C.byt.below Z).1 (D.byt.below Z).1 h4
 generalize decide (TU=UU)=b1 at k1 HE
 generalize decide (TD=UD)=b2 at k2 HE
 generalize decide (TX=UX)=b3 at k3 HE
 generalize decide (TB=UB)=b4 at k4 HE
 have K1:=AA k1;have K2:=AA k2;have K3:=AA k3;have K4:=AA k4;clear k1 k2 k3 k4 hT hU C D;obtain⟨W,hW⟩:∃W,W=((w.alloc (.cells #[.slice ua un uc,.slice da dn dc,.slice xa xn xc,.slice ba bn bc] 150)).alloc (.cells #[.slice j s o,.slice ea en ec,.slice y B A,.slice ca cn cc] 150)):=⟨_,rfl⟩;rw [<-hW] at N hO K1 K2 K3 K4;have cells:∀V,Below W.heap.size W V->(V.cell? ⟨w.heap.size,0,none⟩=some (.slice ua un uc)/\V.cell? ⟨w.heap.size,1,none⟩=some (.slice da dn dc)/\V.cell? ⟨w.heap.size,2,none⟩=some (.slice xa xn xc)/\V.cell? ⟨w.heap.size,3,none⟩=some (.slice ba bn bc))/\
   (V.cell? ⟨w.heap.size+1,0,none⟩=some (slice j s o)/\V.cell? ⟨w.heap.size+1,1,none⟩=some (slice ea en ec)/\V.cell? ⟨w.heap.size+1,2,none⟩=some (slice y B A)/\V.cell? ⟨w.heap.size+1,3,none⟩=some (slice ca cn cc)):=λV Z=>by
  have h:=hO.below Z;exact⟨⟨h.cell (i:=0) rfl rfl,h.cell (i:=0) rfl rfl,h.cell (i:=0) rfl rfl,h.cell (i:=0) rfl rfl⟩,⟨h.cell (i:=1) rfl rfl,h.cell (i:=1) rfl rfl,h.cell (i:=1) rfl rfl,h.cell (i:=1) rfl rfl⟩⟩
 have HC:=AA cells;clear cells hO;have a1:∀(V:World)(b:Bool),Br W V->b=eqT ⟨TU,TD,TX,TB⟩ ⟨UU,UD,UX,UB⟩->Ending.returned (bool b)=.returned (bool (eqT ⟨TU,TD,TX,TB⟩ ⟨UU,UD,UX,UB⟩))/\Br w V:=λV b Z X=>⟨by rw[X],N.trans (Z.mono N.size)⟩;have Y:=AA a1;clear a1 N;go_enter func278,ntmps278;go_upto_region 1 with fail
 rw[<-hW];clear hW;obtain⟨⟨c0,c1,c2,c3⟩,d0,d1,d2,d3⟩:=HC.out W (AH _ _)
 go_wp2_with fail
 refine(K1.out W (AH _ _)).mono ?_;rintro e w1 ⟨rfl,H⟩;clear c0 c1 c2 c3 d0 d1 d2 d3;obtain⟨⟨c0,c1,c2,c3⟩,d0,d1,d2,d3⟩:=HC.out w1 H
 cases b1 with
 |false=>
  go_wp2;go_ret;exact Y.out w1 false H (by rw[HE.out];rfl)
 |true=>
  go_wp2_with fail
  refine(K2.out w1 H).mono ?_;rintro e w2 ⟨rfl,X⟩;have I:=H.trans (X.mono H.size);clear c0 c1 c2 c3 d0 d1 d2 d3 X;obtain⟨⟨c0,c1,c2,c3⟩,d0,d1,d2,d3⟩:=HC.out w2 I
  cases b2 with
  |false=>
   go_wp2;go_ret;exact Y.out w2 false I (by rw[HE.out];rfl)
  |true=>
   go_wp2_with fail
   refine(K3.out w2 I).mono ?_;rintro e w3 ⟨rfl,X⟩;have J:=I.trans (X.mono I.size);clear c0 c1 c2 c3 d0 d1 d2 d3 X;obtain⟨⟨c0,c1,c2,c3⟩,d0,d1,d2,d3⟩:=HC.out w3 J
   cases b3 with
   |false=>
    go_wp2;go_ret;exact Y.out w3 false J (by rw[HE.out];rfl)
   |true=>
    go_wp2_with fail
    refine(K4.out w3 J).mono ?_;rintro e w4 ⟨rfl,X⟩;have a2:=J.trans (X.mono J.size);clear c0 c1 c2 c3 d0 d1 d2 d3 X;go_wp2;go_ret;exact Y.out w4 b4 a2 (by rw[HE.out];cases b4<;>rfl)
def Jh(W V:World):Prop:=W.heap.size<=V.heap.size/\∀(k:Nat)(cs:Array Value)(t:TypeId)(f:Nat×Nat),W.heap[k]?=some (Obj.cells cs t f)->V.heap[k]?=some (Obj.cells cs t f)
theorem Jh.cell{W V:World}(h:Jh W V){a:Addr}{v:Value}(Z:W.cell? a=some v):V.cell? a=some v:=by
 cases ho:W.heap[a.block]? with
 |none=>simp[cell?,ho]at Z
 |some o=>
  cases o with
  |cells cs t f=>
   rw[<-Z];exact BC ((h.2 _ _ _ _ ho).trans ho.symm)
  |_=>simp[cell?,ho]at Z
theorem Jh.sl1{α:Type}{enc:α->Value}{W V:World}(h:Jh W V){a:Option Addr}{n:Nat}{xs:List α}(Y:Sl1 enc W a n xs):Sl1 enc V a n xs:=⟨Y.1,Y.2.imp id λ⟨b,off,e,Z,U⟩=>⟨b,off,e,Af Z h.1,λi x X=>h.cell (U i x X)⟩⟩
def CF(c:Int):Bool:=decide (97<=c/\c<=122)
def inB(fold:Bool)(ws:Lq)(c:Int):Bool:=ws.any λw=>w.any λx=>decide (x=c) || (fold&&CF x&&decide (x-32=c))
def Ac(p:Int->Bool)(fold:Bool):Nat->List Int×Nat
 |0=>([],1)
 | i+1=>if p i=false then ((Ac p fold i).1++[0],(Ac p fold i).2)
  else if(fold&&CF i)=true then((Ac p fold i).1++[((Ac p fold i).1[i-32]?).getD 0],(Ac p fold i).2)
  else((Ac p fold i).1++[((Ac p fold i).2:Int)],(Ac p fold i).2+1)
theorem Kr(p:Int->Bool)(fold:Bool)(i:Nat):Ac p fold (i+1)=if p i=false then((Ac p fold i).1++[0],(Ac p fold i).2)
  else if(fold&&CF i)=true then((Ac p fold i).1++[((Ac p fold i).1[i-32]?).getD 0],(Ac p fold i).2)
  else((Ac p fold i).1++[((Ac p fold i).2:Int)],(Ac p fold i).2+1):=rfl
theorem Ij(p:Int->Bool)(fold:Bool):∀i,(Ac p fold i).1.length=i
 |0=>rfl
 |i+1=>by
  have Z:=Ij p fold i;unfold Ac
  split
  ·simp[Z]
  ·split<;>simp[Z]
theorem Hb(p:Int->Bool)(fold:Bool):∀i,1<=(Ac p fold i).2/\(Ac p fold i).2<=i+1
 |0=>⟨AC _,AC _⟩
 |i+1=>by
  have Z:=Hb p fold i;unfold Ac
  split
  ·exact⟨Z.1,by show(Ac p fold i).2<=_;omega⟩
  ·split
   ·exact⟨Z.1,by show(Ac p fold i).2<=_;omega⟩
   ·exact⟨by show 1<=(Ac p fold i).2+1;omega,by show(Ac p fold i).2+1<=_;omega⟩
theorem agz(p:Int->Bool)(fold:Bool){j:Nat}:∀{i},j<i->(Ac p fold i).1[j]?=(Ac p fold (j+1)).1[j]?
 |0,h=>absurd h (Nat.not_lt_zero _)
 |i+1,h=>by
  by_cases Y:j=i
  ·subst Y;rfl
  ·have Z:=agz p fold (j:=j) (i:=i) om;rw[<-Z];have X:=Ij p fold i
   conv=>lhs;unfold Ac
   split
   ·exact By om
   ·split
    ·exact By om
    ·exact By om
def BF(fold:Bool)(ws:Lq):List Int:=(Ac (inB fold ws) fold 256).1
def Ah(fold:Bool)(ws:Lq):Nat:=(Ac (inB fold ws) fold 256).2
theorem Jc(fold:Bool)(ws:Lq):(BF fold ws).length=256:=Ij _ _ _
theorem ajB(p:Int->Bool)(fold:Bool){j i:Nat}(h:j<i):(Ac p fold i).1[j]?=some (if p j=false then 0 else if(fold&&CF j)=true then((Ac p fold j).1[j-32]?).getD 0 else((Ac p fold j).2:Int)):=by
 rw[agz p fold h,Kr];have Z:=Ij p fold j
 split
 ·rw[DY om,Z,FG];rfl
 ·split
  ·rw[DY om,Z,FG];rfl
  ·rw[DY om,Z,FG];rfl
theorem aeW(c:Int)(w:World) :Calls ZP 218 #[.int .u8 c] w λe w'=>e=.returned (bool (CF c))/\Br w w':=by
 have Y:Hid (CF c=(decide (97<=c)&&decide (c<=122))):=by unfold Hid CF;rw[Bool.decide_and]
 by_cases h1:97<=c
 ·have Z:decide ((97:Int)<=c)=true:=by simpa using h1
  by_cases h2:c<=122
  ·have e2:decide (c<=(122:Int))=true:=by simpa using h2
   go_enter func218,ntmps218;go_wp2;go_ret;exact⟨by rw[Y.out,Z,e2];rfl,AH _ _⟩
  ·have e2:decide (c<=(122:Int))=false:=by simpa using h2
   go_enter func218,ntmps218;go_wp2;go_ret;exact⟨by rw[Y.out,Z,e2];rfl,AH _ _⟩
 ·have Z:decide ((97:Int)<=c)=false:=by simpa using h1
  go_enter func218,ntmps218;go_wp2;go_ret;exact⟨by rw[Y.out,Z];rfl,AH _ _⟩
theorem abC(c:Int)(w:World)(h:32<=c/\c<=255) :Calls ZP 220 #[.int .u8 c] w λe w'=>e=.returned (.int .u8 (c-32))/\Br w w':=by
 have Z:IntKind.u8.wrap (c-32)=c-32:=by simp[IntKind.wrap,IntKind.bits,IntKind.signed];omega
 obtain⟨d,Y⟩:∃d,c-32=d:=⟨_,rfl⟩;have X:0<=d/\d<=255:=by omega
 go_enter func220,ntmps220;go_wp2;go_ret;refine⟨?_,AH _ _⟩
 first|rfl|(simp[Z];try exact Y.symm)
def TB(W:World)(B:Nat)(l:List Bool):Prop:=W.heap[B]?=some (.cells (l.map bool).toArray 315 (0,0))/\l.length=256
theorem akp:Tryz.zeroCells315=((List.replicate 256 false).map bool).toArray:=by kernel_rfl
theorem amX:Tryz.zeroCells144=((List.replicate 256 (0:Int)).map (int i64)).toArray:=by kernel_rfl
def Eh(l:List Bool)(f:Nat->Bool):Prop:=∀c:Nat,c<256->l[c]?=some (f c)
theorem TB.cell{W:World}{B:Nat}{l:List Bool}(h:TB W B l){c:Nat}(Z:c<256):∃b,W.cell? ⟨B,c,none⟩=some (bool b)/\W.frozen? ⟨B,c,none⟩=false:=by
 obtain⟨h1,h2⟩:=h;refine⟨l[c]'om,?_,?_⟩
 ·simp[cell?,h1,show c<l.length by omega]
 ·simp[frozen?,h1]
theorem TB.lt{W:World}{B:Nat}{l:List Bool}(h:TB W B l):B<W.heap.size:=(AD.1 h.1).1
theorem TB.below{W V:World}{B:Nat}{l:List Bool}(h:TB W B l)(Z:Br W V):TB V B l:=⟨(Z.block B h.lt).trans h.1,h.2⟩
theorem TB.set{W:World}{B:Nat}{l:List Bool}(h:TB W B l)(c:Nat)(x:Bool):TB (W.setCell ⟨B,c,none⟩ (bool x)) B (l.set c x):=by refine⟨?_,by rw[BG];exact h.2⟩;rw[AJ h.1,Is];simp
theorem Eh.set{l:List Bool}{f:Nat->Bool}(h:Eh l f)(X:l.length=256){y:Nat}(Y:y<256):Eh (l.set y true) (λc=>f c || decide (y=c)):=λc Z=>by
 rw[Gr]
 by_cases e:y=c
 ·subst e;rw[Vb rfl,Vb om];simp
 ·rw[Va e,h c Z];simp[e]
theorem Eh.congr{l:List Bool}{f g:Nat->Bool}(h:Eh l f)(Y:∀c,c<256->f c=g c):Eh l g:=λc Z=>by rw[h c Z,Y c Z]
theorem Eh.all{l:List Bool}{f:Nat->Bool}(h:Eh l f)(Y:l.length=256):l=(List.range 256).map f:=by
 apply Hn
 intro i
 by_cases Z:i<256
 ·rw[h i Z,BU,It Z]
  rfl
 ·rw[GT om,GT (by simp;omega)]
def inX(fold:Bool)(x:List Int)(c:Int):Bool:=x.any λy=>decide (y=c) || (fold&&CF y&&decide (y-32=c))
theorem aki(fold:Bool)(ws:Lq)(c:Int):inB fold ws c=ws.any λx=>inX fold x c:=rfl
theorem alJ{fold:Bool}{ws:Lq}{k:Nat}{x:List Int}(Z:ws[k]?=some x)(c:Int):inB fold (ws.take (k+1)) c=(inB fold (ws.take k) c || inX fold x c):=by rw[aki,aki,As Z,List.any_append];simp
theorem ad9{fold:Bool}{x:List Int}{j:Nat}{y:Int}(Z:x[j]?=some y)(c:Int):inX fold (x.take (j+1)) c=(inX fold (x.take j) c || (decide (y=c) || (fold&&CF y&&decide (y-32=c)))):=by unfold inX;rw[As Z,List.any_append];simp
theorem Nq(n c:Nat):decide ((n:Int)=(c:Int))=decide (n=c):=decide_eq_decide.2 om
def Kl(fold:Bool)(ws:Lq):List Bool:=(List.range 256).map λc:Nat=>inB fold ws (c:Int)
theorem anE:(ZP.info? 315).map (·.size)=some 256:=by kernel_rfl
theorem aiS:(ZP.info? 144).map (·.size)=some 256:=by kernel_rfl
theorem MF{B:Nat}{v w:World}(h:RowKit.Below B v w){g:Nat}(Z:B<=g)(cs:Array Value):RowKit.Below B v (w.setRow g cs):=by refine h.trans ⟨rfl,rfl,rfl,by simp[World.setRow],λk hk=>?_⟩;unfold World.setRow;simp only[Js];rw[Va om]
theorem anC(fold:Bool)(a:Option Addr)(Y ca:Nat)(wss:Lq)(w:World)(hA:Wds w a Y wss)(aP:Y<=1000000)(hM:∀x∈wss,x.length<=1000000) :Calls ZP 217 #[.agg (AM fold a Y ca)] w λe w'=>e=.returned (.agg ((Kl fold wss).map bool).toArray)/\Br w w':=by
 have HL:=AA hA.len;have HM:=AA hM;obtain⟨W,hW⟩:∃W,W=((w.alloc (.cells (AM fold a Y ca) 24)).alloc (.cells Tryz.zeroCells315 315)).alloc (.cells Tryz.zeroCells315 315):=⟨_,rfl⟩;have hB:Br w W:=by rw[hW];exact(((AH _ _).alloc (AC _) _).alloc sm _).alloc (by simp;omega) _
 have hO:Bx w.heap.size [.cells (AM fold a Y ca) 24,.cells Tryz.zeroCells315 315,.cells Tryz.zeroCells315 315] W:=by rw[hW];exact(((Bx.nil _ w).snoc _ rfl).snoc _ sm).snoc _ sm
 have o:W.heap.size=w.heap.size+1+1+1:=by rw[hW];simp
 have h0:W.heap[w.heap.size]?=some (.cells (AM fold a Y ca) 24 (0,0)):=hO 0 _ rfl;have h1:W.heap[w.heap.size+1]?=some (.cells Tryz.zeroCells315 315 (0,0)):=hO 1 _ rfl;have hT:TB W (w.heap.size+1+1) (List.replicate 256 false):=⟨by rw[<-akp];exact hO 2 _ rfl,by simp⟩;have au:Hid (Eh (List.replicate 256 false) (λc=>inB fold (wss.take 0) (c:Int))):=λc hc=>by
  rw[Jo,Vb hc,List.take_zero]
  rfl
 have HA:=AA hA;have HB:=AA hB;have aK:=AA h0;have aJ:=AA h1;have aH:=AA o;have HT:=AA hT;have s1:W.cell? ⟨w.heap.size,1,none⟩=some (slice a Y ca):=hO.cell (i:=0) rfl rfl;clear hA hB hO h0 h1 o hT hM;go_enter func217,ntmps217;go_upto_region 2 with fail
 rw[<-hW];clear hW;go_wp2;clear s1
 go_loopw[11] (λaA wr=>∃(k:Nat)(l:List Bool),k<=Y/\aA=int i64 k/\TB wr (w.heap.size+1+1) l/\Hid (Eh l (λc=>inB fold (wss.take k) (c:Int)))/\RowKit.Below (w.heap.size+1+1) W wr) (λs _=>Y-(intOf s).toNat)
 case atStart=>exact⟨0,_,AR _,rfl,HT.out,au,Jj _ _⟩
 case round=>
  clear HT au;obtain⟨k,l,hk,rfl,U,ab,N⟩:=hrel
  by_cases aB:k<Y
  ·have hd:decide ((k:Int)<Y)=true:=by simp;omega
   have H:=HB.out.trans (N.mono om);obtain⟨b1,o1,ax,A,cx,x,rfl,aF,ai,hx,hX,aM⟩:=HA.out.at_ aB;have aO:A<=1000000:=by have:=HM.out x (AX hx);rw[hX.len]at this;exact this
   have i1:(0:Int)<=(k:Int):=by omega
   have i2:(k:Int)<(Y:Int):=by omega
   have fx:wr.cell? ⟨b1,o1+k,none⟩=some (slice ax A cx):=(H.cell (p:=⟨b1,o1+k,none⟩) aF).trans ai;have HX:=AA hx;have al:=AA hX;have a8:=AA U;have ae:=AA N;have ar:Hid (Eh l (λc=>inB fold (wss.take k) (c:Int) || inX fold (x.take 0) (c:Int))):=ab.out.congr (λc hc=>by simp[inX]);have ag:=hX.len;have aG:=AA ag;clear ai hx hX ag U N H ab;go_wp2;clear fx
   go_loopw[17] (λaz wq=>∃(j:Nat)(l:List Bool),j<=A/\az=int i64 j/\TB wq (w.heap.size+1+1) l/\Hid (Eh l (λc=>inB fold (wss.take k) (c:Int) || inX fold (x.take j) (c:Int)))/\RowKit.Below (w.heap.size+1+1) W wq) (λs _=>A-(intOf s).toNat)
   case atStart=>exact⟨0,l,AR _,rfl,a8.out,ar,ae.out⟩
   case round=>
    clear ar;obtain⟨j,l2,hj,rfl,I,ac,C⟩:=hrel
    by_cases aC:j<A
    ·have aD:decide ((j:Int)<A)=true:=by simp;omega
     have H:=HB.out.trans (C.mono om);obtain⟨b2,o2,y,rfl,aN,aE,hy⟩:=DG (al.out.1.below H) aC;have af:=al.out.2 y (AX hy);obtain⟨n,rfl⟩:=Mb af.1;have hn:n<256:=by omega
     have HY:=AA hy;obtain⟨bo,q1,q2⟩:=I.cell hn;have j1:(0:Int)<=(j:Int):=by omega
     have j2:(j:Int)<(A:Int):=by omega
     have j3:(0:Int)<=(n:Int):=by omega
     have j4:(n:Int)<256:=by omega
     have HS:=AA (ac.out.set I.2 hn);have am:=AA I;have av:=AA C;have o:=aH.out;clear hy af ac H I C;go_upto_region 9 with fail
     obtain⟨W1,D⟩:∃V,V=wr.setCell ⟨w.heap.size+1+1,n,none⟩ (bool true):=⟨_,rfl⟩;rw[<-D];have aj:TB W1 (w.heap.size+1+1) (l2.set n true):=by rw[D];exact am.out.set n true
     have a6:RowKit.Below (w.heap.size+1+1) W W1:=by rw[D];exact av.out.setCell (AC _) _
     have ak:W1.heap[w.heap.size]?=some (.cells (AM fold _ Y ca) 24 (0,0)):=(a6.block _ om).trans aK.out;have s0:W1.cell? ⟨w.heap.size,0,none⟩=some (bool fold):=by simp[cell?,ak]
     have aa:=AA aj;have ay:=AA a6;clear D aE q1 q2 ak aj a6 am av
     cases fold with
     |false=>
      have Z:Hid (Eh (l2.set n true) (λc=>inB false (wss.take k) (c:Int) || inX false (x.take (j+1)) (c:Int))):=HS.out.congr (λc hc=>by rw[ad9 HY.out,Bool.or_assoc,Nq];simp)
      go_wp2
      go_roundw
      case rel=>exact⟨j+1,_,by omega,by go_num,aa.out,Z,ay.out⟩
      case measure=>simp[intOf];omega
     |true=>
      have ap:=AA (aeW (n:Int) W1)
      go_wp2_with fail
      refine ap.out.mono ?_;rintro e W2 ⟨rfl,a2⟩;have B:=AA (aa.out.below a2);have aw:=AA (ay.out.trans (a2.mono (by have:=aa.out.lt;omega)));clear s0 a2 ap
      cases X:CF (n:Int)with
      |false=>
       have Z:Hid (Eh (l2.set n true) (λc=>inB true (wss.take k) (c:Int) || inX true (x.take (j+1)) (c:Int))):=HS.out.congr (λc hc=>by rw[ad9 HY.out,Bool.or_assoc,X,Nq];simp)
       clear X;go_wp2
       go_roundw
       case rel=>exact⟨j+1,_,by omega,by go_num,B.out,Z,aw.out⟩
       case measure=>simp[intOf];omega
      |true=>
       obtain⟨p,rfl⟩:∃p,n=p+32:=⟨n-32,by unfold CF at X;have:=Vc X;omega⟩;have hp:p<256:=by omega
       have hg:=abC ((p+32:Nat):Int) W2 om;rw[show((p+32:Nat):Int)-32=(p:Int) by omega]at hg;have HG:=AA hg;have aq:=AA (HS.out.set B.out.2 hp);have Z:Hid (Eh ((l2.set (p+32) true).set p true) (λc=>inB true (wss.take k) (c:Int) || inX true (x.take (j+1)) (c:Int))):=aq.out.congr (λc hc=>by rw[ad9 HY.out,X,show((p+32:Nat):Int)-32=(p:Int) by omega,Nq,Nq];simp only[Bool.or_assoc,FJ,Bool.and_true])
       have k3:(0:Int)<=(p:Int):=by omega
       have k4:(p:Int)<256:=by omega
       clear X hg HS aq
       go_wp2_with fail
       refine HG.out.mono ?_;rintro e W3 ⟨rfl,a1⟩;have ao:=AA (B.out.below a1);have aL:=AA (aw.out.trans (a1.mono (by have:=B.out.lt;omega)));obtain⟨aQ,r1,r2⟩:=ao.out.cell hp;clear a1 HG;go_wp2
       go_roundw
       case rel=>exact⟨j+1,_,by omega,by go_num,ao.out.set p true,Z,aL.out.setCell (AC _) _⟩
       case measure=>simp[intOf];omega
    ·obtain rfl:j=A:=by omega
     have aD:decide ((j:Int)<j)=false:=by simp
     have Z:Hid (Eh l2 (λc=>inB fold (wss.take (k+1)) (c:Int))):=ac.out.congr (λc hc=>by rw[alJ HX.out,show x.take j=x from Ap (by rw[aG.out];exact AC _)])
     go_wp2
     go_roundw
     case rel=>exact⟨k+1,_,by omega,by go_num,I,Z,C⟩
     case measure=>simp[intOf];omega
  ·obtain rfl:k=Y:=by omega
   have hd:decide ((k:Int)<k)=false:=by simp
   have Z:Hid (l=Kl fold wss):=by have h:=ab.out.all U.2;rw[Ap (by rw[HL.out];exact AC _)]at h;exact h
   have a7:wr.heap[w.heap.size+1]?=some (.cells Tryz.zeroCells315 315 (0,0)):=(N.block _ om).trans aJ.out;rw[akp]at a7;have J:((l.map bool).toArray).size=256:=by simp[U.2]
   have hi:(ZP.info? 315).map (·.size)=some ((l.map bool).toArray).size:=by rw[J];exact anE
   have H1:=AA a7;have a8:=AA U;have HI:=AA hi;have ae:=AA N;have aI:=AA J;have v:((l.map bool).toArray).all (·.oneCell')=true:=by simp[Value.oneCell']
   have HO:=AA v;clear a7 U hi N J v
   go_wp2_with (first
    |(refine wpList_load_row rfl 315 _ rfl (w.heap.size+1+1) rfl 315 _ (0,0) _ a8.out.1 underlying315 rfl HI.out ?_)
    |(refine wpList_store_row rfl 315 _ _ rfl (w.heap.size+1) _ rfl rfl 315 _ H1.out HI.out (by rw[aI.out];simp) HO.out ?_))
   refine Vl (results_cell_row rfl _ _ (w.heap.size+1) 315 _ (0,0) _ rfl (setRow_heap _ _ _ _ _ _ H1.out) underlying315 rfl HI.out) rfl ?_;rw[Z.out];exact⟨rfl,MF (HB.out.trans (ae.out.mono om)) om _⟩
section
variable {α:Type}
theorem pA(l:List α)(i:Nat)(a:α):l.toArray.setIfInBounds i a=(l.set i a).toArray:=by simp
theorem pB(a b:α)(l:List α):(a::l).set 0 b=b::l:=rfl
theorem pC(a b:α)(l:List α)(n:Nat):(a::l).set (n+1) b=a::l.set n b:=rfl
theorem pq:(∀(a:Act) (t:Tmp) (v:Value),a.put (some t) v={a with tmps:=a.tmps.setIfInBounds t v})/\(∀(a:Act) (v:Value),a.put none v=a)/\(∀(α:Type) (l:List α) (i:Nat) (a:α),l.toArray.setIfInBounds i a=(l.set i a).toArray)/\(∀(α:Type) (a b:α) (l:List α),(a::l).set 0 b=b::l)/\(∀(α:Type) (a b:α) (l:List α) (n:Nat),(a::l).set (n+1) b=a::l.set n b):=⟨fun _ _ _=>rfl,fun _ _=>rfl,fun _=>pA,fun _=>pB,fun _=>pC⟩
theorem pD(l:List α)(i:Nat):l.toArray[i]?=l[i]?:=by simp
theorem pE(a:α)(l:List α):(a::l)[0]?=some a:=rfl
theorem pF(a:α)(l:List α)(n:Nat):(a::l)[n+1]?=l[n]?:=rfl
end
section
variable {P:Program}{md:Region.Mode}{ops:Array Oper}{Q:Exit->Act->World->Prop}{S:World->Prop}
theorem tkW(i:Nat){X:Oper}{v:Value}{Y:Nat}{Z:Array Bool}{a:Act}{w:World}
  (U:∀w,S w->(execOp a.eval X).run P w=.ok (.value v) w)
  (h:wpAnyH P md ops Q S Y (Z.setIfInBounds i true) (a.put X.dst v) w)
  (I:ops[i]?=some X:=by(simp only[Dy,Iu,IP];rfl))
  (N:Region.noSelect ops=true:=by as_aux_lemma=>kernel_rfl) (H:Region.free md ops Z i=true:=by as_aux_lemma=>kernel_rfl) (J:(Region.ready md ops Z).contains i=true:=by as_aux_lemma=>kernel_rfl)
  (C:∀c a w,Q (.panic c) (a.put X.dst v) w->Q (.panic c) a w:=by exact λ_ _ _ h=>h) (V:Region.wanted X (yielded ops a.tmps)=true:=by rfl) (D:S w:=by assumption):wpAnyH P md ops Q S (Y+1) Z a w:=
 wpAnyH_take I N H J C (.inl ⟨V,U⟩) D h
theorem tkN(i:Nat){X:Oper}{Y:Nat}{Z:Array Bool}{a:Act}{w:World}
  (h:wpAnyH P md ops Q S Y (Z.setIfInBounds i true) (a.put X.dst undef) w)
  (J:ops[i]?=some X:=by(simp only[Dy,Iu,IP];rfl))
  (U:Region.noSelect ops=true:=by as_aux_lemma=>kernel_rfl) (I:Region.free md ops Z i=true:=by as_aux_lemma=>kernel_rfl) (N:(Region.ready md ops Z).contains i=true:=by as_aux_lemma=>kernel_rfl)
  (D:∀c a w,Q (.panic c) (a.put X.dst undef) w->Q (.panic c) a w:=by exact λ_ _ _ h=>h) (V:Region.wanted X (yielded ops a.tmps)=false:=by rfl) (H:S w:=by assumption):wpAnyH P md ops Q S (Y+1) Z a w:=
 wpAnyH_take J U I N D (.inr ⟨V,rfl⟩) H h
theorem tkF(c:Nat){X:Oper}{v:Value}{Y:Nat}{Z:Array Bool}{a:Act}{w:World}
  (U:∀w,S w->(execOp a.eval X).run P w=.ok (.value v) w)
  (h:wpAnyH P md ops Q S Y (Z.setIfInBounds (c-Y) true) (a.put X.dst v) w)
  (I:ops[c-Y]?=some X:=by(simp only[Nat.reduceSub,Dy,Iu,IP];rfl))
  (N:Region.noSelect ops=true:=by as_aux_lemma=>kernel_rfl) (H:Region.free md ops Z (c-Y)=true:=by as_aux_lemma=>kernel_rfl) (J:(Region.ready md ops Z).contains (c-Y)=true:=by as_aux_lemma=>kernel_rfl)
  (C:∀c a w,Q (.panic c) (a.put X.dst v) w->Q (.panic c) a w:=by exact λ_ _ _ h=>h) (V:Region.wanted X (yielded ops a.tmps)=true:=by rfl) (D:S w:=by assumption):wpAnyH P md ops Q S (Y+1) Z a w:=
 wpAnyH_take I N H J C (.inl ⟨V,U⟩) D h
theorem tkA(i:Nat){X:Oper}{v:Value}{Y:Nat}{Z:Array Bool}{a U:Act}{w:World}
  (h:wpAnyH P md ops Q S Y (Z.setIfInBounds i true) U w)
  (D:ops[i]?=some X:=by(simp only[Dy,Iu,IP];rfl))
  (J:∀w,S w->(execOp a.eval X).run P w=.ok (.value v) w:=by(intro V y;first|(go_simp;done)|(go_simp;with_reducible rfl)))
  (ha:a.put X.dst v=U:=by((try simp only[pq]);exact rfl))
  (I:Region.noSelect ops=true:=by as_aux_lemma=>kernel_rfl) (C:Region.free md ops Z i=true:=by as_aux_lemma=>kernel_rfl) (H:(Region.ready md ops Z).contains i=true:=by as_aux_lemma=>kernel_rfl)
  (A:∀c a w,Q (.panic c) (a.put X.dst v) w->Q (.panic c) a w:=by exact λ_ _ _ h=>h) (N:Region.wanted X (yielded ops a.tmps)=true:=by rfl) (B:S w:=by assumption):wpAnyH P md ops Q S (Y+1) Z a w:=
 wpAnyH_take D I C H A (.inl ⟨N,J⟩) B (ha ▸ h)
theorem tkB(i:Nat){I:World->Prop}(F:∀V,S V->I V){X:Oper}{v:Value}{Y:Nat}{Z:Array Bool}{a J:Act}{w:World}
  (h:wpAnyH P md ops Q S Y (Z.setIfInBounds i true) J w)
  (B:ops[i]?=some X:=by(simp only[Dy,Iu,IP];rfl))
  (H:∀w,S w->I w->(execOp a.eval X).run P w=.ok (.value v) w:=by(intro V o N;(repeat (obtain⟨_,N⟩:=N));first|(go_simp;done)|(go_simp;with_reducible rfl)))
  (ha:a.put X.dst v=J:=by((try simp only[pq]);exact rfl))
  (D:Region.noSelect ops=true:=by as_aux_lemma=>kernel_rfl) (A:Region.free md ops Z i=true:=by as_aux_lemma=>kernel_rfl) (C:(Region.ready md ops Z).contains i=true:=by as_aux_lemma=>kernel_rfl)
  (s:∀c a w,Q (.panic c) (a.put X.dst v) w->Q (.panic c) a w:=by exact λ_ _ _ h=>h) (U:Region.wanted X (yielded ops a.tmps)=true:=by rfl) (y:S w:=by assumption):wpAnyH P md ops Q S (Y+1) Z a w:=
 wpAnyH_take B D A C s (.inl ⟨U,λw U=>H w U (F w U)⟩) y (ha ▸ h)
theorem rdy(i:Nat){X:Oper}{Y:Nat}{Z:Array Bool}{a:Act}{w:World}
  (h:∀V:Act->World->Prop,Shut (∀a w,S w->(S w->wpAnyH P md ops Q S Y (Z.setIfInBounds i true) a w)->V a w)->if Region.wanted X (yielded ops a.tmps)=true then Oper.wp P X a w V Q else V (a.put X.dst undef) w)
  (N:ops[i]?=some X:=by(simp only[Dy,Iu,IP];rfl)) (U:Region.ready md ops Z=[i]:=by as_aux_lemma=>kernel_rfl):wpAnyH P md ops Q S (Y+1) Z a w:=
 wpAnyH_ready (rs:=[i]) U (by simp) (Aw N h Ci)
theorem apE(i j:Nat){U V:Oper}{Y:Nat}{Z:Array Bool}{a:Act}{w:World}
  (h:∀X:Act->World->Prop,Shut (∀a w,S w->(S w->wpAnyH P md ops Q S Y (Z.setIfInBounds i true) a w)->X a w)->if Region.wanted U (yielded ops a.tmps)=true then Oper.wp P U a w X Q else X (a.put U.dst undef) w)
  (g:∀X:Act->World->Prop,Shut (∀a w,S w->(S w->wpAnyH P md ops Q S Y (Z.setIfInBounds j true) a w)->X a w)->if Region.wanted V (yielded ops a.tmps)=true then Oper.wp P V a w X Q else X (a.put V.dst undef) w)
  (I:ops[i]?=some U:=by(simp only[Dy,Iu,IP];rfl)) (J:ops[j]?=some V:=by(simp only[Dy,Iu,IP];rfl)) (N:Region.ready md ops Z=[i,j]:=by as_aux_lemma=>kernel_rfl):wpAnyH P md ops Q S (Y+1) Z a w:=
 wpAnyH_ready (rs:=[i,j]) N (by simp) (Aw I h (Aw J g Ci))
end
def CB(W:World)(B:Nat)(l:List Int)(m:Int):Prop:=W.heap[B]?=some (.cells ((l++[m]).map (int i64)).toArray 284 (0,0))/\l.length=256
theorem CB.lt{W:World}{B:Nat}{l:List Int}{m:Int}(h:CB W B l m):B<W.heap.size:=(AD.1 h.1).1
theorem CB.below{W V:World}{B:Nat}{l:List Int}{m:Int}(h:CB W B l m)(Z:Br W V):CB V B l m:=⟨(Z.block B h.lt).trans h.1,h.2⟩
theorem CB.cell{W:World}{B:Nat}{l:List Int}{m:Int}(h:CB W B l m){c:Nat}(Y:c<256){v:Int}(Z:l[c]?=some v):W.cell? ⟨B,c,none⟩=some (int i64 v):=by
 obtain⟨h1,h2⟩:=h;have:(l++[m])[c]?=some v:=by rw[By om];exact Z
 simp only[cell?,h1];simp only[Array.getElem?_map,Dy,BU,this,Dw];simp
theorem CB.many{W:World}{B:Nat}{l:List Int}{m:Int}(h:CB W B l m):W.cell? ⟨B,256,none⟩=some (int i64 m):=by
 obtain⟨h1,h2⟩:=h;have:(l++[m])[256]?=some m:=by rw[<-h2];simp
 simp only[cell?,h1];simp only[Array.getElem?_map,Dy,BU,this,Dw];simp
theorem CB.frozen{W:World}{B:Nat}{l:List Int}{m:Int}(h:CB W B l m)(c:Nat):W.frozen? ⟨B,c,none⟩=false:=by simp[frozen?,h.1]
theorem CB.set{W:World}{B:Nat}{l:List Int}{m:Int}(h:CB W B l m){c:Nat}(Z:c<256)(v:Int):CB (W.setCell ⟨B,c,none⟩ (int i64 v)) B (l.set c v) m:=by refine⟨?_,by rw[BG];exact h.2⟩;rw[AJ h.1];have e:(l++[m]).set c v=l.set c v++[m]:=List.set_append_left _ _ (by rw[h.2];exact Z);rw[<-e,Is];simp
theorem CB.setm{W:World}{B:Nat}{l:List Int}{m:Int}(h:CB W B l m)(v:Int):CB (W.setCell ⟨B,256,none⟩ (int i64 v)) B l v:=by
 refine⟨?_,h.2⟩;rw[AJ h.1];have e:(l++[m]).set 256 v=l++[v]:=by rw[<-h.2];simp
 rw[<-e,Is];simp
theorem adZ(B c:Nat)(v:Int)(u:Value)(w:World)(U:c<256)(X:w.cell? ⟨B,c,none⟩=some u)(V:w.frozen? ⟨B,c,none⟩=false) :Calls ZP 219 #[pointer (some ⟨B,0,none⟩),.int .u8 (c:Int),int i64 v] w λe w'=>e=.returned (.tuple #[])/\w'=w.setCell ⟨B,c,none⟩ (int i64 v):=by
 have Y:(0:Int)<=(c:Int):=by omega
 have Z:(c:Int)<256:=by omega
 go_enter func219,ntmps219;go_wp2;refine bodyPost_end (results_none rfl _ _ _) rfl ?_;exact⟨rfl,rfl⟩
theorem adX(B c m:Nat)(l:List Int)(w:World)(I:c<256)(h:CB w B l m)(hm:m<=1000) :Calls ZP 221 #[pointer (some ⟨B,0,none⟩),.int .u8 (c:Int)] w λe w'=>e=.returned (.tuple #[])/\CB w' B (l.set c m) ((m+1:Nat):Int)/\RowKit.Below B w w':=by
  have H:=AA h;have i1:(0:Int)<=(c:Int):=by omega
  have i2:(c:Int)<256:=by omega
  have a1:c<l.length:=by rw[h.2];exact I
  obtain⟨u,j⟩:∃u,l[c]?=some u:=⟨l[c],by simp⟩;have D:=AA (h.below (AN w 1));have J:Hid (RowKit.Below B w (w.drewN 1)):=(AN w 1).mono (DP h.lt);have o:=AA (adZ B c m _ w.drew I (D.out.cell I j) (D.out.frozen c));have U:=D.out.many;clear h;go_enter func221,ntmps221;go_upto_region 0 with fail
  refine Vh ?_;refine Vg (S:=λV=>RowKit.Below B w V/\V.cell? ⟨B,256,none⟩=some (int i64 (m:Int))) kr ⟨J.out,U⟩ (λhHeld=>?_);refine tkA 0 ?_;refine tkA 1 ?_;refine tkA 2 ?_;refine tkA 3 ?_;refine tkA 4 ?_;refine tkA 5 ?_;refine tkA 6 ?_;refine tkW 7 (v:=?_) ?_ ?_;rotate_left
  ·
    intro V hV;have r0:=hV.2
    first|(go_simp;done)|(go_simp;with_reducible rfl)
  try simp only[pq]
  refine rdy 8 (λK s=>?_);go_simp
  go_at_call 219;refine o.out.mono ?_;rintro e y ⟨rfl,Y⟩
  have Z:CB y B (l.set c m) m:=by rw[Y];exact D.out.set I m
  have X:RowKit.Below B w y:=by rw[Y];exact J.out.setCell (AC _) _
  refine s.out _ _ ⟨X,Z.many⟩ (λN=>?_);clear s K hHeld N Y
  try simp only[pq]
  refine Vj kr ?_ _;refine At ?_;have q1:=Z.many;have q2:=Z.frozen 256;have C:=AA Z;have A:=AA X;clear Z X U;go_wp2;refine bodyPost_end (results_none rfl _ _ _) rfl ?_;refine⟨rfl,?_,A.out.setCell (AC _) _⟩;have h:=C.out.setm (((m+1:Nat)):Int)
  first | exact h | (have e:wrap64 ((m:Int)+1)=((m+1:Nat):Int):=by go_num
                     rw[<-e]at h;exact h)
def Ct(p:Int->Bool)(fold:Bool)(i:Nat):List Int:=(Ac p fold i).1++List.replicate (256-i) 0
theorem akL(p:Int->Bool)(fold:Bool){i:Nat}(h:i<=256):(Ct p fold i).length=256:=by unfold Ct;rw[List.length_append,Ij,CS];omega
theorem anL(p:Int->Bool)(fold:Bool){i j:Nat}(h:j<i):(Ct p fold i)[j]?=(Ac p fold i).1[j]?:=by unfold Ct;rw[By (by rw[Ij];exact h)]
theorem agP(p:Int->Bool)(fold:Bool){i:Nat}(h:i<256)(v:Int):(Ct p fold i).set i v=((Ac p fold i).1++[v])++List.replicate (256-(i+1)) 0:=by
 unfold Ct;have Z:=Ij p fold i;rw[Jm _ _ om,Z,FG,show 256-i=(256-(i+1))+1 by omega,Ip,List.set_cons_zero,CE]
 rfl
theorem ao6{p:Int->Bool}{fold:Bool}{i:Nat}(h:i<256)(Z:p i=false):Ct p fold (i+1)=Ct p fold i/\(Ac p fold (i+1)).2=(Ac p fold i).2:=by
 unfold Ct;rw[Kr,Vb Z];refine⟨?_,rfl⟩;rw[show 256-i=(256-(i+1))+1 by omega,Ip,CE]
 rfl
theorem ai6{p:Int->Bool}{fold:Bool}{i:Nat}(h:i<256)(Y:p i=true)(Z:(fold&&CF i)=true):Ct p fold (i+1)=(Ct p fold i).set i (((Ac p fold i).1[i-32]?).getD 0)/\(Ac p fold (i+1)).2=(Ac p fold i).2:=by rw[agP p fold h];unfold Ct;rw[Kr,Va (by rw[Y];decide),Vb Z];exact⟨rfl,rfl⟩
theorem ago{p:Int->Bool}{fold:Bool}{i:Nat}(h:i<256)(Y:p i=true)(Z:(fold&&CF i)=false):Ct p fold (i+1)=(Ct p fold i).set i ((Ac p fold i).2:Int)/\(Ac p fold (i+1)).2=(Ac p fold i).2+1:=by rw[agP p fold h];unfold Ct;rw[Kr,Va (by rw[Y];decide),Va (by rw[Z];decide)];exact⟨rfl,rfl⟩
theorem an6(fold:Bool)(ws:Lq){i:Nat}(h:i<256):((Kl fold ws).map bool)[i]?=some (bool (inB fold ws (i:Int))):=by
 unfold Kl;rw[BU,BU,It h]
 rfl
theorem aoK:Tryz.zeroCells284.setIfInBounds 256 (Value.int IntKind.i64 1)=((List.replicate 256 (0:Int)++[1]).map (int i64)).toArray:=by kernel_rfl
theorem af5:(ZP.info? 4).map (λi=>(i.zero,i.size,i.bytes))=some (some (bool false),1,1):=by kernel_rfl
theorem akf{L:Array Value}{i:Nat}{b:Bool}(V:i<256)(h:L[i]?=some (bool b))(w:World):Sem.run ZP (Instr.index 315 (.agg L) (int i64 (i:Int))) w=.ok (bool b) w:=by
 obtain⟨X,Z,_,Y,_⟩:=Vk af5;have e:(0:Int)<=(i:Int)/\(i:Int)<256:=by omega
 unfold Instr.index;simp only[asIntOf,IN,IM,Result.andThen_ok,run_underlying underlying315];simp[e,sizeOf,typeInfo,Z,Y,part,isAgg,run_underlying underlying4,h]
theorem afF(fold:Bool)(a:Option Addr)(j ca:Nat)(wss:Lq)(w:World)(hA:Wds w a j wss)(ax:j<=1000000)(hM:∀x∈wss,x.length<=1000000)(hT:(Ad fold wss).length<=1000000)(hr:An fold wss=true) :Calls ZP 177 #[.agg (AM fold a j ca)] w λe w'=>∃B,e=.returned (.tuple #[pointer (some ⟨B,0,none⟩),bool true])/\CB w' B (BF fold wss) (Ah fold wss:Int)/\w.heap.size<=B/\Br w w':=by
 obtain⟨W,hW⟩:∃W,W=w.alloc (.cells (AM fold a j ca) 24):=⟨_,rfl⟩;have hB:Br w W:=by rw[hW];exact AL _ _
 have hO:Bx w.heap.size [.cells (AM fold a j ca) 24] W:=by rw[hW];exact(Bx.nil _ w).snoc _ rfl
 have s0:W.cell? ⟨w.heap.size,0,none⟩=some (bool fold):=hO.cell (i:=0) rfl rfl;have s1:W.cell? ⟨w.heap.size,1,none⟩=some (slice a j ca):=hO.cell (i:=0) rfl rfl;have HC:=AA (aaM fold a j ca wss W (hA.below hB) ax hM hT);have HA:=AA (hA.below hB);have HO:=AA hO;have HM:=AA hM;have az:W.heap.size=w.heap.size+1:=by rw[hW];simp
 have aD:=AA az;rw[hr]at HC;clear hr hA hO hM az;go_enter func177,ntmps177;go_upto_region 1 with fail
 rw[<-hW];clear hW
 go_wp2_with fail
 refine HC.out.mono ?_;rintro e w1 ⟨rfl,a6⟩;clear s0 s1 HC;go_upto_region 4 with fail
 obtain⟨W2,a7⟩:∃V,V=w1.alloc (.cells (Tryz.zeroCells284.setIfInBounds 256 (Value.int IntKind.i64 1)) 284):=⟨_,rfl⟩;have af:Br w1 W2:=by rw[a7];exact AL _ _
 have I:CB W2 w1.heap.size (List.replicate 256 0) 1:=⟨by rw[a7,aoK];exact AT _ _,by simp⟩;rw[<-a7];clear a7;obtain⟨B,ao⟩:∃B,w1.heap.size=B:=⟨_,rfl⟩;have aR:W.heap.size<=B:=by rw[<-ao];exact a6.size
 have a2:=a6.trans (af.mono a6.size);rw[ao]at I⊢;clear ao af a6;have av:=AA a2;have aa:=AA I;have am:=HO.out.below a2;have s0:W2.cell? ⟨w.heap.size,0,none⟩=some (bool fold):=am.cell (i:=0) rfl rfl;have s1:W2.cell? ⟨w.heap.size,1,none⟩=some (slice a j ca):=am.cell (i:=0) rfl rfl;have HH:=AA (anC fold a j ca wss W2 (HA.out.below a2) ax HM.out);clear am I a2
 go_wp2_with fail
 refine HH.out.mono ?_;rintro e W3 ⟨rfl,al⟩;have ac:=AA (av.out.trans (al.mono av.out.size));have aF:=AA (aa.out.below al);obtain⟨L,hL⟩:∃L,((Kl fold wss).map bool).toArray=L:=⟨_,rfl⟩;have ix:Hid (∀(i:Nat),i<256->L[i]?=some (bool (inB fold wss (i:Int)))):=λi hi=>by
  rw[<-hL]
  simpa using an6 fold wss hi
 have aS:L.size=256:=by rw[<-hL];simp[Kl]
 rw[hL];clear s0 s1 HH al hL aa av;have aP:B<W3.heap.size:=aF.out.lt;go_wp2
 go_loopw[15] (λaH wr=>∃i:Nat,i<=256/\aH=int i64 i/\CB wr B (Ct (inB fold wss) fold i) ((Ac (inB fold wss) fold i).2:Int)/\RowKit.Below B W3 wr) (λs _=>256-(intOf s).toNat)
 case atStart=>exact⟨0,AR _,rfl,aF.out,Jj _ _⟩
 case round=>
  obtain⟨i,hi,rfl,y,o⟩:=hrel
  by_cases Z:i<256
  ·have hd:decide ((i:Int)<256)=true:=by simp;omega
   have i1:(0:Int)<=(i:Int):=by omega
   have i2:(i:Int)<256:=by omega
   have ai:=ix.out i Z;obtain⟨b,hb⟩:∃b,inB fold wss (i:Int)=b:=⟨_,rfl⟩;rw[hb]at ai;have ae:=λ(V:World)=>akf Z ai V;have aQ:IntKind.u8.wrap (i:Int)=(i:Int):=by simp[IntKind.wrap,IntKind.bits,IntKind.signed];omega
   have a8:=AA y;have ap:=AA o;have aA:=HO.out.below (ac.out.trans (o.mono (by have:=ac.out.size;have:=aD.out;omega)));have s0:wr.cell? ⟨w.heap.size,0,none⟩=some (bool fold):=aA.cell (i:=0) rfl rfl;have ab:=AA hb;clear y o aA ai hb
   cases b with
   |false=>
    obtain⟨U,D⟩:=ao6 (p:=inB fold wss) (fold:=fold) Z ab.out;have I:CB wr B (Ct (inB fold wss) fold (i+1)) ((Ac (inB fold wss) fold (i+1)).2:Int):=by rw[U,D];exact a8.out
    have aa:=AA I;clear U D I;go_wp2
    go_roundw
    case rel=>exact⟨i+1,by omega,by go_num,aa.out,ap.out⟩
    case measure=>simp[intOf];omega
   |true=>
    have ag:=Hb (inB fold wss) fold i
    cases fold with
    |false=>
     obtain⟨U,D⟩:=ago (p:=inB false wss) (fold:=false) Z ab.out rfl;have ho:=adX B i (Ac (inB false wss) false i).2 _ wr Z a8.out om;rw[<-U,<-D]at ho;have ar:=AA ho;clear U D ho ag
     go_wp2_with fail
     refine ar.out.mono ?_;rintro e w5 ⟨rfl,A,J⟩;have au:=AA A;clear A ae s0;go_wp2
     go_roundw
     case rel=>exact⟨i+1,by omega,by go_num,au.out,ap.out.trans J⟩
     case measure=>simp[intOf];omega
    |true=>
     have aE:=AA (aeW (i:Int) wr)
     go_wp2_with fail
     refine aE.out.mono ?_;rintro e w4 ⟨rfl,ak⟩;have aC:=a8.out.below ak;have H:=AA aC;have aG:=AA (ap.out.trans (ak.mono (by have:=a8.out.lt;omega)));clear aC ak s0 ae aE
     cases N:CF (i:Int)with
     |false=>
      obtain⟨U,D⟩:=ago (p:=inB true wss) (fold:=true) Z ab.out (by rw[N];rfl);have ho:=adX B i (Ac (inB true wss) true i).2 _ w4 Z H.out om;rw[<-U,<-D]at ho;have ar:=AA ho;clear U D ho ag N
      go_wp2_with fail
      refine ar.out.mono ?_;rintro e w5 ⟨rfl,A,J⟩;have au:=AA A;clear A;go_wp2
      go_roundw
      case rel=>exact⟨i+1,by omega,by go_num,au.out,aG.out.trans J⟩
      case measure=>simp[intOf];omega
     |true=>
      obtain⟨U,D⟩:=ai6 (p:=inB true wss) (fold:=true) Z ab.out (by rw[N];rfl);obtain⟨p,rfl⟩:∃p,i=p+32:=⟨i-32,by unfold CF at N;have:=Vc N;omega⟩;rw[Jl]at U;obtain⟨v,hv⟩:∃v,(Ac (inB true wss) true (p+32)).1[p]?=some v:=⟨(Ac (inB true wss) true (p+32)).1[p]'(by rw[Ij];omega),by simp⟩;rw[hv,CG]at U;have aw:(Ct (inB true wss) true (p+32))[p]?=some v:=by rw[anL _ _ om];exact hv
      obtain⟨u,hu⟩:∃u,(Ct (inB true wss) true (p+32))[p+32]?=some u:=⟨(Ct (inB true wss) true (p+32))[p+32]'(by rw[akL _ _ om];omega),by simp⟩;have aI:p<256:=by omega
      have kg:Hid (∀V,Br w4 V->Calls ZP 220 #[.int .u8 ((p+32:Nat):Int)] V λe w'=>e=.returned (.int .u8 (p:Int))/\Br V w'):=λV hV=>by
       have h:=abC ((p+32:Nat):Int) V om
       rwa[show((p+32:Nat):Int)-32=(p:Int) by omega]at h
      have ks:Hid (∀V,Br w4 V->Calls ZP 219 #[pointer (some ⟨B,0,none⟩),.int .u8 ((p+32:Nat):Int),int i64 v] V λe w'=>e=.returned (.tuple #[])/\w'=V.setCell ⟨B,p+32,none⟩ (int i64 v)):=λV hV=>
       adZ B (p+32) v _ V Z ((H.out.below hV).cell Z hu) ((H.out.below hV).frozen _)
      have aj:Hid (∀V,Br w4 V->V.cell? ⟨B,p,none⟩=some (int i64 v)):=λV hV=>(H.out.below hV).cell aI aw;have aK:=AA U;have aJ:=AA D;have j1:(0:Int)<=(p:Int):=by omega
      have j2:(p:Int)<256:=by omega
      have C:=H.out.lt;clear U D hv aw hu ag N;go_upto_region 11 with fail
      refine Vh ?_;refine Vg (S:=λV=>RowKit.Below B w4 V/\V.cell? ⟨B,p,none⟩=some (int i64 v)) kr ⟨(AN w4 1).mono (DP C),aj.out _ (AN w4 1)⟩ (λhHeld=>?_);refine tkA 0 ?_;refine tkA 1 ?_;refine tkA 2 ?_;refine tkA 3 ?_;refine tkA 4 ?_;refine tkA 5 ?_;refine tkA 7 ?_;refine tkA 8 ?_;refine tkA 9 ?_;refine rdy 6 (λK hK=>?_);go_simp
      go_at_call 220;refine(kg.out _ (AN w4 1)).mono ?_;rintro e w5 ⟨rfl,J⟩
      have Y:Br w4 w5:=(AN w4 1).trans J;refine hK.out _ _ ⟨Y.mono (DP C),aj.out _ Y⟩ (λX=>?_);clear hK K hHeld;have hHeld:=X;clear X J
      try simp only[pq]
      refine tkA 10 ?_;refine tkW 11 (v:=?_) ?_ ?_;rotate_left
      ·intro V hV;have r0:=hV.2
       first|(go_simp;done)|(go_simp;with_reducible rfl)
      try simp only[pq]
      refine rdy 12 (λK hK=>?_);go_simp
      go_at_call 219;refine(ks.out _ Y).mono ?_;rintro e w6 ⟨rfl,a1⟩
      have aB:CB w6 B (Ct (inB true wss) true (p+32+1)) ((Ac (inB true wss) true (p+32+1)).2:Int):=by rw[a1,aK.out,aJ.out];exact(H.out.below Y).set Z v
      have aq:RowKit.Below B w4 w6:=by rw[a1];exact(Y.mono (DP C)).setCell (AC _) _
      have ay:w6.cell? ⟨B,p,none⟩=some (int i64 v):=by rw[a1,World.cell?_setCell_other _ _ _ _ (λe=>by injection e with e1 e2;omega)];exact aj.out _ Y
      refine hK.out _ _ ⟨aq,ay⟩ (λX=>?_);clear hK K hHeld X a1 ay
      try simp only[pq]
      refine Vj kr ?_ _;refine At ?_;have aM:=AA aB;have aO:=AA (aG.out.trans aq);clear aB aq Y;go_wp2
      go_roundw
      case rel=>exact⟨p+32+1,by omega,by go_num,aM.out,aO.out⟩
      case measure=>simp[intOf];omega
  ·obtain rfl:i=256:=by omega
   have hd:decide (((256:Nat):Int)<256)=false:=by decide
   have hz:Ct (inB fold wss) fold 256=BF fold wss:=by unfold Ct BF;simp
   rw[hz]at y;have aL:=AA y;have aN:=AA o;clear hz y o;go_wp2;go_ret2;exact⟨B,rfl,aL.out,by have:=hB.size;omega,hB.trans ((ac.out.trans (aN.out.mono (by have:=ac.out.size;have:=aD.out;omega))).mono hB.size)⟩
end Go.Proofs.YtaamacoicojhnaaGreat
