/- Proofs over the given program, part 2. -/
import Derived.Test.YtaamacoicojhnaaGreatZQ1
set_option linter.unusedVariables false
set_option linter.unusedSimpArgs false
set_option maxRecDepth 100000
set_option maxHeartbeats 16000000
open Go.Proofs.Tryz
open Go.Proofs.Tryz renaming prog→ZP
open Go.World(cell? frozen?)
open Option renaming some→E,none→O
open Go.Value renaming int→R,slice→T,pointer→L,bool→i6,tuple→ta,agg→i8
open Go.IntKind renaming i64→K
open Bool renaming false→M,true→G
open Go renaming World→Wa,Value→Vk
open Go.Ending renaming returned→ra
open Go.Obj renaming cells→i7
open List renaming length→lc
namespace Go.Proofs.YtaamacoicojhnaaGreat
open Go.RowKit Go.Sort
def Fa(s:Lb×List Int)(p:Bool×Int):Lb×List Int:=
 let q:=(if p.1 then [] else s.2)++[p.2]
 (if q∈s.1 then s.1 else s.1++[q],q)
def Di(l:List (Bool×Int)):Lb×List Int:=l.foldl Fa ([[]],[])
theorem aj1(l:List (Bool×Int))(p:Bool×Int):Di (l++[p])=Fa (Di l) p:=by simp[Di,FI]
structure Rep(s:NSt)(ps:Lb)(p:List Int):Prop where
 many:s.many=ps.length
 nodup:ps.Nodup
 root:ps[0]?=some []
 closed:∀(q:List Int)(c:Int),q++[c]∈ps->q∈ps
 at_:∃n:Nat,s.node=n/\ps[n]?=some p
 down:∀(i c m:Int),s.f (i,c)=some m->∃(a b:Nat)(q:List Int),i=a/\m=b/\ps[a]?=some q/\ps[b]?=some (q++[c])
 up:∀(a b:Nat)(q:List Int)(c:Int),ps[a]?=some q->ps[b]?=some (q++[c])->s.f ((a:Int),c)=some (b:Int)
theorem Ln{Z:Lb}(h:Z.Nodup){a b:Nat}{q:List Int}(ha:Z[a]?=E q)(Y:Z[b]?=E q):a=b:=by have h1:=(AP.1 ha);have h2:=(AP.1 Y);obtain⟨U,X⟩:=h1;obtain⟨V,e2⟩:=h2;exact(List.getElem_inj h).1 (X.trans e2.symm)
theorem amv{s:NSt}{Z:Lb}{p:List Int}(h:Rep s Z p)(x:Bool×Int):Rep (IA s x) (Fa (Z,p) x).1 (Fa (Z,p) x).2:=by
 obtain⟨n0,v,A⟩:=h.at_;obtain⟨n,r,j,H,N⟩:∃(n:Nat)(r:List Int),(if x.1 then 0 else s.node)=(n:Int)/\Z[n]?=E r/\(if x.1 then [] else p)=r:=by
  cases x.1 with
  |true=>exact⟨0,[],rfl,h.root,rfl⟩
  |false=>exact⟨n0,p,v,A,rfl⟩
 have B:Fa (Z,p) x=(if r++[x.2]∈Z then Z else Z++[r++[x.2]],r++[x.2]):=by unfold Fa;simp only[N]
 rw[B]
 by_cases I:r++[x.2]∈Z
 ·obtain⟨b,Y⟩:=DR I;have hf:=h.up n b r x.2 H Y;have C:IA s x={s with node:=(b:Int)}:=aas (by rw[j];exact hf);rw[C,Lq I];exact⟨h.many,h.nodup,h.root,h.closed,⟨b,rfl,Y⟩,h.down,h.up⟩
 ·have hf:s.f ((n:Int),x.2)=O:=by
   cases e:s.f ((n:Int),x.2)with
   |none=>rfl
   |some m=>
    obtain⟨a,b,q,h1,h2,h3,h4⟩:=h.down _ _ _ e;have:n=a:=by omega
    subst this;rw[H]at h3;obtain rfl:=AK h3;exact absurd (AX h4) I
  have C:=abu (s:=s) (p:=x) (by rw[j];exact hf);rw[C,Lc I,j];have U:∀{i:Nat}{q:List Int},Z[i]?=E q->(Z++[r++[x.2]])[i]?=E q:=by intro i q J;rw[By (AP.1 J).1,J]
  have X:(Z++[r++[x.2]])[lc Z]?=E (r++[x.2]):=by simp
  refine⟨?_,?_,U h.root,?_,⟨lc Z,h.many,X⟩,?_,?_⟩
  ·simp[h.many]
  ·rw[List.nodup_append];refine⟨h.nodup,by simp,?_⟩;intro a ha b Y;simp at Y;rw[Y];exact λe=>I (e ▸ ha)
  ·intro q c N
   rcases Bf.1 N with N|N
   ·exact List.mem_append_left _ (h.closed q c N)
   ·simp at N;rw[N.1];exact List.mem_append_left _ (AX H)
  ·intro i c m J;dsimp only at J
   by_cases e:(i,c)=((n:Int),x.2)
   ·rw[Lq e]at J;simp only[Jk]at e;obtain⟨rfl,rfl⟩:=e;refine⟨n,lc Z,r,rfl,?_,U H,X⟩;rw[<-AK J,h.many]
   ·rw[Lc e]at J;obtain⟨a,b,q,h1,h2,h3,h4⟩:=h.down i c m J;exact⟨a,b,q,h1,h2,U h3,U h4⟩
  ·intro a b q c ha Y;dsimp only;rw[List.getElem?_append]at ha Y
   by_cases D:b<lc Z
   ·rw[Lq D]at Y
    by_cases V:a<lc Z
    ·rw[Lq V]at ha;rw[Lc]
     ·exact h.up a b q c ha Y
     ·intro e;simp only[Jk]at e;obtain⟨e1,rfl⟩:=e;have:a=n:=by omega
      subst this;rw[H]at ha;obtain rfl:=AK ha;exact I (AX Y)
    ·exfalso
     rw[Lc V]at ha;have h0:a-(lc Z)=0:=by have:=(AP.1 ha).1;simp at this;omega
     rw[h0]at ha;simp at ha;subst ha;exact I (h.closed _ _ (AX Y))
   ·rw[Lc D]at Y;have h0:b-(lc Z)=0:=by have:=(AP.1 Y).1;simp at this;omega
    rw[h0]at Y;simp at Y;obtain⟨h1,h2⟩:=Y;subst h1 h2
    by_cases V:a<lc Z
    ·rw[Lq V]at ha;have:=Ln h.nodup ha H;subst this;rw[Lq rfl,h.many,show b=lc Z by omega]
    ·exfalso
     rw[Lc V]at ha;have h0:a-(lc Z)=0:=by have:=(AP.1 ha).1;simp at this;omega
     rw[h0]at ha;simp at ha
theorem ajx(l:List (Bool×Int)):Rep (Ae l) (Di l).1 (Di l).2:=by
 obtain⟨n,Y⟩:∃n,lc l=n:=⟨_,rfl⟩
 induction n generalizing l with
 |zero=>
  obtain rfl:=Bz Y;refine⟨rfl,by simp[Di],rfl,?_,⟨0,rfl,rfl⟩,λi c m h=>by simp[Ae]at h,?_⟩
  ·intro q c h;simp[Di]at h
  ·intro a b q c ha X;have:=AX X;simp[Di]at this
 |succ n ih=>
  obtain⟨Z,x,rfl⟩:∃Z x,l=Z++[x]:=⟨l.dropLast,l.getLast (by intro h;simp[h]at Y),(Em _).symm⟩;rw[NV,aj1];exact amv (ih Z (by simpa using Y)) x
def OC(fold:Bool)(wss:Lb)(q:List Int):Prop:=q=[]∨∃w∈wss,q <+: AO fold w
theorem aa6:∀{j:Nat}{ys zs:List Int},j<=lc ys->(ys.take j <+: zs↔j<=Dq ys zs)
 |0,ys,zs,_=>by simp
 |j+1,[],zs,h=>by simp at h
 |j+1,y::ys,[],h=>by simp[Dq]
 |j+1,y::ys,z::zs,h=>by
  have Z:=aa6 (j:=j) (ys:=ys) (zs:=zs) (by simpa using h);rw[List.take_succ_cons,List.cons_prefix_cons];unfold Dq
  by_cases e:y=z
  ·simp[e,Z]
  ·simp[e]
theorem ana(fold:Bool)(x:List Int){j:Nat}(N:1<=j)(Z:Lb):(j:Int)<=Dk fold Z x↔∃w∈Z,j<=Dq (AO fold x) (AO fold w):=by
 obtain⟨n,V⟩:∃n,lc Z=n:=⟨_,rfl⟩
 induction n generalizing Z with
 |zero=>obtain rfl:=Bz V;simp[Dk];omega
 |succ n ih=>
  obtain⟨X,y,rfl⟩:∃X y,Z=X++[y]:=⟨Z.dropLast,Z.getLast (by intro h;simp[h]at V),(Em _).symm⟩;have h1:=ih X (by simpa using V);rw[abp]
  constructor
  ·intro h
   by_cases h2:(j:Int)<=Dk fold X x
   ·obtain⟨w,Y,U⟩:=h1.1 h2;exact⟨w,by simp[Y],U⟩
   ·exact⟨y,by simp,by omega⟩
  ·rintro⟨w,Y,U⟩
   rcases Bf.1 Y with Y|Y
   ·have:=h1.2 ⟨w,Y,U⟩;omega
   ·simp at Y;subst Y;omega
theorem akd(s:Lb×List Int)(p:Bool×Int):Fa s p=(if((if p.1=G then [] else s.2)++[p.2])∈s.1 then s.1 else s.1++[(if p.1=G then [] else s.2)++[p.2]],(if p.1=G then [] else s.2)++[p.2]):=rfl
theorem agU(ys:List Int)(Y:Nat)(V:Lb)(p:List Int)(X:∀j,1<=j->j<=lc ys->(ys.take j∈V↔j<=Y)) :∀i,i<=lc ys->∃Z,(((Dt ys).take i).foldl Fa (V,p)).1=Z/\lc Z=lc V+(i-min i Y)/\(1<=i->(((Dt ys).take i).foldl Fa (V,p)).2=ys.take i)/\
   ∀q,q∈Z↔q∈V∨∃j,1<=j/\j<=i/\q=ys.take j
 |0,_=>⟨V,by simp,by simp,by simp,λq=>by simp;intro j h1 h2;omega⟩
 |i+1,hi=>by
  obtain⟨Z,h1,h2,h3,h4⟩:=agU ys Y V p X i om;obtain⟨c,D⟩:∃c,ys[i]?=E c:=⟨ys[i]'om,by simp⟩;have B:=aja D;rw[As B,FI,List.foldl_cons,List.foldl_nil];have C:(if((i:Int)==0)=G then [] else(((Dt ys).take i).foldl Fa (V,p)).2)++[c]=ys.take (i+1):=by
   rw[As D]
   by_cases h0:i=0
   ·subst h0;simp
   ·have I:((i:Int)==0)=M:=by simp;omega
    rw[I,h3 om];simp
  have N:Fa (((Dt ys).take i).foldl Fa (V,p)) (((i:Int)==0),c)=(if ys.take (i+1)∈Z then Z else Z++[ys.take (i+1)],ys.take (i+1)):=by rw[akd];dsimp only;rw[C,h1]
  rw[N];have U:ys.take (i+1)∈Z↔i+1<=Y:=by
   rw[h4,X (i+1) om hi]
   constructor
   ·rintro(h|⟨j,hj1,hj2,e⟩)
    ·exact h
    ·have:=congrArg List.length e;simp at this;omega
   ·exact λh=>.inl h
  by_cases J:ys.take (i+1)∈Z
  ·have ho:=U.1 J;refine⟨Z,by simp[J],by rw[h2];omega,λ_=>rfl,λq=>?_⟩;rw[h4]
   constructor
   ·rintro(h|⟨j,hj1,hj2,e⟩)
    ·exact .inl h
    ·exact .inr ⟨j,hj1,by omega,e⟩
   ·rintro(h|⟨j,hj1,hj2,e⟩)
    ·exact .inl h
    ·by_cases H:j=i+1
     ·subst H;rw[e];exact .inl ((X _ hj1 hi).2 ho)
     ·exact .inr ⟨j,hj1,by omega,e⟩
  ·have ho:¬i+1<=Y:=λh=>J (U.2 h);refine⟨Z++[ys.take (i+1)],by simp[J],by rw[List.length_append,h2];simp;omega,λ_=>rfl,λq=>?_⟩;rw[Bf,h4]
   constructor
   ·rintro((h|⟨j,hj1,hj2,e⟩)|h)
    ·exact .inl h
    ·exact .inr ⟨j,hj1,by omega,e⟩
    ·exact .inr ⟨i+1,by omega,by omega,by simpa using h⟩
   ·rintro(h|⟨j,hj1,hj2,e⟩)
    ·exact .inl (.inl h)
    ·by_cases H:j=i+1
     ·subst H;exact .inr (by simp[e])
     ·exact .inl (.inr ⟨j,hj1,by omega,e⟩)
theorem count_eq(fold:Bool)(wss:Lb):((Di (Ad fold wss)).1.length:Int)=Cl fold wss/\∀q,q∈(Di (Ad fold wss)).1↔OC fold wss q:=by
 obtain⟨n,J⟩:∃n,lc wss=n:=⟨_,rfl⟩
 induction n generalizing wss with
 |zero=>
  obtain rfl:=Bz J;refine⟨rfl,λq=>?_⟩;simp[Ad,Di,OC]
 |succ n ih=>
  obtain⟨Z,x,rfl⟩:∃Z x,wss=Z++[x]:=⟨wss.dropLast,wss.getLast (by intro h;simp[h]at J),(Em _).symm⟩;obtain⟨h1,h2⟩:=ih Z (by simpa using J);have I:=afp fold x Z;have U:∀j,1<=j->j<=(AO fold x).length->((AO fold x).take j∈(Di (Ad fold Z)).1↔j<=(Dk fold Z x).toNat):=by
   intro j N X;rw[h2];have B:j<=(Dk fold Z x).toNat↔(j:Int)<=Dk fold Z x:=by omega
   rw[B,ana fold x N]
   constructor
   ·rintro(h|⟨w,Y,h⟩)
    ·have:=congrArg List.length h;rw[Ag,Bw]at this;omega
    ·exact⟨w,Y,(aa6 X).1 h⟩
   ·rintro⟨w,Y,h⟩;exact .inr ⟨w,Y,(aa6 X).2 h⟩
  obtain⟨A,C,D,v,H⟩:=agU (AO fold x) (Dk fold Z x).toNat (Di (Ad fold Z)).1 (Di (Ad fold Z)).2 U (AO fold x).length (AC _);have V:Di (Ad fold (Z++[x]))=((Dt (AO fold x)).take (AO fold x).length).foldl Fa ((Di (Ad fold Z)).1,(Di (Ad fold Z)).2):=by rw[abQ,Ap (by rw[Ks];exact AC _)];unfold Di;rw[FI]
  rw[V,C];refine⟨?_,λq=>?_⟩
  ·rw[aar,D,Ew,<-h1];omega
  ·rw[H,h2];unfold OC
   constructor
   ·rintro((h|⟨w,Y,h⟩)|⟨j,N,X,rfl⟩)
    ·exact .inl h
    ·exact .inr ⟨w,by simp[Y],h⟩
    ·exact .inr ⟨x,by simp,List.take_prefix _ _⟩
   ·rintro(h|⟨w,Y,h⟩)
    ·exact .inl (.inl h)
    ·rcases Bf.1 Y with Y|Y
     ·exact .inl (.inr ⟨w,Y,h⟩)
     ·simp at Y;subst Y
      by_cases h0:q=[]
      ·exact .inl (.inl h0)
      ·refine .inr ⟨lc q,?_,h.length_le,List.prefix_iff_eq_take.1 h⟩;exact apG.2 h0
theorem amE(fold:Bool)(wss:Lb):(Ae (Ad fold wss)).many=Cl fold wss:=by rw[(ajx (Ad fold wss)).many,(count_eq fold wss).1]
def Ds(wss:Lb):Int:=(wss.map λw=>(lc w:Int)).sum
theorem aeX(l:Lb)(x:List Int):Ds (l++[x])=Ds l+lc x:=by simp[Ds]
theorem akB:∀(l:Lb),(∀x∈l,lc x<=1000000)->0<=Ds l/\Ds l<=lc l*1000000
 |[],_=>by simp[Ds]
 |x::l,h=>by have h1:=akB l (λy Z=>h y (by simp[Z]));have h2:=h x sm;simp only[Ds,BO,List.sum_cons,Ao]at h1⊢;omega
def DL(fold:Bool)(wss:Lb):Int:=
 if lc wss=0 then 50 else if lc wss > 64 then 51 else if(∃x∈wss,lc x=0) then 52 else if(∃x∈wss,lc x > 32) then 53 else if Ds wss > 600 then 54 else if Cl fold wss > 400 then 55 else 0
theorem acJ(fold:Bool)(a:Option Addr)(J ca:Nat)(wss:Lb)(w:Wa)(hA:Wds w a J wss)(ab:J<=1000000)(hM:∀x∈wss,lc x<=1000000) :Calls ZP 122 #[i6 fold,T a J ca] w λe w'=>e=ra (R K (DL fold wss))/\La w w':=by
 have B:=AA hA.len;have HM:=AA hM;obtain⟨Gf,hG⟩:∃Gf,DL fold wss=Gf:=⟨_,rfl⟩;have HG:Hid (DL fold wss=Gf):=hG;rw[hG];clear hG hM
 by_cases h0:J=0
 ·have U:Hid (Gf=50):=by rw[Hid,<-HG.out,DL,Lq (by rw[B.out,h0])]
  go_enter func122,ntmps122;go_wp2;go_ret;exact⟨by rw[U.out];rfl,AH _ _⟩
 ·by_cases a6:64<J
  ·have U:Hid (Gf=51):=by rw[Hid,<-HG.out,DL,Lc (by rw[B.out];exact h0),Lq (by rw[B.out];exact a6)]
   go_enter func122,ntmps122;go_wp2;go_ret;exact⟨by rw[U.out];rfl,AH _ _⟩
  ·have a1:Hid (Gf=if(∃x∈wss,lc x=0) then 52 else if(∃x∈wss,lc x > 32) then 53 else if Ds wss > 600 then 54 else if Cl fold wss > 400 then 55 else 0):=by
    rw[Hid,<-HG.out,DL,Lc (by rw[B.out];exact h0),Lc (by rw[B.out];exact a6)]
   go_enter func122,ntmps122;go_wp2
   go_loop[6] (λi=>∃k:Nat,k<=J/\i=R K k/\Hid (∀x∈wss.take k,lc x≠0)) (λi=>J-(intOf i).toNat)
   case atStart=>exact⟨0,AR _,rfl,λx X=>by simp at X⟩
   case round=>
    obtain⟨k,hk,rfl,HK⟩:=hrel
    by_cases a8:k<J
    ·obtain⟨bb,off,a',l,c,x,rfl,ae,D,X,hX,aa⟩:=hA.at_ a8;have HX:=AA X;have V:=AA hX.len;clear X hX
     by_cases a2:l=0
     ·have U:Hid (Gf=52):=by rw[Hid,a1.out,Lq ⟨x,AX HX.out,by rw[V.out,a2]⟩]
      go_wp2;go_ret;exact⟨by rw[U.out];rfl,AH _ _⟩
     ·have af:Hid (∀x∈wss.take (k+1),lc x≠0):=by
       rw[As HX.out];intro y Z
       rcases Bf.1 Z with Z|Z
       ·exact HK.out y Z
       ·simp at Z;rw[Z,V.out];exact a2
      go_wp2
      go_round
      case rel=>exact⟨k+1,by omega,by go_num,af⟩
      case measure=>simp[intOf];omega
    ·obtain rfl:k=J:=by omega
     have ag:Hid (∀x∈wss,lc x≠0):=by
      have h:=HK.out
      rwa[Ap (by rw[B.out];exact AC _)]at h
     have v:Hid (Gf=if(∃x∈wss,lc x > 32) then 53 else if Ds wss > 600 then 54 else if Cl fold wss > 400 then 55 else 0):=by rw[Hid,a1.out,Lc (by rintro⟨x,X,h⟩;exact ag.out x X h)]
     clear a1 HK;go_wp2
     go_loop[5,7] (λs i=>∃(j:Nat)(n:Int),j<=k/\i=R K j/\s=R K n/\Hid (n=Ds (wss.take j))/\Hid (∀x∈wss.take j,¬(lc x) > 32)) (λ_ i=>k-(intOf i).toNat)
     case atStart=>exact⟨0,0,AR _,rfl,rfl,by simp[Hid,Ds],λx X=>by simp at X⟩
     case round=>
      obtain⟨j,n,hj,rfl,rfl,C,HJ⟩:=hrel;have H:=akB (wss.take j) (λy Z=>HM.out y (EG Z));rw[<-C.out]at H;have a7:((wss.take j).length:Int)<=64:=by have:=MU j wss;omega
      have al:=H.1;have ak:n<=64000000:=by omega
      clear H a7
      by_cases ac:j<k
      ·obtain⟨bb,off,a',l,c,x,rfl,ae,D,X,hX,aa⟩:=hA.at_ ac;have aj:l<=1000000:=by have:=Ff HM.out X;rw[hX.len]at this;exact this
       have HX:=AA X;have V:=AA hX.len;clear X hX
       by_cases I:32<l
       ·have U:Hid (Gf=53):=by rw[Hid,v.out,Lq ⟨x,AX HX.out,by rw[V.out];exact I⟩]
        go_wp2;go_ret;exact⟨by rw[U.out];rfl,AH _ _⟩
       ·have ai:Hid (∀x∈wss.take (j+1),¬(lc x) > 32):=by
         rw[As HX.out];intro y Z
         rcases Bf.1 Z with Z|Z
         ·exact HJ.out y Z
         ·simp at Z;rw[Z,V.out];exact I
        have HS:Hid (n+(l:Int)=Ds (wss.take (j+1))):=by rw[Hid,As HX.out,aeX,V.out,C.out]
        go_wp2
        go_round
        case rel=>exact⟨j+1,_,by omega,by go_num,rfl,HS,ai⟩
        case measure=>simp[intOf];omega
      ·obtain rfl:j=k:=by omega
       have Y:wss.take j=wss:=Ap (by rw[B.out];exact AC _);have A:Hid (Gf=if n > 600 then 54 else if Cl fold wss > 400 then 55 else 0):=by have h2:=C.out;rw[Y]at h2;rw[Hid,v.out,Lc (by rintro⟨x,X,h⟩;exact HJ.out x (by rw[Y];exact X) h),h2]
       clear Y v C HJ
       by_cases h6:600<n
       ·have U:Hid (Gf=54):=by rw[Hid,A.out,Lq h6]
        go_wp2;go_ret;exact⟨by rw[U.out];rfl,AH _ _⟩
       ·go_wp2_with fail
        refine(ahl fold a j ca wss w hA ab HM.out).mono ?_;rintro e w1 ⟨rfl,hb⟩;obtain⟨N,hN⟩:∃N,Cl fold wss=N:=⟨_,rfl⟩;rw[hN];have C:Hid (Cl fold wss=N):=hN;clear hN
        by_cases h4:400<N
        ·have U:Hid (Gf=55):=by rw[Hid,A.out,Lc om,C.out,Lq h4]
         go_wp2;go_ret;exact⟨by rw[U.out];rfl,hb⟩
        ·have U:Hid (Gf=0):=by rw[Hid,A.out,Lc om,C.out,Lc om]
         go_wp2;go_ret;exact⟨by rw[U.out];rfl,hb⟩
theorem ahh(f g:Bool)(a b:Option Addr)(Y D I H:Nat)(wss Z:Lb)(w:Wa)(hA:Wds w a Y wss)(hB:Wds w b I Z)(ak:Y<=1000000) :Calls ZP 80 #[i8 (AM f a Y D),i8 (AM g b I H)] w λe w'=>e=ra (i6 (DH f g wss Z))/\La w w':=by
 obtain⟨W,hW⟩:∃W,W=(w.alloc (i7 (AM f a Y D) 24)).alloc (i7 (AM g b I H) 24):=⟨_,rfl⟩;have V:La w ((w.alloc (i7 (AM f a Y D) 24)).alloc (i7 (AM g b I H) 24)):=((AH _ _).alloc (AC _) _).alloc sm _;have HA:=AA hA.len;have HB:=AA hB.len
 by_cases J:f=g
 ·subst J
  by_cases hl:Y=I
  ·subst hl;have a8:W.heap[w.heap.size]?=E (i7 (AM f a Y D) 24 (0,0)):=by
    rw[hW];exact(Bg _ _ _ sm).trans (AT _ _)
   have a7:W.heap[w.heap.size+1]?=E (i7 (AM f b Y H) 24 (0,0)):=by
    rw[hW];have:=AT (w.alloc (i7 (AM f a Y D) 24)) (i7 (AM f b Y H) 24)
    rwa[DN]at this
   have ac:Wds W a Y wss:=by rw[hW];exact hA.below V
   have ab:Wds W b Y Z:=by rw[hW];exact hB.below V
   have v:La w W:=by rw[hW];exact V
   have hz:W.heap.size=w.heap.size+2:=by rw[hW];simp
   have ae:=AA hW;clear hA hB hW;go_enter func80,ntmps80;go_wp2;rw[<-ae.out]
   go_loopw[5] (λi wr=>∃k:Nat,k<=Y/\i=R K k/\Hid (wss.take k=Z.take k)/\La W wr) (λi _=>Y-(intOf i).toNat)
   case atStart=>exact⟨0,AR _,rfl,by simp[Hid],AH _ _⟩
   case round=>
    obtain⟨k,hk,rfl,HK,X⟩:=hrel;have hw:La w wr:=v.trans (X.mono v.size);have h1:wr.heap[w.heap.size]?=_:=(X.block _ om).trans a8;have h2:wr.heap[w.heap.size+1]?=_:=(X.block _ om).trans a7;have c1:wr.cell? ⟨w.heap.size,1,O⟩=E (T a Y D):=by simp[cell?,h1]
    have c2:wr.cell? ⟨w.heap.size+1,1,O⟩=E (T b Y H):=by simp[cell?,h2]
    have aa:∀n,La W (wr.drewN n):=λn=>X.trans ⟨rfl,rfl,rfl,AC _,λ_ _=>rfl⟩;have j:∀n,La w (wr.drewN n):=λn=>hw.trans ⟨rfl,rfl,rfl,AC _,λ_ _=>rfl⟩
    by_cases C:k<Y
    ·obtain⟨bb,off,a',l,c,x,rfl,al,a6,hx,hX,aj⟩:=(ac.below X).at_ C;obtain⟨am,af,a2,l2,c2,y,rfl,ai,s,hy,hY,ag⟩:=(ab.below X).at_ C;have hd:∀n,La wr (wr.drewN n):=λn=>⟨rfl,rfl,rfl,AC _,λ_ _=>rfl⟩;have A:∀n,Bys (wr.drewN n) a' l x:=λn=>hX.below (hd n);have B:∀n,Bys (wr.drewN n) a2 l2 y:=λn=>hY.below (hd n);have v1:∀n cap,Sem.run ZP (convert 32 9 (T a' l cap)) (wr.drewN n)=.ok (.string (strOfNums x)) (wr.drewN n):=λn cap=>Gh (A n) cap;have v2:∀n cap,Sem.run ZP (convert 32 9 (T a2 l2 cap)) (wr.drewN n)=.ok (.string (strOfNums y)) (wr.drewN n):=λn cap=>Gh (B n) cap;have N:=Ms hX.2 hY.2;have HX:=AA hx;have HY:=AA hy;clear hx hy hX hY A B hd
     by_cases h:x=y
     ·rw[Vb h]at N;have U:Hid (wss.take (k+1)=Z.take (k+1)):=by rw[As HX.out,As HY.out,HK.out,h];rfl
      clear h;go_wp2
      go_quiet (fail)
      go_wp2
      go_roundw
      case rel=>exact⟨k+1,by omega,by go_num,U,aa _⟩
      case measure=>simp[intOf];omega
     ·rw[decide_eq_false h]at N;have U:Hid (DH f f wss Z=M):=by
       have:wss≠Z:=λe=>by have h1:=HX.out;rw[e,HY.out]at h1;exact h (AK h1).symm
       simp[Hid,DH,this]
      clear h;go_wp2
      go_quiet (fail)
      go_wp2;go_ret;exact⟨by rw[U.out];rfl,j _⟩
    ·obtain rfl:k=Y:=by omega
     have U:Hid (DH f f wss Z=G):=by have h:=HK.out;rw[Ap (by rw[HA.out];exact AC _),Ap (by rw[HB.out];exact AC _)]at h;simp[Hid,DH,h]
     go_wp2;go_ret;exact⟨by rw[U.out];rfl,hw⟩
  ·have U:Hid (DH f f wss Z=M):=Mz (.inr (by rw[HA.out,HB.out];exact hl));have a1:((Y:Int) != (I:Int))=G:=by simp;omega
   clear hW;go_enter func80,ntmps80;go_wp2
   all_goals
    go_ret;exact⟨by rw[U.out];rfl,V⟩
 ·have U:Hid (DH f g wss Z=M):=Mz (.inl J);have a1:(f != g)=G:=by simp[J]
  clear hW;go_enter func80,ntmps80;go_wp2
  all_goals
   go_ret;exact⟨by rw[U.out];rfl,V⟩
theorem akZ(fold:Bool)(a:Option Addr)(X D:Nat)(wss:Lb)(w:Wa)(A:Wds w a X wss)(N:X<=1000000)(B:∀x∈wss,lc x<=1000000)(C:DL fold wss≠0) :Calls ZP 79 #[i6 fold,T a X D] w λe w'=>e=ra (ta #[i8 (AM M O 0 0),R K (DL fold wss)])/\La w w':=by
 have I:=A.below ((AH _ _).alloc (AC _) (i7 (AM M O 0 0) 24));obtain⟨n,U⟩:∃n,DL fold wss=n:=⟨_,rfl⟩;have v:Hid (DL fold wss=n):=U;rw[U]at C⊢;clear U;go_enter func79,ntmps79
 go_wp2_with fail
 refine(acJ fold a X D wss _ I N B).mono ?_;rintro e Z ⟨rfl,H⟩;rw[v.out];have Y:Z.heap[w.heap.size]?=E (i7 (AM M O 0 0) 24 (0,0)):=(H.block _ sm).trans (AT _ _);have J:La w Z:=((AH _ _).alloc (AC _) _).trans (H.mono sm);have z0:Z.cell? ⟨w.heap.size,0,O⟩=E (i6 M):=by simp[cell?,Y]
 have s:Z.cell? ⟨w.heap.size,1,O⟩=E (T O 0 0):=by simp[cell?,Y]
 have y0:Z.frozen? ⟨w.heap.size,0,O⟩=M:=by simp[frozen?,Y]
 have j:Z.frozen? ⟨w.heap.size,1,O⟩=M:=by simp[frozen?,Y]
 go_wp2;have V:=AJ (i:=1) (AJ (i:=0) Y (i6 M)) (T O 0 0);refine Vi (NH rfl rfl (by simpa using V)) rfl ?_;exact⟨rfl,(J.setCell (AC _) _).setCell (AC _) _⟩
theorem aoo(fold:Bool)(a:Option Addr)(Y N:Nat)(xs:List Int)(w:Wa)(U:Bys w a Y xs)(V:Y<=1000000) :Calls ZP 124 #[i6 fold,T a Y N] w λe w'=>∃X c1,e=ra (T X Y c1)/\Ch w' w.heap.size (T X Y c1) Y (AO fold xs)/\La w w':=
 (ags fold a Y N xs w U V).mono λe w' ⟨v,J,Z,I⟩=>by obtain⟨X,c1,rfl,_,h⟩:=KL Z (MD U.2);exact⟨X,c1,J,Z,I⟩
theorem aiA(fold:Bool)(a:Option Addr)(la ca:Nat)(wss:Lb)(w:Wa)(hA:Wds w a la wss)(ar:la<=1000000)(hM:∀x∈wss,lc x<=1000000)(hc:DL fold wss=0) :Calls ZP 79 #[i6 fold,T a la ca] w λe w'=>∃v,e=ra (ta #[i8 #[i6 fold,v],R K 0])/\BI w' w.heap.size v (AZ fold wss)/\La w w':=by
  have aH:=hA.below ((AH _ _).alloc (AC _) (i7 (AM M O 0 0) 24));have HN:Hid (DL fold wss=0):=hc;have HL:=AA hA.len;clear hc;go_enter func79,ntmps79
  go_wp2_with fail
  refine(acJ fold a la ca wss _ aH ar hM).mono ?_;rintro e Z ⟨rfl,hb⟩;rw[HN.out];have hz:Z.heap[w.heap.size]?=E (i7 (AM M O 0 0) 24 (0,0)):=(hb.block _ sm).trans (AT _ _);have aG:La w Z:=((AH _ _).alloc (AC _) _).trans (hb.mono sm);have ak:w.heap.size<Z.heap.size:=(AD.1 hz).1;go_wp2
  go_loopw[8] (λi wr=>∃(k:Nat)(v:Vk),k<=la/\i=R K k/\La w wr/\wr.heap[w.heap.size]?=E (i7 (AM M O 0 0) 24 (0,0))/\wr.heap[Z.heap.size]?=E (i7 #[i6 fold,v] 24 (0,0))/\BI wr w.heap.size v (AZ fold (wss.take k))) (λi _=>la-(intOf i).toNat)
  case atStart=>exact⟨0,T O 0 0,AR _,rfl,aG.alloc om _,(Bg _ _ _ ak).trans hz,AT _ _,by simpa[AZ]using BI.nil _ _⟩
  case round=>
    obtain⟨k,v,hk,rfl,a8,Y,N,U⟩:=hrel
    by_cases aq:k<la
    ·
      obtain⟨bb,off,a',l,c,x,rfl,aB,J,hx,hX,aN⟩:=(hA.below a8).at_ aq;have ai:l<=1000000:=by have:=Ff hM hx;rw[hX.len]at this;exact this
      obtain⟨H,I,rfl,aA,hW⟩:=U.wds;have s0:wr.cell? ⟨Z.heap.size,0,O⟩=E (i6 fold):=by simp[cell?,N]
      have s1:wr.cell? ⟨Z.heap.size,1,O⟩=E (T H (AZ fold (wss.take k)).length I):=by simp[cell?,N]
      have aj:(AZ fold (wss.take k)).length<=1000000:=by have:=Nb fold (wss.take k);have:=MU k wss;omega
      have HX:=AA hx;clear hx;have kc:=Vf J;have ks:=Vf s1;have cW:∀d os,Calls ZP 123 #[i6 fold,T a' l c,T H (AZ fold (wss.take k)).length I] (grow (redrawn wr d) os) λe w''=>e=ra (R K (BV fold x (AZ fold (wss.take k))))/\∃p:Regrown,w''=grow (redrawn wr p.d) p.os:=
        λd os=>Calls.regrown_of (ahF fold a' H l c _ I x (AZ fold (wss.take k)) _ (hX.below (Vc wr d os)) ai (hW.below (Vc wr d os)) aj (aei _ (λy hy=>hM y (EG hy))))
      go_wp2;refine wp_region_quiet_below mixed kr ?_
      repeat (go_big_quiet_step (exact cW _ _))
      refine wpQuiet_nil ?_;rintro _ ⟨⟨dq,ag⟩,rfl⟩;obtain⟨X,ab⟩:∃X,grow (redrawn wr dq) ag=X:=⟨_,rfl⟩;rw[ab];have B:La wr X:=ab ▸ Vc wr dq ag;clear ab kc ks cW;have aa:La w X:=a8.trans (B.mono a8.size);have A:X.heap[w.heap.size]?=_:=(B.block _ (AD.1 Y).1).trans Y;have s:X.heap[Z.heap.size]?=_:=(B.block _ (AD.1 N).1).trans N;have a1:=U.below B;have aK:X.cell? ⟨bb,off+k,O⟩=E (T a' l c):=(B.cell (p:=⟨bb,off+k,O⟩) aB).trans J;clear U hW N Y s0 s1 J;have HM:Hid (AZ fold (wss.take (k+1))=GK fold (AZ fold (wss.take k)) x):=by rw[As HX.out,Ka];rfl
      obtain⟨q,hq⟩:∃q,BV fold x (AZ fold (wss.take k))=q:=⟨_,rfl⟩;have HQ:Hid (BV fold x (AZ fold (wss.take k))=q):=hq;rw[hq];clear hq
      by_cases aM:0<=q
      ·
        have HF:Hid (AZ fold (wss.take (k+1))=AZ fold (wss.take k)):=by
          rw[HM.out];unfold GK;rw[HQ.out,Lc om]
          rfl
        go_wp2
        go_roundw
        case rel=>exact⟨k+1,_,by omega,by go_num,aa,A,s,by rw[HF.out];exact a1⟩
        case measure=>simp[intOf];omega
      ·
        have HF:Hid (AZ fold (wss.take (k+1))=AZ fold (wss.take k)++[AO fold x]):=by
          rw[HM.out];unfold GK;rw[HQ.out,Lq om]
          rfl
        obtain⟨i0,hi,ay,ax,aw⟩:=Vh OT;have s1:X.cell? ⟨Z.heap.size,1,O⟩=E (T H (AZ fold (wss.take k)).length I):=by simp[cell?,s]
        obtain⟨es,e1,e2,e3⟩:=a1;have aE:∀n,Bys (X.drewN n) a' l x:=λn=>(hX.below B).below ⟨rfl,rfl,rfl,AC _,λ_ _=>rfl⟩;have hd:∀n,La X (X.drewN n):=λn=>⟨rfl,rfl,rfl,AC _,λ_ _=>rfl⟩;obtain⟨m,hm⟩:∃m,(AZ fold (wss.take k)).length=m:=⟨_,rfl⟩;rw[hm]at s1 s e1 e2 aj⊢;have af:=AA hm;clear hm;go_wp2;have aD:Bys X.drew a' l x:=aE 1;have az:La X X.drew:=hd 1
        go_region_law (first
          | (go_simp;go_at_call 124;refine (aoo fold a' l c x X.drew aD ai).mono ?_;rintro e w3 ⟨a3,c3,rfl,ac,aC⟩
             have a2:La X w3:=az.trans aC;have a6:=DJ e1 a2;have C:w3.heap[Z.heap.size]?=E (i7 #[i6 fold,T H m I] 24 (0,0)):=(a2.block _ (AD.1 s).1).trans s;have al:w3.cell? ⟨Z.heap.size,1,O⟩=E (T H m I):=by simp[cell?,C]
             have au:Z.heap.size<w3.heap.size:=(AD.1 C).1;have aJ:Z.heap.size≠w3.heap.size:=by omega
             have aI:w3.heap.size≠Z.heap.size:=by omega
             have aL:(w3.alloc (i7 #[T a3 l c3] 32)).cell? ⟨Z.heap.size,1,O⟩=E (T H m I):=by rw[OH _ _ _ au];exact al
             have ap:=Gz a6 C (Kf kr);have D:La w w3:=aa.trans (a2.mono aa.size);dsimp only)
          | (refine step_append_lies _ (by rfl) _ _ 22 (by rfl) w.heap.size 32 i0 (.slice O 0 0) 1 24 underlying22 hi ay ax aw rfl (by decide) (.slice H m I) m es (by rfl) (a6.alloc _) ⟨w3.heap.size,0,O⟩ 1 1 [.slice a3 l c3] (by rfl) rfl (cell_one_new _ _ _) (by simp [Value.oneCell']) (by decide) (by unfold maxLen;omega) om (by have:=D.size;simp;omega) _ rfl ?_
             intro g5 c5 w5 ae V aP aO;have a7:w5.heap[Z.heap.size]?=E (i7 #[i6 fold,T H m I] 24 (0,0)):=(V.block _ (by simp;have:=(AD.1 C).1;omega) (Ne.symm ap)).trans ((Bg _ _ _ (AD.1 C).1).trans C);have q0:w5.cell? ⟨Z.heap.size,1,O⟩=E (T H m I):=by simp[cell?,a7]
             have q1:w5.frozen? ⟨Z.heap.size,1,O⟩=M:=by simp[frozen?,a7]))
        all_goals
          go_wp2;have aF:La w w5:=(D.alloc (by have:=D.size;omega) _).grown V (by simp;have:=D.size;omega) (λj hj=>(a6.lt j hj).1);have am:w5.heap[w.heap.size]?=E (i7 (AM M O 0 0) 24 (0,0)):=by have h3:w3.heap[w.heap.size]?=_:=(a2.block _ (AD.1 A).1).trans A;exact(V.block _ (by simp;have:=(AD.1 h3).1;omega) (Ne.symm (Gz a6 h3 (Kf kr)))).trans ((Bg _ _ _ (AD.1 h3).1).trans h3)
          go_roundw
          case rel=>
            refine⟨k+1,_,by omega,by go_num,aF.setCell (by show w.heap.size<=Z.heap.size;omega) _,(AQ w5 ⟨Z.heap.size,1,O⟩ _ _ (by simp;omega)).trans am,by simpa using AJ (i:=1) a7 (.slice (E ⟨g5,0,O⟩) (m+1) c5),?_⟩;rw [HF.out];have ao:=BI.step (wss:=AZ fold (wss.take k)) (xs:=AO fold x) (e:=.slice a3 l c3) (es:=es) (v:=.slice H m I) (by rw [af.out];exact a6.alloc _) (by rw [af.out];exact e2)
              (λi e xs he hx=>⟨DJ (DJ (e3 i e xs he hx).1 a2) ((AH _ _).alloc (AC _) _),(e3 i e xs he hx).2⟩) (by rw[Ew,hX.len];exact(abR (ac.alloc _) (by have:=aa.size;simpa using this))) (MD hX.2) (by rw[af.out];exact ae) V
            exact ao.turned (BH w5 Z.heap.size 1 _) a7 (Kf kr) (Kf kr)
          case measure=>simp[intOf];omega
    ·
      obtain rfl:k=la:=by omega
      have HF:Hid (wss.take k=wss):=Ap (by have:=HL.out;omega);have s0:wr.cell? ⟨Z.heap.size,0,O⟩=E (i6 fold):=by simp[cell?,N]
      obtain⟨H,I,rfl,aA,hW⟩:=U.wds;have s1:wr.cell? ⟨Z.heap.size,1,O⟩=E (T H (AZ fold (wss.take k)).length I):=by simp[cell?,N]
      have z0:wr.cell? ⟨w.heap.size,0,O⟩=E (i6 M):=by simp[cell?,Y]
      have z1:wr.cell? ⟨w.heap.size,1,O⟩=E (T O 0 0):=by simp[cell?,Y]
      have y0:wr.frozen? ⟨w.heap.size,0,O⟩=M:=by simp[frozen?,Y]
      have y1:wr.frozen? ⟨w.heap.size,1,O⟩=M:=by simp[frozen?,Y]
      go_wp2;have A:=AJ (i:=1) (AJ (i:=0) Y (i6 fold)) (T H (AZ fold (wss.take k)).length I);refine Vi (NH rfl rfl (by simpa using A)) rfl ?_;refine⟨_,rfl,?_,(a8.setCell (AC _) _).setCell (AC _) _⟩;have ho:=(U.turned (BH wr w.heap.size 0 (i6 fold)) Y (Kf kr) (Kf kr)).turned (BH _ w.heap.size 1 (T H (AZ fold (wss.take k)).length I)) (AJ (i:=0) Y (i6 fold)) (Kf kr) (Kf kr);rw[HF.out]at ho⊢;exact ho
def Fw(fold:Bool)(wss:Lb):Bool:=decide (DL fold wss=0)&&decide (AZ fold wss=wss)
theorem acH(fold:Bool)(a:Option Addr)(X J:Nat)(wss:Lb)(w:Wa)(hA:Wds w a X wss)(C:X<=1000000)(hM:∀x∈wss,lc x<=1000000) :Calls ZP 46 #[i8 (AM fold a X J)] w λe w'=>e=ra (i6 (Fw fold wss))/\La w w':=by
 have N:La w (w.alloc (i7 (AM fold a X J) 24)):=(AH _ _).alloc (AC _) _;have B:=hA.below N;have H:=AT w (i7 (AM fold a X J) 24)
 by_cases V:DL fold wss=0
 ·have HR:Hid (Fw fold wss=DH fold fold (AZ fold wss) wss):=by simp[Hid,Fw,DH,V]
  go_enter func46,ntmps46
  go_wp2_with fail
  refine(aiA fold a X J wss _ B C hM V).mono ?_;rintro e Y ⟨v,rfl,I,A⟩;have Z:La w Y:=N.trans (A.mono sm);obtain⟨av,cv,rfl,aa,hW⟩:=I.wds;have h1:Y.heap[w.heap.size]?=_:=(A.block _ sm).trans H;have a6:w.heap.size<Y.heap.size:=(AD.1 h1).1;have c0:Y.cell? ⟨w.heap.size,0,O⟩=E (i6 fold):=by simp[cell?,h1]
  have c1:Y.cell? ⟨w.heap.size,1,O⟩=E (T a X J):=by simp[cell?,h1]
  have D:(AZ fold wss).length<=1000000:=by have:=Nb fold wss;have:=hA.len;omega
  have a7:w.heap.size≠Y.heap.size:=by omega
  have U:La Y (Y.alloc (i7 (AM fold av (AZ fold wss).length cv) 24)):=(AH _ _).alloc (AC _) _;have a1:=hW.below U;have a2:=(hA.below Z).below U;clear V
  go_wp2_with fail
  refine(ahh fold fold av a _ cv X J (AZ fold wss) wss _ a1 a2 D).mono ?_;rintro e w3 ⟨rfl,j⟩;go_wp2;go_ret;exact⟨by rw[HR.out];rfl,Z.trans ((U.trans (j.mono sm)).mono Z.size)⟩
 ·have HR:Hid (Fw fold wss=M):=by simp[Hid,Fw,V]
  obtain⟨n,s⟩:∃n,DL fold wss=n:=⟨_,rfl⟩;have HC:=AA V;have HN:Hid (DL fold wss=n):=s;rw[s]at V;clear s;have a8:(n==0)=M:=by simp[V]
  go_enter func46,ntmps46
  go_wp2_with fail
  refine(akZ fold a X J wss _ B C hM HC.out).mono ?_;rintro e Y ⟨rfl,A⟩;rw[HN.out];have Z:La w Y:=N.trans (A.mono sm);go_wp2;go_ret;exact⟨by rw[HR.out];rfl,Z.alloc Z.size _⟩
theorem IT{α:Type}{P:List α->Prop}(h0:P [])(h1:∀l x,P l->P (l++[x])):∀l,P l:=by
 intro l;obtain⟨n,Y⟩:∃n,lc l=n:=⟨_,rfl⟩
 induction n generalizing l with
 |zero=>obtain rfl:=Bz Y;exact h0
 |succ n ih=>
  obtain⟨Z,x,rfl⟩:∃Z x,l=Z++[x]:=⟨l.dropLast,l.getLast (by intro h;simp[h]at Y),(Em _).symm⟩;exact h1 Z x (ih Z (by simpa using Y))
theorem amI:∀(l:Lb),(cnt l).1=lc l/\(cnt l).2.1=Ds l/\((cnt l).2.2.1 > 32↔∃x∈l,lc x > 32)/\0<=(cnt l).2.2.2/\(l≠[]->((cnt l).2.2.2=0↔∃x∈l,lc x=0)):=by
 apply IT
 ·simp[cnt,Ds]
 ·intro l x ⟨h1,h2,h3,h4,h5⟩;rw[ad5,aeX];simp only[Kq];refine⟨by rw[h1];simp,by rw[h2],?_,by split<;>omega,λ_=>?_⟩
  ·constructor
   ·intro h
    by_cases X:lc x > 32
    ·exact⟨x,by simp,X⟩
    ·obtain⟨y,Z,Y⟩:=h3.1 om;exact⟨y,by simp[Z],Y⟩
   ·rintro⟨y,Z,Y⟩
    rcases Bf.1 Z with Z|Z
    ·have:=h3.2 ⟨y,Z,Y⟩;omega
    ·simp at Z;subst Z;omega
  ·by_cases V:l=[]
   ·subst V;simp[cnt]
   ·have U:lc l≠0:=λe=>V (Bz e);have h6:=h5 V
    constructor
    ·intro h
     by_cases X:lc x=0
     ·exact⟨x,by simp,X⟩
     ·split at h
      ·omega
      ·obtain⟨y,Z,Y⟩:=h6.1 h;exact⟨y,by simp[Z],Y⟩
    ·rintro⟨y,Z,Y⟩
     rcases Bf.1 Z with Z|Z
     ·have:=h6.2 ⟨y,Z,Y⟩;rw[Lc om];exact this
     ·simp at Z;subst Z
      split<;>omega
theorem afR(f:Nat->Bool):JX f=if f 0 then 50 else if f 1 then 51 else if f 2 then 52 else if f 3 then 53 else if f 4 then 54 else if f 5 then 55 else 0:=by
 unfold JX;simp only[List.range,List.range.loop,List.find?]
 cases f 0<;>cases f 1<;>cases f 2<;>cases f 3<;>cases f 4<;>cases f 5<;>rfl
theorem amB(fold:Bool)(wss:Lb):Ey fold wss=DL fold wss:=by
 obtain⟨h1,h2,h3,h4,h5⟩:=amI wss;unfold Ey DL;rw[afR];simp only[Ku,h1,h2,amE,decide_eq_true_eq,h3]
 by_cases h0:lc wss=0
 ·rw[Lq om,Lq h0]
 ·rw[Lc om,Lc h0];have X:wss≠[]:=λe=>h0 (by rw[e];rfl)
  by_cases Z:lc wss > 64
  ·rw[Lq om,Lq Z]
  ·rw[Lc om,Lc Z]
   by_cases Y:∃x∈wss,lc x=0
   ·rw[Lq ((h5 X).2 Y),Lq Y]
   ·rw[Lc (λh=>Y ((h5 X).1 h)),Lc Y]
theorem NF(fold:Bool)(wss:Lb):An fold wss=Fw fold wss:=by unfold An Fw;rw[amB]
abbrev AF:=Int×Int
def Bt(wss:Lb)(k:Int):Int:=if 0<=k/\k<lc wss then(((wss[k.toNat]?).getD []).length:Int) else 0
def DK(a b:Int):Int:=if a<b then -1 else if b<a then 1 else 0
def orI(a b c:Int):Int:=if a≠0 then a else if b≠0 then b else c
def apj(wss:Lb)(a b:AF):Int:=orI (DK a.1 b.1) (DK (Bt wss b.2) (Bt wss a.2)) (DK a.2 b.2)
def BD(wss:Lb)(a b:AF):Bool:=decide (apj wss a b<0)
theorem Gd{wss:Lb}{a b:AF}:BD wss a b=G↔a.1<b.1∨a.1=b.1/\(Bt wss b.2<Bt wss a.2∨Bt wss b.2=Bt wss a.2/\a.2<b.2):=by
 unfold BD apj orI DK;simp only[decide_eq_true_eq]
 by_cases h1:a.1<b.1
 ·simp[h1]
 ·by_cases h2:b.1<a.1
  ·simp[h1,h2];try omega
  ·by_cases h3:Bt wss b.2<Bt wss a.2
   ·simp[h1,h2,h3];try omega
   ·by_cases h4:Bt wss a.2<Bt wss b.2
    ·simp[h1,h2,h3,h4];try omega
    ·by_cases h5:a.2<b.2
     ·simp[h1,h2,h3,h4,h5];try omega
     ·by_cases h6:b.2<a.2
      ·simp[h1,h2,h3,h4,h5,h6];try omega
      ·simp[h1,h2,h3,h4,h5,h6]
theorem ab2(wss:Lb)(a:AF):BD wss a a=M:=by
 cases e:BD wss a a with
 |false=>rfl
 |true=>have:=Gd.1 e;omega
theorem abG{wss:Lb}{a b c:AF}(h1:BD wss a b=G)(h2:BD wss b c=G):BD wss a c=G:=by have h1:=Gd.1 h1;have h2:=Gd.1 h2;exact Gd.2 om
theorem afx{wss:Lb}{a b:AF}(h1:BD wss a b=G):BD wss b a=M:=by
 cases e:BD wss b a with
 |false=>rfl
 |true=>
  have h1:=Gd.1 h1;have h2:=Gd.1 e;omega
theorem afz{wss:Lb}{a b:AF}(h1:BD wss a b=M)(h2:BD wss b a=M):a=b:=by
 have h1:¬BD wss a b=G:=by rw[h1];simp
 have h2:¬BD wss b a=G:=by rw[h2];simp
 rw[Gd]at h1 h2;obtain⟨x,y⟩:=a;obtain⟨u,v⟩:=b;dsimp only at h1 h2;simp only[Jk]
 by_cases Z:y=v
 ·subst Z;omega
 ·omega
theorem abV{wss:Lb}:∀{l m:List AF},l.Pairwise (λa b=>BD wss a b=G)->m.Pairwise (λa b=>BD wss a b=G)->(∀x,x∈l↔x∈m)->l=m
 |[],[],_,_,_=>rfl
 |[],b::m,_,_,h=>by have:=(h b).2 sm;simp at this
 |a::l,[],_,_,h=>by have:=(h a).1 sm;simp at this
 |a::l,b::m,h1,h2,h=>by
  rw[Jn]at h1 h2;have N:a=b:=by
   have ha:=(h a).1 sm;have U:=(h b).2 sm
   rcases CR.1 ha with e|ha
   ·exact e
   ·rcases CR.1 U with e|U
    ·exact e.symm
    ·have I:=h2.1 a ha;have J:=h1.1 b U;rw[afx I]at J
     cases J
  subst N;have V:a ∉ l:=λZ=>by have:=h1.1 a Z;rw[ab2]at this;cases this
  have X:a ∉ m:=λZ=>by have:=h2.1 a Z;rw[ab2]at this;cases this
  congr 1;refine abV h1.2 h2.2 λx=>⟨λY=>?_,λY=>?_⟩
  ·rcases CR.1 ((h x).1 (by simp[Y]))with e|Z
   ·subst e;exact absurd Y V
   ·exact Z
  ·rcases CR.1 ((h x).2 (by simp[Y]))with e|Z
   ·subst e;exact absurd Y X
   ·exact Z
def putN(wss:Lb)(l:List AF)(h:AF):Nat:=lc l-(l.reverse.takeWhile (λx=>BD wss h x)).length
def Es(wss:Lb)(l:List AF)(h:AF):List AF:=l.take (putN wss l h)++h::l.drop (putN wss l h)
theorem aaD{α:Type}{p:α->Bool}:∀{xs ys:List α},(∀x∈xs,p x=G)->(∀y,ys[0]?=E y->p y=M)->(xs++ys).takeWhile p=xs
 |[],[],_,_=>rfl
 |[],y::ys,_,h=>by have:=h y rfl;simp[this]
 |x::xs,ys,h1,h2=>by rw[CT,List.takeWhile_cons,h1 x sm];simp only[if_true];rw[aaD (λz Z=>h1 z (by simp[Z])) h2]
theorem afK{wss:Lb}{l:List AF}{h:AF}{k:Nat}(hk:k<=lc l)(h1:∀x∈l.drop k,BD wss h x=G)(h2:∀x,0<k->l[k-1]?=E x->BD wss h x=M):putN wss l h=k:=by
 unfold putN;have e:l.reverse=(l.drop k).reverse++(l.take k).reverse:=by rw[<-List.reverse_append,Dx]
 rw[e,aaD]
 ·simp;omega
 ·intro x Y;exact h1 x (by simpa using Y)
 ·intro y Z
  by_cases h0:k=0
  ·subst h0;simp at Z
  ·refine h2 y om ?_;rw[List.getElem?_reverse (by rw[Ag];omega),Ag,FT]at Z;rw[Lq om]at Z;rw[<-Z];congr 1;omega
theorem am5{wss:Lb}{l:List AF}{h x:AF}:x∈Es wss l h↔x=h∨x∈l:=by
 unfold Es;rw[Bf,CR]
 constructor
 ·rintro(h1|h1|h1)
  ·exact .inr (EG h1)
  ·exact .inl h1
  ·exact .inr (Iq h1)
 ·rintro(h1|h1)
  ·exact .inr (.inl h1)
  ·rw[<-Dx (putN wss l h) l,Bf]at h1
   rcases h1 with h1|h1
   ·exact .inl h1
   ·exact .inr (.inr h1)
theorem ahD{wss:Lb}{l:List AF}{h:AF}(B:l.Pairwise (λa b=>BD wss a b=G))(v:h ∉ l):(Es wss l h).Pairwise (λa b=>BD wss a b=G):=by
 obtain⟨k,hk,h1,h2⟩:∃k,k<=lc l/\(∀x∈l.drop k,BD wss h x=G)/\(∀x,0<k->l[k-1]?=E x->BD wss h x=M):=by
  have H:∀n,n<=lc l->(∀x∈l.drop n,BD wss h x=G)->∃k,k<=lc l/\(∀x∈l.drop k,BD wss h x=G)/\(∀x,0<k->l[k-1]?=E x->BD wss h x=M):=by
   intro n
   induction n with
   |zero=>intro h1 h2;exact⟨0,h1,h2,λx h0=>by omega⟩
   |succ n ih=>
    intro h1 h2;obtain⟨x,X⟩:∃x,l[n]?=E x:=⟨l[n]'om,by simp⟩
    cases e:BD wss h x with
    |false=>exact⟨n+1,h1,h2,λy _ Y=>by simp at Y;rw[X]at Y;rw[<-AK Y];exact e⟩
    |true=>
     refine ih om λy Y=>?_;rw[List.drop_eq_getElem_cons (show n<lc l by omega)]at Y;have:l[n]'om=x:=by have:=X;rw[Ar om]at this;exact AK this
     rw[this]at Y
     rcases CR.1 Y with rfl|Y
     ·exact e
     ·exact h2 y Y
  exact H (lc l) (AC _) sm
 have A:=afK hk h1 h2;unfold Es;rw[A];rw[List.pairwise_append,Jn];have Z:=B;rw[<-Dx k l,List.pairwise_append]at Z;refine⟨Z.1,⟨h1,Z.2.1⟩,λa ha b C=>?_⟩;have I:BD wss a h=G:=by
  have D:0<k:=by
   by_cases h0:k=0
   ·subst h0;simp at ha
   ·omega
  obtain⟨x,X⟩:∃x,l[k-1]?=E x:=⟨l[k-1]'om,by simp⟩;have N:BD wss x h=G:=by
   cases e:BD wss x h with
   |true=>rfl
   |false=>exact absurd (by rw[afz e (h2 x D X)]at X;exact AX X) v
  obtain⟨i,J⟩:=DR ha;have U:l[i]?=E a:=by rw[FT]at J;split at J;exact J;cases J
  have s:i<k:=by have:=(AP.1 J).1;simp at this;omega
  by_cases V:i=k-1
  ·subst V;rw[X]at U;rw[<-AK U];exact N
  ·have:=List.pairwise_iff_getElem.1 B i (k-1) om om om;rw[(AP.1 U).2,(AP.1 X).2]at this;exact abG this N
 rcases CR.1 C with rfl|C
 ·exact I
 ·exact abG I (h1 b C)
def FP(fold:Bool)(wss:Lb)(text:List Int)(place:Nat)(k:Nat):Bool:=atL fold text place ((wss[k]?).getD [])
def Do(fold:Bool)(wss:Lb)(frm:Int)(text:List Int)(place:Nat)(n:Nat):List AF:=
 (List.range n).foldl (λl k=>if FP fold wss text place k then Es wss l (frm+place,(k:Int)) else l) []
theorem Lz(fold:Bool)(wss:Lb)(frm:Int)(text:List Int)(place n:Nat) :Do fold wss frm text place (n+1)=if FP fold wss text place n then Es wss (Do fold wss frm text place n) (frm+place,(n:Int)) else Do fold wss frm text place n:=by simp[Do,El,FI]
theorem Na{fold:Bool}{wss:Lb}{frm:Int}{text:List Int}{place:Nat}{h:AF}:∀{n:Nat},h∈Do fold wss frm text place n↔∃k,k<n/\FP fold wss text place k=G/\h=(frm+place,(k:Int))
 |0=>by simp[Do]
 |n+1=>by
  have Z:=Na (fold:=fold) (wss:=wss) (frm:=frm) (text:=text) (place:=place) (h:=h) (n:=n);rw[Lz]
  cases e:FP fold wss text place n with
  |false=>
   simp only[Bool.false_eq_true,if_false,Z]
   constructor
   ·rintro⟨k,h1,h2,h3⟩;exact⟨k,by omega,h2,h3⟩
   ·rintro⟨k,h1,h2,h3⟩
    by_cases hk:k=n
    ·subst hk;rw[e]at h2;cases h2
    ·exact⟨k,by omega,h2,h3⟩
  |true=>
   simp only[if_true,am5,Z]
   constructor
   ·rintro(h1|⟨k,h1,h2,h3⟩)
    ·exact⟨n,by omega,e,h1⟩
    ·exact⟨k,by omega,h2,h3⟩
   ·rintro⟨k,h1,h2,h3⟩
    by_cases hk:k=n
    ·subst hk;exact .inl h3
    ·exact .inr ⟨k,by omega,h2,h3⟩
theorem abx(fold:Bool)(wss:Lb)(frm:Int)(text:List Int)(place:Nat):∀n,(Do fold wss frm text place n).Pairwise (λa b=>BD wss a b=G)
 |0=>by simp[Do]
 |n+1=>by
  have Z:=abx fold wss frm text place n;rw[Lz]
  split
  ·refine ahD Z λY=>?_;obtain⟨k,h1,h2,h3⟩:=Na.1 Y;simp at h3;omega
  ·exact Z
def Et(fold:Bool)(wss:Lb)(frm:Int)(text:List Int)(n:Nat):List AF:=(List.range n).flatMap λplace=>Do fold wss frm text place (lc wss)
def EL(fold:Bool)(wss:Lb)(frm:Int)(text:List Int):List AF:=Et fold wss frm text (lc text+1)
theorem NU(fold:Bool)(wss:Lb)(frm:Int)(text:List Int)(n:Nat):Et fold wss frm text (n+1)=Et fold wss frm text n++Do fold wss frm text n (lc wss):=by simp[Et,El]
def Gj(Y Z:Int)(l:List AF):List AF:=l.filter λh=>decide (Y<h.1)&&decide (h.1<=Z)
theorem afN(x y:Int)(w:Wa) :Calls ZP 185 #[R K x,R K y] w λe w'=>e=ra (R K (DK x y))/\w=w':=by
 by_cases h1:x<y
 ·have Z:Hid (DK x y=-1):=by simp[Hid,DK,h1]
  go_enter func185,ntmps185;go_wp2;go_ret;exact⟨by rw[Z.out];rfl,rfl⟩
 ·by_cases h2:y<x
  ·have Z:Hid (DK x y=1):=by simp[Hid,DK,h1,h2]
   go_enter func185,ntmps185;go_wp2;go_ret;exact⟨by rw[Z.out];rfl,rfl⟩
  ·have Z:Hid (DK x y=0):=by simp[Hid,DK,h1,h2]
   go_enter func185,ntmps185;go_wp2;go_ret;exact⟨by rw[Z.out];rfl,rfl⟩
def orL(zs:List Int):Int:=(zs.find? (λz=>z != 0)).getD 0
theorem ant{Z rest:List Int}{z:Int}(h:∀x∈Z,x=0)(Y:z≠0):orL (Z++z::rest)=z:=by unfold orL;rw[List.find?_append,List.find?_eq_none.2 (λx X=>by simp[h x X])];simp[Y]
theorem akV{zs:List Int}(h:∀x∈zs,x=0):orL zs=0:=by
 unfold orL;rw[List.find?_eq_none.2 (λx Z=>by simp[h x Z])]
 rfl
theorem aoO(a:Option Addr)(Z j:Nat)(zs:List Int)(w:Wa)(s:Sl1 (R K) w a Z zs)(v:Z<=1000000) :Calls ZP 184 #[T a Z j] w λe w'=>e=ra (R K (orL zs))/\w=w':=by
 obtain⟨H,I⟩:=s;have B:=AA H;clear H;go_enter func184,ntmps184;go_wp2
 go_loop[8] (λi=>∃k:Nat,k<=Z/\i=R K k/\Hid (∀x∈zs.take k,x=0)) (λi=>Z-(intOf i).toNat)
 case atStart=>exact⟨0,AR _,rfl,λx Y=>by simp at Y⟩
 case round=>
  obtain⟨k,hk,rfl,J⟩:=hrel
  by_cases U:k<Z
  ·obtain⟨b,off,rfl,hb,D⟩:=I.resolve_left om;obtain⟨z,V⟩:∃z,zs[k]?=E z:=⟨zs[k]'(by rw[B.out];exact U),by simp⟩;have N:w.cell? ⟨b,off+k,O⟩=E (R K z):=D k z V;have C:=AA V;clear V D I
   by_cases h0:z=0
   ·subst h0;have X:Hid (∀x∈zs.take (k+1),x=0):=by
     rw[As C.out];intro x Y
     rcases Bf.1 Y with Y|Y
     ·exact J.out x Y
     ·simpa using Y
    go_wp2
    go_round
    case rel=>exact⟨k+1,by omega,by go_num,X⟩
    case measure=>simp[intOf];omega
   ·have X:Hid (orL zs=z):=by
     have h:=ant (rest:=zs.drop (k+1)) J.out h0
     rwa[<-Mu C.out]at h
    have A:(z != 0)=G:=by simp[h0]
    clear h0;go_wp2;go_ret;exact⟨by rw[X.out];rfl,rfl⟩
  ·obtain rfl:k=Z:=by omega
   have X:Hid (orL zs=0):=by have h:=J.out;rw[Ap (by rw[B.out];exact AC _)]at h;exact akV h
   go_wp2;go_ret;exact⟨by rw[X.out];rfl,rfl⟩
theorem Sl1.lay{α:Type}(enc:α->Vk)(w:Wa)(zs:List α)(t:TypeId)(n:Nat)(h:w.heap.size=n):Sl1 enc (w.alloc (i7 (zs.map enc).toArray t)) (E ⟨n,0,O⟩) (lc zs) zs:=by subst h;refine⟨rfl,.inr ⟨w.heap.size,0,rfl,by simp,λi x Z=>?_⟩⟩;have Y:=AT w (i7 (zs.map enc).toArray t);unfold cell?;dsimp only;rw[Y];simp[Z]
theorem Hf{w:Wa}{n:Nat}(h:w.heap.size=n)(o:Obj):(w.alloc o).heap[n]?=E o:=by subst h;exact AT w o
def Bx(n:Nat)(os:List Obj)(W:Wa):Prop:=∀(i:Nat)(o:Obj),os[i]?=E o->W.heap[n+i]?=E o
theorem Bx.below{n:Nat}{os:List Obj}{W Z:Wa}(h:Bx n os W)(X:La W Z):Bx n os Z:=λi o Y=>
 have:=h i o Y
 (X.block _ (AD.1 this).1).trans this
theorem Bx.nil(n:Nat)(W:Wa):Bx n [] W:=λi o Z=>by simp at Z
theorem Bx.snoc{n:Nat}{os:List Obj}{W:Wa}(h:Bx n os W)(o:Obj)(X:W.heap.size=n+lc os):Bx n (os++[o]) (W.alloc o):=λi x Z=>by
 by_cases Y:i<lc os
 ·rw[By Y]at Z;exact(Bg _ _ _ om).trans (h i x Z)
 ·rw[DY om]at Z;have:i-(lc os)=0:=by
   by_cases e:i-(lc os)=0
   ·exact e
   ·rw[GT (by simp;omega)]at Z;cases Z
  rw[this]at Z;simp at Z;subst Z;exact Hf om _
theorem Bx.cell{n i j:Nat}{os:List Obj}{W:Wa}(h:Bx n os W){cs:Array Vk}{t:TypeId}{fr:Nat×Nat}(Y:os[i]?=E (i7 cs t fr)){v:Vk}(Z:cs[j]?=E v):W.cell? ⟨n+i,j,O⟩=E v:=by have:=h i _ Y;simp[cell?,this,Z]
theorem Bys.take{w:Wa}{a:Option Addr}{n:Nat}{l:List Int}(h:Bys w a n l){m:Nat}(U:m<=n):Bys w a m (l.take m):=by
 refine⟨⟨by rw[Ag,h.len];omega,?_⟩,λx V=>h.2 x (EG V)⟩
 by_cases h0:m=0
 ·exact .inl h0
 ·right
  obtain⟨b,off,rfl,X,Z⟩:=h.1.2.resolve_left om;refine⟨b,off,rfl,X,λi u Y=>Z i u ?_⟩;rw[FT]at Y
  split at Y
  ·exact Y
  ·cases Y
theorem AN(W:Wa)(n:Nat):La W (W.drewN n):=⟨rfl,rfl,rfl,AC _,λ_ _=>rfl⟩
def heW:Lb:=[[104,101],[115,104,101],[104,101,114]]
theorem aqJ:(Ad M heW).length<=1000000:=by decide+kernel
theorem aqI:∀x∈heW,lc x<=1000000:=by decide+kernel
theorem PO{w:Wa}{n:Nat}(xs:List Int)(Z:∀x∈xs,0<=x/\x<=255)(t:TypeId)(fr:Nat×Nat)(h:w.heap.size=n):Bys (w.alloc (i7 (xs.map (Value.int .u8)).toArray t fr)) (E ⟨n,0,O⟩) (lc xs) xs:=by subst h;refine⟨⟨rfl,.inr ⟨w.heap.size,0,rfl,by simp,λi x Z=>?_⟩⟩,Z⟩;have Y:=AT w (i7 (xs.map (Value.int .u8)).toArray t fr);unfold cell?;dsimp only;rw[Y];simp[Z]
theorem AL(w:Wa)(o:Obj):La w (w.alloc o):=(AH _ _).alloc (AC _) _
theorem arl{w:Wa}{a:Option Addr}{X v2 v3:Option Addr×Nat×Nat}{U x2 V:List Int}(h:Sl1 (λv:Option Addr×Nat×Nat=>T v.1 v.2.1 v.2.2) w a 3 [X,v2,v3])(h1:Bys w X.1 X.2.1 U)(h2:Bys w v2.1 v2.2.1 x2)(h3:Bys w v3.1 v3.2.1 V)
  (c1:X.2.1<=X.2.2) (c2:v2.2.1<=v2.2.2) (c3:v3.2.1<=v3.2.2):Wds w a 3 [U,x2,V]:=by
 refine⟨_,h,rfl,λi v xs Z Y=>?_⟩
 match i with
 |0=>simp at Z Y;subst Z Y;exact⟨h1,c1⟩
 |1=>simp at Z Y;subst Z Y;exact⟨h2,c2⟩
 |2=>simp at Z Y;subst Z Y;exact⟨h3,c3⟩
 |n+3=>simp at Z
theorem aql(w:Wa)(C:Array Vk)(n c k:Nat)(h:w.heap.size=k):(convert 32 32 (T (E ⟨k,0,O⟩) n c)).run ZP (w.alloc (i7 C 5))=.ok (T (E ⟨k,0,O⟩) n c) (w.alloc (i7 C 5 (C.size,C.size+1))):=by subst h;exact Lib.run_convert_bytes_const (P:=ZP) w 32 5 C n c underlying32 underlying5
theorem afV{W Z:Wa}(h:La W Z)(g:Nat):W.grownBy Z (E g):=⟨h.os,h.tape,h.output,h.size,λk hk _=>h.block k hk⟩
theorem GI{w:Wa}(cs:Array Vk)(t:TypeId){n:Nat}(h:w.heap.size=n):∀j u,cs.toList[j]?=E u->(w.alloc (i7 cs t)).cell? ((⟨n,0,O⟩:Addr).add j)=E u:=by
 intro j u Z;subst h;rw[Cf];have Y:=AT w (i7 cs t);unfold cell?;dsimp only;rw[Y]
 simpa using Z
def SlK(size:Nat)(w:Wa)(a:Option Addr)(len:Nat)(cs:List Vk):Prop:=
 lc cs=len*size/\(len=0∨∃b off,a=E ⟨b,off,O⟩/\b<w.heap.size/\∀(i:Nat)(u:Vk),cs[i]?=E u->w.cell? ⟨b,off+i,O⟩=E u)
theorem SlK.below{size:Nat}{w w':Wa}{a:Option Addr}{len:Nat}{cs:List Vk}(h:SlK size w a len cs)(Y:La w w'):SlK size w' a len cs:=by
 obtain⟨h1,h2|⟨b,off,e,Z,V⟩⟩:=h
 ·exact⟨h1,.inl h2⟩
 ·exact⟨h1,.inr ⟨b,off,e,Af Z Y.size,λi u X=>(Y.cell (p:=⟨b,off+i,O⟩) Z).trans (V i u X)⟩⟩
theorem SlK.news{size:Nat}{w:Wa}{ad:Addr}{m:Nat}{cs:List Vk}(h:SlK size w (E ad) m cs):∀j u,cs[j]?=E u->w.cell? (ad.add j)=E u:=by
 intro j u Z;obtain⟨h1,h2⟩:=h;have X:=(AP.1 Z).1;have h0:m≠0:=by intro e;subst e;rw[h1,Nat.zero_mul]at X;omega
 obtain⟨b,off,e,Y,V⟩:=h2.resolve_left h0;obtain rfl:=AK e;rw[Cf];exact V j u Z
theorem SlK.own{size base n:Nat}{w:Wa}{e:TypeId}{v:Vk}{cs:List Vk}(h:w.ownsRow base e size v n cs):∃a c,v=T a n c/\n<=c/\SlK size w a n cs:=by
 have Z:=h.1
 rcases h.2 with⟨rfl,rfl⟩|⟨g,cap,U,rfl,N,V,X,_,_,J⟩
 ·exact⟨O,0,rfl,AC _,Z,.inl rfl⟩
 ·refine⟨_,cap,rfl,X,Z,.inr ⟨g,0,rfl,(AD.1 V).1,λi x Y=>?_⟩⟩;have:=h.cells (g:=g) rfl i x Y
  rwa[Cf]at this
theorem Gu{P:Program}(w:Wa)(base:Nat)(t ty e:TypeId)(i:TypeInfo)(z:Vk)(size bytes:Nat)(I:P.underlying t=E (.slice e))(C:P.info? e=E i)(j:i.zero=E z)
  (X:i.size=size) (B:i.bytes=bytes) (J:z.cells.size=size) (H:0<size) (v:Vk) (n:Nat) (xs:List Vk) (Z:w.ownsRow base e size v n xs)
  (A:Option Addr) (m c:Nat) (cs:List Vk) (N:SlK size w A m cs) (U:∀u∈cs,u.oneCell'=G) (s:n+m<=maxLen) (Y:(n+m)*bytes<=140737488355328) (V:base<=w.heap.size) :
  ∃v' w',(Builtin.append_ #[t,t] ty #[v,.slice A m c]).run P w=.ok v' w'/\w'.ownsRow base e size v' (n+m) (xs++cs)/\w.grownBy w' v.ownBlock/\
   (v'.ownBlock=v.ownBlock∨v'.ownBlock=E w.heap.size):=by
 cases A with
 |some ad=>
  obtain⟨v',w',hr,h2,h3,_,h5⟩:=run_append_own_at (P:=P) w base t ty e i z size bytes I C j X B J H v n xs Z ad m c cs N.1 N.news U s Y V;exact⟨v',w',hr,h2,h3,h5⟩
 |none=>
  have hm:m=0:=N.2.elim id λ⟨b,off,e,_⟩=>by cases e
  subst hm;have hy:cs=[]:=Bz (by rw[N.1,Nat.zero_mul]);subst hy;refine⟨v,w,?_,by simpa using Z,World.grownBy.refl w _,.inl rfl⟩
  rcases Z.2 with⟨rfl,rfl⟩|⟨g,cap,a1,rfl,_,_,D,_⟩
  ·simp[Builtin.append_,run_underlying I,sizeOf,typeInfo,C,Builtin.lenOf,Builtin.firstCells]
  ·simp[Builtin.append_,run_underlying I,sizeOf,typeInfo,C,Builtin.lenOf,Builtin.firstCells,D,storeCells]
theorem JA{P:Program}{w:Wa}{V:Array Oper}{rest:List Oper}{o:Oper}{a:Act}{Q:Exit->Act->Wa->Prop}(D:o.guard=O)(s x:Operand)(t:TypeId)
  (ho:o.op=.call {callee:=.builtin .append,args:=#[s,x],argTypes:=#[t,t]})
  (base:Nat) (e:TypeId) (i:TypeInfo) (z:Vk) (size bytes:Nat) (ht:P.underlying t=E (.slice e)) (hi:P.info? e=E i) (j:i.zero=E z) (Y:i.size=size) (C:i.bytes=bytes) (J:z.cells.size=size) (I:0<size)
  (v:Vk) (n:Nat) (xs:List Vk) (hs:a.eval s=v) (U:w.ownsRow base e size v n xs) (A:Option Addr) (m c:Nat) (cs:List Vk) (hx:a.eval x=T A m c) (H:SlK size w A m cs) (N:∀u∈cs,u.oneCell'=G)
  (B:n+m<=maxLen) (Z:(n+m)*bytes<=140737488355328) (X:base<=w.heap.size)
  (h:∀v' w',w'.ownsRow base e size v' (n+m) (xs++cs)->w.grownBy w' v.ownBlock->(v'.ownBlock=v.ownBlock∨v'.ownBlock=E w.heap.size)->wpList P V Q rest (a.put o.dst v') w'):wpList P V Q (o::rest) a w:=by
 refine wpList_plain D λKB hK=>?_;obtain⟨v',w',hr,h2,h3,h4⟩:=Gu (P:=P) w base t o.type e i z size bytes ht hi j Y C J I v n xs U A m c cs H N B Z X;unfold Oper.wp execOp;simp only[ho,resolve,invoke,builtin,IN,IM,Result.andThen_ok,LI,BO,DE,hs,hx,hr];exact hK _ _ (h v' w' h2 h3 h4)
theorem aa2{F:Fence}{k:Nat}{P:Program}(w:Wa){U:Array Oper}{rest:List Oper}{o:Oper}{a:Act}{Q:Exit->Act->Wa->Prop}(B:o.guard=O)(s x:Operand)(t:TypeId)
  (X:o.op=.call {callee:=.builtin .append,args:=#[s,x],argTypes:=#[t,t]})
  (base:Nat) (e:TypeId) (i:TypeInfo) (z:Vk) (size bytes:Nat) (ht:P.underlying t=E (.slice e)) (hi:P.info? e=E i) (hz:i.zero=E z) (Y:i.size=size) (a1:i.bytes=bytes) (H:z.cells.size=size) (D:0<size)
  (v:Vk) (n:Nat) (xs:List Vk) (hs:a.eval s=v) (J:w.ownsRow base e size v n xs) (A:Option Addr) (m c:Nat) (cs:List Vk) (hx:a.eval x=T A m c) (C:SlK size w A m cs) (I:∀u∈cs,u.oneCell'=G)
  (a6:n+m<=maxLen) (Z:(n+m)*bytes<=140737488355328) (V:base<=w.heap.size)
  (h:∀v' w',w'.ownsRow base e size v' (n+m) (xs++cs)->w.grownBy w' v.ownBlock->(v'.ownBlock=v.ownBlock∨v'.ownBlock=E w.heap.size)->wpListIn F k P U Q rest (a.put o.dst v') w'):wpListIn F k P U Q (o::rest) a w:=by
 refine wpListIn_plain B λKB a2=>?_;obtain⟨v',w',N,r1,r2,r3⟩:=Gu (P:=P) w base t o.type e i z size bytes ht hi hz Y a1 H D v n xs J A m c cs C I a6 Z V;unfold Oper.wpIn;refine⟨?_,?_⟩
 ·simp[Oper.about,X,resolve,Target.leads,IM]
 ·rw[Oper.semAt_plain F _ _ (by rw[X];intro c j;cases j)];simp[execOp,X,resolve,invoke,builtin,hs,hx,N,Result.andThen];exact a2 _ _ (h v' w' r1 r2 r3)
/-! ### hits -/
def I64(n:Int):Prop:=-9223372036854775808<=n/\n<=9223372036854775807
def IH(h:AF):List Vk:=[R K h.1,R K h.2]
def AV(l:List AF):List Vk:=l.flatMap IH
theorem afo(l:List AF)(h:AF):AV (l++[h])=AV l++[R K h.1,R K h.2]:=by simp[AV,IH]
theorem JT(l m:List AF):AV (l++m)=AV l++AV m:=by simp[AV]
theorem GF:∀(l:List AF),(AV l).length=lc l*2
 |[]=>rfl
 |h::l=>by have:=GF l;simp only[AV,IH,List.flatMap_cons,List.length_append,Ao,Bw]at this⊢;omega
theorem aeK:∀{l:List AF}{i:Nat}{h:AF},l[i]?=E h->(AV l)[i*2]?=E (R K h.1)/\(AV l)[i*2+1]?=E (R K h.2)
 |[],i,h,e=>by simp at e
 |x::l,0,h,e=>by simp at e;subst e;exact⟨rfl,rfl⟩
 |x::l,i+1,h,e=>by
  have Z:=aeK (l:=l) (i:=i) (h:=h) (by simpa using e);have Y:AV (x::l)=R K x.1::R K x.2::AV l:=rfl;rw[Y,show(i+1)*2=i*2+1+1 by omega,show i*2+1+1+1=(i*2+1)+1+1 by omega]
  simpa using Z
theorem MC(l:List AF):∀u∈AV l,u.oneCell'=G:=by
 intro u Z;simp only[AV,Ir,IH]at Z;obtain⟨h,_,Z⟩:=Z;simp at Z
 rcases Z with rfl|rfl<;>rfl
def Hts(w:Wa)(a:Option Addr)(len:Nat)(l:List AF):Prop:=SlK 2 w a len (AV l)/\∀h∈l,I64 h.1/\I64 h.2
theorem Hts.below{w w':Wa}{a:Option Addr}{len:Nat}{l:List AF}(h:Hts w a len l)(Z:La w w'):Hts w' a len l:=⟨h.1.below Z,h.2⟩
theorem Hts.len{w:Wa}{a:Option Addr}{len:Nat}{l:List AF}(h:Hts w a len l):lc l=len:=by have:=h.1.1;rw[GF]at this;omega
theorem Hts.at_{w:Wa}{a:Option Addr}{len:Nat}{l:List AF}(h:Hts w a len l){k:Nat}(hk:k<len) :∃b off x,a=E ⟨b,off,O⟩/\b<w.heap.size/\w.cell? ⟨b,off+k*2,O⟩=E (R K x.1)/\w.cell? ⟨b,off+k*2+1,O⟩=E (R K x.2)/\l[k]?=E x/\I64 x.1/\I64 x.2:=by have V:=h.len;obtain⟨b,off,e,Y,X⟩:=h.1.2.resolve_left om;obtain⟨x,Z⟩:∃x,l[k]?=E x:=⟨l[k]'om,by simp⟩;obtain⟨c0,c1⟩:=aeK Z;exact⟨b,off,x,e,Y,X _ _ c0,by rw[Nat.add_assoc];exact X _ _ c1,Z,(h.2 x (AX Z)).1,(h.2 x (AX Z)).2⟩
abbrev Ax(w:Wa)(base:Nat)(v:Vk)(l:List AF):Prop:=w.ownsRow base 116 2 v (lc l) (AV l)
theorem Ax.hts{w:Wa}{base:Nat}{v:Vk}{l:List AF}(h:Ax w base v l)(Y:∀x∈l,I64 x.1/\I64 x.2):∃a c,v=T a (lc l) c/\lc l<=c/\Hts w a (lc l) l:=by obtain⟨a,c,e,Z,h1⟩:=SlK.own h;exact⟨a,c,e,Z,h1,Y⟩
theorem IG:(ZP.info? 116).map (λi=>(i.zero,i.size,i.bytes))=E (E (i8 #[R K 0,R K 0]),2,16):=by kernel_rfl
section
open Go.ChangeShapes Go.WideShapes Go.ChangeAt Go.RowKit Go.Joins Go.Deep
theorem aj2:ZP.cellsOf 24=2:=by kernel_rfl
theorem aaL:ZP.cellsOf 4=1:=by kernel_rfl
theorem am9:ZP.cellsOf 5=1:=by kernel_rfl
theorem ajD:ZP.cellsOf 32=1:=by kernel_rfl
theorem adF:ZP.cellsOf 22=1:=by kernel_rfl
theorem ar4{n:Int}(h:(Lit.int .i64 n).wf=G):I64 n:=by simp[Lit.wf,IntKind.min,IntKind.max,IntKind.signed,IntKind.bits]at h;exact⟨by omega,by omega⟩
theorem aoU{n:Int}(h:(Lit.int .u8 n).wf=G):0<=n/\n<=255:=by simp[Lit.wf,IntKind.min,IntKind.max,IntKind.signed,IntKind.bits]at h;omega
section
variable {H:Type}{enc:TypeId×Vk->H}{W:Wa}{r:Reach}{base:Nat}{d:DataW H}{p:List MemPlace}{v:Vk}
theorem adU{D:Nat}{v:Vk}{x:DataW H×List MemPlace}(h:DataW.trod enc ZP W 0 (λ_=>G) G D 22 [v]=E x):∃(a:Option Addr)(len cap:Nat)(wss:Lb),v=T a len cap/\Wds W a len wss/\len<=cap/\cap<=maxLen:=by
 rcases open_int_rows underlying22 underlying32 underlying5 ajD am9 h with⟨X,_⟩|⟨x,len,cap,A,LO,C,Z,X,_,hl,hm,_,e⟩
 ·simp at X;exact⟨O,0,0,[],X,⟨[],⟨rfl,.inl rfl⟩,rfl,λi v xs h=>by simp at h⟩,AC _,by unfold maxLen;omega⟩
 ·simp at X;refine⟨E x,len,cap,(List.range len).map λi=>(Z i).take (LO i),X,⟨(List.range len).map λi=>(A i,LO i,C i),⟨by simp,?_⟩,by simp,λi v xs s hx=>?_⟩,hl,hm⟩
  ·by_cases h0:len=0
   ·exact .inl h0
   ·right
    obtain⟨b,off,Y⟩:=x;have J:=(e 0 om).1;obtain rfl:Y=O:=by simpa[Addr.add]using World.cell?_spot J
    refine⟨b,off,rfl,?_,λi u V=>?_⟩
    ·have:=DO W _ J
     rwa[Cf]at this
    ·have U:i<len:=by have:=(AP.1 V).1;simpa using this
     simp[U]at V;have h1:=(e i om).1;rw[Cf]at h1;rw[h1,<-V]
  ·have U:i<len:=by have:=(AP.1 s).1;simpa using this
   simp[U]at s hx;subst s hx;obtain⟨_,a1,a6,hZ,B,a2,hA⟩:=e i om;refine⟨⟨⟨by simp;omega,?_⟩,λn hn=>aoU (B n (EG hn))⟩,a1⟩
   by_cases h0:LO i=0
   ·exact .inl h0
   ·right
    cases I:A i with
    |none=>have:=a2 I;omega
    |some y=>
     obtain⟨_,J⟩:=hA y I;obtain⟨b,off,Y⟩:=y;have N:=J 0 om;obtain rfl:Y=O:=by simpa[Addr.add]using World.cell?_spot N
     refine⟨b,off,rfl,?_,λj u V=>?_⟩
     ·have:=DO W _ N
      rwa[Cf]at this
     ·have hj:j<LO i:=by have:=(AP.1 V).1;simp at this;omega
      have h1:=J j om;rw[Cf]at h1;rw[h1];rw[FT,Lq hj]at V;simp[V]
theorem aqZ(C:Value.okWide ZP W r base 24 v)(h:DataW.Trod enc ZP W 0 (λ_=>G) G 24 v d p) :∃(fold:Bool)(a:Option Addr)(len cap:Nat)(wss:Lb),v=i8 #[i6 fold,T a len cap]/\Wds W a len wss/\len<=cap/\cap<=maxLen:=by
 obtain⟨cs,rfl,V⟩:=okWide_struct underlying24 C;obtain⟨l⟩:=cs
 match l,V.trans aj2 with
 |[c0,c1],_=>
  obtain⟨J,A⟩:=h;obtain⟨xs,n,_,_,_,Z,N⟩:=DataW.trod_struct underlying24 A;have U:lc xs=2:=Z;obtain⟨y0,X⟩:∃y,xs[0]?=E y:=⟨xs[0]'om,by simp⟩;obtain⟨e,Y⟩:∃y,xs[1]?=E y:=⟨xs[1]'om,by simp⟩;have h0:=N 0;simp only[pD,pE,pF,DC,forall_eq',aaL,X]at h0;obtain⟨b,I,_⟩:=DataW.trod_bool underlying4 h0;have h1:=N 1;simp only[pD,pE,pF,DC,forall_eq',adF,Y]at h1;simp[Value.cells]at I h1;obtain⟨a,len,cap,wss,j,D,s,B⟩:=adU h1;exact⟨b,a,len,cap,wss,by rw[I,j],D,s,B⟩
end
end
def Cb(bl:Nat)(W:Wa):Option Nat:=(W.cell? ⟨bl,0,O⟩).bind Value.ownBlock
def KpL(bl:Nat)(W Z:Wa):Prop:=
 W.heap.size<=Z.heap.size/\(∀k cs t f,W.heap[k]?=E (i7 cs t f)->k≠bl->Cb bl W≠E k->Z.heap[k]?=E (i7 cs t f))/\(Cb bl Z=Cb bl W∨∃r,Cb bl Z=E r/\W.heap.size<=r/\r<Z.heap.size)
theorem KpL.lt{bl:Nat}{W:Wa}{k:Nat}{cs:Array Vk}{t:TypeId}{f:Nat×Nat}(h:W.heap[k]?=E (i7 cs t f)):k<W.heap.size:=(AD.1 h).1
theorem KpL.b{bl:Nat}{w:Wa}(X:bl<w.heap.size)(W:Wa)(l:Nat)(o o':Obj)(Y:w.heap.size<=l)(h:W.heap[l]?=E o)(Z:o.isCells=M)(_:o.isWalk=M):KpL bl W (W.putObj l o'):=by
 refine⟨by simp[World.putObj],λk cs t f hk _ _=>?_,.inl ?_⟩
 ·rw[Cm (λe=>?_)]
  ·exact hk
  ·rw[e,h]at hk
   cases hk
   cases Z
 ·unfold Cb;rw[BC (a:=⟨bl,0,O⟩) (Cm (by show bl≠l;omega))]
section
variable {bl g:Nat}{w W V:Wa}
end
theorem KpL.of_below{bl:Nat}{W V:Wa}(Z:La W V)(Y:bl<W.heap.size):KpL bl W V:=⟨Z.size,λk cs t f hk _ _=>(Z.block k (KpL.lt (bl:=bl) hk)).trans hk,.inl (by unfold Cb;rw[BC (a:=⟨bl,0,O⟩) (Z.block bl Y)])⟩
theorem DG{α:Type}{enc:α->Vk}{w:Wa}{a:Option Addr}{n:Nat}{xs:List α}(h:Sl1 enc w a n xs){k:Nat}(hk:k<n):∃b off x,a=E ⟨b,off,O⟩/\b<w.heap.size/\w.cell? ⟨b,off+k,O⟩=E (enc x)/\xs[k]?=E x:=by obtain⟨h1,h2⟩:=h;obtain⟨b,off,e,Z,X⟩:=h2.resolve_left om;obtain⟨x,Y⟩:∃x,xs[k]?=E x:=⟨xs[k]'om,by simp⟩;exact⟨b,off,x,e,Z,X k x Y,Y⟩
section
open Go.Shelf
def abg:Go.Shelf.Ren:=⟨fun|6=>182|15=>227|14=>226|28=>265|29=>266|20=>257|21=>258|22=>259|23=>260|24=>261|25=>262|26=>263|27=>264|46=>288|47=>289|48=>290|49=>291|50=>292|57=>296|n=>n,fun|22=>231|24=>9|25=>291|3=>3|39=>324|0=>0|53=>363|55=>365|4=>4|46=>357|45=>356|50=>40|5=>5|9=>9|66=>382|70=>386|76=>400|77=>401|n=>n,fun|n=>n⟩
theorem an5:Go.Proofs.SlLaysF.n6 ZP abg:={
 mixed:=by kernel_rfl
 f6:=⟨f182.name,by decide,func182.trans (congrArg E kr)⟩
 f14:=⟨f226.name,by decide,func226.trans (congrArg E kr)⟩
 f15:=func227.trans (congrArg E kr)
 f20:=⟨f257.name,by decide,func257.trans (congrArg E kr)⟩
 f21:=⟨f258.name,by decide,func258.trans (congrArg E kr)⟩
 f22:=⟨f259.name,by decide,func259.trans (congrArg E kr)⟩
 f23:=⟨f260.name,by decide,func260.trans (congrArg E kr)⟩
 f24:=⟨f261.name,by decide,func261.trans (congrArg E kr)⟩
 f25:=⟨f262.name,by decide,func262.trans (congrArg E kr)⟩
 f26:=⟨f263.name,by decide,func263.trans (congrArg E kr)⟩
 f27:=⟨f264.name,by decide,func264.trans (congrArg E kr)⟩
 f28:=func265.trans (congrArg E kr)
 f29:=func266.trans (congrArg E kr)
 f46:=⟨f288.name,by decide,func288.trans (congrArg E kr)⟩
 f47:=func289.trans (congrArg E kr)
 f48:=func290.trans (congrArg E kr)
 f49:=⟨f291.name,by decide,func291.trans (congrArg E kr)⟩
 f50:=⟨f292.name,by decide,func292.trans (congrArg E kr)⟩
 f57:=⟨f296.name,by decide,func296.trans (congrArg E kr)⟩
 t0:=underlying0
 a0:=Tryz.isAgg0
 z0:=Tryz.sizeOf0
 v0:=Tryz.zeroValue0
 t3:=underlying3
 a3:=Tryz.isAgg3
 z3:=Tryz.sizeOf3
 v3:=Tryz.zeroValue3
 t4:=underlying4
 a4:=Tryz.isAgg4
 z4:=Tryz.sizeOf4
 v4:=Tryz.zeroValue4
 t5:=underlying5
 a5:=Tryz.isAgg5
 z5:=Tryz.sizeOf5
 v5:=Tryz.zeroValue5
 t9:=underlying9
 a9:=Tryz.isAgg9
 z9:=Tryz.sizeOf9
 v9:=Tryz.zeroValue9
 t22:=underlying231
 a22:=Tryz.isAgg231
 z22:=Tryz.sizeOf231
 v22:=Tryz.zeroValue231
 a24:=Tryz.isAgg9
 z24:=Tryz.sizeOf9
 t25:=underlying291
 a25:=Tryz.isAgg291
 z25:=Tryz.sizeOf291
 v25:=Tryz.zeroValue291
 t39:=underlying324
 a39:=Tryz.isAgg324
 z39:=Tryz.sizeOf324
 v39:=Tryz.zeroValue324
 t45:=underlying356
 a45:=Tryz.isAgg356
 z45:=Tryz.sizeOf356
 v45:=Tryz.zeroValue356
 t46:=underlying357
 a46:=Tryz.isAgg357
 z46:=Tryz.sizeOf357
 v46:=Tryz.zeroValue357
 t50:=underlying40
 a50:=Tryz.isAgg40
 z50:=Tryz.sizeOf40
 v50:=Tryz.zeroValue40
 t53:=underlying363
 a53:=Tryz.isAgg363
 z53:=Tryz.sizeOf363
 v53:=Tryz.zeroValue363
 t55:=underlying365
 a55:=Tryz.isAgg365
 z55:=Tryz.sizeOf365
 v55:=Tryz.zeroValue365
 t66:=underlying382
 a66:=Tryz.isAgg382
 z66:=Tryz.sizeOf382
 v66:=Tryz.zeroValue382
 t70:=underlying386
 a70:=Tryz.isAgg386
 z70:=Tryz.sizeOf386
 v70:=Tryz.zeroValue386
 t76:=underlying400
 a76:=Tryz.isAgg400
 z76:=Tryz.sizeOf400
 v76:=Tryz.zeroValue400
 t77:=underlying401
 a77:=Tryz.isAgg401
 z77:=Tryz.sizeOf401
 v77:=Tryz.zeroValue401}
end
def lexB:List Int->List Int->Bool
 |x::xs,y::ys=>if x<y then G else if y<x then M else lexB xs ys
 |_,_=>M
def ltS(x y:List Int):Bool:=if lc x<lc y then G else if lc y<lc x then M else lexB x y
theorem abh:∀x,lexB x x=M
 |[]=>rfl
 |x::xs=>by simp[lexB,abh xs]
theorem acl:∀{x y z:List Int},lexB x y=G->lexB y z=G->lexB x z=G
 |[],_,_,h,_=>by simp[lexB]at h
 |_::_,[],_,h,_=>by simp[lexB]at h
 |_::_,_::_,[],_,h=>by simp[lexB]at h
 |x::xs,y::ys,z::zs,h1,h2=>by
  have Y:=acl (x:=xs) (y:=ys) (z:=zs);unfold lexB at h1 h2⊢
  by_cases a:x<y
  ·by_cases b:y<z
   ·rw[Lq om]
   ·rw[Lc b]at h2
    by_cases c:z<y
    ·rw[Lq c]at h2;cases h2
    ·rw[Lq om]
  ·rw[Lc a]at h1
   by_cases Z:y<x
   ·rw[Lq Z]at h1;cases h1
   ·rw[Lc Z]at h1
    by_cases b:y<z
    ·rw[Lq om]
    ·rw[Lc b]at h2
     by_cases c:z<y
     ·rw[Lq c]at h2;cases h2
     ·rw[Lc c]at h2;rw[Lc om,Lc om];exact Y h1 h2
theorem acg:∀{x y:List Int},lc x=lc y->lexB x y=M->lexB y x=M->x=y
 |[],[],_,_,_=>rfl
 |[],_::_,h,_,_=>by simp at h
 |_::_,[],h,_,_=>by simp at h
 |x::xs,y::ys,h,h1,h2=>by
  unfold lexB at h1 h2
  by_cases a:x<y
  ·rw[Lq a]at h1;cases h1
  ·by_cases b:y<x
   ·rw[Lq b]at h2;cases h2
   ·rw[Lc a,Lc b]at h1;rw[Lc b,Lc a]at h2;have e:x=y:=by omega
    rw[e,acg (by simpa using h) h1 h2]
theorem Ls(x:List Int):ltS x x=M:=by simp[ltS,abh]
theorem Nd{x y z:List Int}(h1:ltS x y=G)(h2:ltS y z=G):ltS x z=G:=by
 unfold ltS at h1 h2⊢
 by_cases a:lc x<lc y
 ·by_cases b:lc y<lc z
  ·rw[Lq om]
  ·rw[Lc b]at h2
   by_cases c:lc z<lc y
   ·rw[Lq c]at h2;cases h2
   ·rw[Lq om]
 ·rw[Lc a]at h1
  by_cases Z:lc y<lc x
  ·rw[Lq Z]at h1;cases h1
  ·rw[Lc Z]at h1
   by_cases b:lc y<lc z
   ·rw[Lq om]
   ·rw[Lc b]at h2
    by_cases c:lc z<lc y
    ·rw[Lq c]at h2;cases h2
    ·rw[Lc c]at h2;rw[Lc om,Lc om];exact acl h1 h2
theorem ajX{x y:List Int}(h:ltS x y=G):ltS y x=M:=by
 cases e:ltS y x with
 |false=>rfl
 |true=>have:=Nd h e;rw[Ls]at this;cases this
theorem Nf{x y:List Int}(h1:ltS x y=M)(h2:ltS y x=M):x=y:=by
 unfold ltS at h1 h2
 by_cases a:lc x<lc y
 ·rw[Lq a]at h1;cases h1
 ·by_cases b:lc y<lc x
  ·rw[Lq b]at h2;cases h2
  ·rw[Lc a,Lc b]at h1;rw[Lc b,Lc a]at h2;exact acg om h1 h2
theorem ag6{x y:List Int}(h:ltS x y=G):lc x<=lc y:=by
 unfold ltS at h
 by_cases a:lc x<lc y
 ·omega
 ·rw[Lc a]at h
  by_cases b:lc y<lc x
  ·rw[Lq b]at h;cases h
  ·omega
abbrev ED(l:Lb):Prop:=l.Pairwise (λa b=>ltS a b=G)
theorem ED.nodup{l:Lb}(h:ED l):l.Nodup:=by rw[List.nodup_iff_pairwise_ne];exact h.imp λZ e=>by rw[e,Ls]at Z;cases Z
theorem ac2:∀{l m:Lb},ED l->ED m->(∀x,x∈l↔x∈m)->l=m
 |[],[],_,_,_=>rfl
 |[],b::m,_,_,h=>by have:=(h b).2 sm;simp at this
 |a::l,[],_,_,h=>by have:=(h a).1 sm;simp at this
 |a::l,b::m,h1,h2,h=>by
  rw[ED,Jn]at h1 h2;have N:a=b:=by
   have ha:=(h a).1 sm;have U:=(h b).2 sm
   rcases CR.1 ha with e|ha
   ·exact e
   ·rcases CR.1 U with e|U
    ·exact e.symm
    ·have I:=h2.1 a ha;have J:=h1.1 b U;rw[ajX I]at J
     cases J
  subst N;have V:a ∉ l:=λZ=>by have:=h1.1 a Z;rw[Ls]at this;cases this
  have X:a ∉ m:=λZ=>by have:=h2.1 a Z;rw[Ls]at this;cases this
  congr 1;refine ac2 h1.2 h2.2 λx=>⟨λY=>?_,λY=>?_⟩
  ·rcases CR.1 ((h x).1 (by simp[Y]))with e|Z
   ·subst e;exact absurd Y V
   ·exact Z
  ·rcases CR.1 ((h x).2 (by simp[Y]))with e|Z
   ·subst e;exact absurd Y X
   ·exact Z
def Hy(l:Lb)(b:List Int):Lb:=
 match l with
 |[]=>[b]
 |x::xs=>if ltS x b then x::Hy xs b else if x=b then x::xs else b::x::xs
theorem adw:∀{l:Lb}{b x:List Int},x∈Hy l b↔x=b∨x∈l
 |[],b,x=>by simp[Hy]
 |y::ys,b,x=>by
  have Z:=adw (l:=ys) (b:=b) (x:=x);unfold Hy
  split
  ·rw[CR,Z,CR]
   constructor
   ·rintro(h|h|h)
    ·exact .inr (.inl h)
    ·exact .inl h
    ·exact .inr (.inr h)
   ·rintro(h|h|h)
    ·exact .inr (.inl h)
    ·exact .inl h
    ·exact .inr (.inr h)
  ·split
   ·rename_i e
    rw[CR]
    constructor
    ·rintro(h|h)
     ·exact .inl (h.trans e)
     ·exact .inr (.inr h)
    ·rintro(h|h|h)
     ·exact .inl (h.trans e.symm)
     ·exact .inl h
     ·exact .inr h
   ·rw[CR,CR]
theorem agh:∀{l:Lb}{b:List Int},ED l->ED (Hy l b)
 |[],b,_=>by simp[Hy]
 |y::ys,b,h=>by
  have X:=h;rw[ED,Jn]at X;have V:=agh (b:=b) X.2;unfold Hy
  split
  ·rename_i e
   rw[ED,Jn];refine⟨λx Z=>?_,V⟩
   rcases adw.1 Z with rfl|Z
   ·exact e
   ·exact X.1 x Z
  ·split
   ·exact h
   ·rename_i U e2
    rw[ED,Jn];have Y:ltS b y=G:=by
     cases e:ltS b y with
     |true=>rfl
     |false=>exact absurd (Nf (by simpa using U) e) e2
    refine⟨λx Z=>?_,h⟩
    rcases CR.1 Z with rfl|Z
    ·exact Y
    ·exact Nd Y (X.1 x Z)
def Ei(wss:Lb)(x:List Int):Prop:=x=[]∨∃w∈wss,∃k,1<=k/\k<=lc w/\x=w.take k
theorem Ei.iff{wss:Lb}{x:List Int}:Ei wss x↔x=[]∨x≠[]/\∃w∈wss,x <+: w:=by
 constructor
 ·rintro(h|⟨w,hw,k,h1,h2,rfl⟩)
  ·exact .inl h
  ·right
   refine⟨λe=>?_,w,hw,List.take_prefix _ _⟩;have:=congrArg List.length e;rw[Ag,Bw]at this;omega
 ·rintro(h|⟨h0,w,hw,h⟩)
  ·exact .inl h
  ·right
   obtain⟨t,rfl⟩:=h;refine⟨_,hw,lc x,?_,by simp,by simp⟩
   cases x with
   |nil=>exact absurd rfl h0
   |cons a b=>simp
theorem Ei.up{wss:Lb}{x:List Int}(h:Ei wss x):Ei wss x.dropLast:=by
 rw[Ei.iff]at h⊢
 rcases h with rfl|⟨h0,w,Z,Y⟩
 ·exact .inl rfl
 ·by_cases e:x.dropLast=[]
  ·exact .inl e
  ·exact .inr ⟨e,w,Z,(List.dropLast_prefix x).trans Y⟩
def putW(l:Lb)(w:List Int)(k:Nat):Lb:=(List.range k).foldl (λl j=>Hy l (w.take (j+1))) l
theorem adB(l:Lb)(w:List Int)(k:Nat):putW l w (k+1)=Hy (putW l w k) (w.take (k+1)):=by simp[putW,El,FI]
theorem agt{l:Lb}{w:List Int}(h:ED l):∀k,ED (putW l w k)
 |0=>by simpa[putW]using h
 |k+1=>by rw[adB];exact agh (agt h k)
theorem agn{l:Lb}{w x:List Int}:∀{k:Nat},x∈putW l w k↔x∈l∨∃j,1<=j/\j<=k/\x=w.take j
 |0=>by simp[putW];omega
 |k+1=>by
  rw[adB,adw,agn (k:=k)]
  constructor
  ·rintro(h|h|⟨j,h1,h2,h3⟩)
   ·exact .inr ⟨k+1,by omega,by omega,h⟩
   ·exact .inl h
   ·exact .inr ⟨j,h1,by omega,h3⟩
  ·rintro(h|⟨j,h1,h2,h3⟩)
   ·exact .inr (.inl h)
   ·by_cases e:j=k+1
    ·subst e;exact .inl h3
    ·exact .inr (.inr ⟨j,h1,by omega,h3⟩)
def AB(wss:Lb):Lb:=wss.foldl (λl w=>putW l w (lc w)) [[]]
theorem abb(wss:Lb)(w:List Int):AB (wss++[w])=putW (AB wss) w (lc w):=by simp[AB,FI]
theorem CL(wss:Lb):ED (AB wss):=by refine IT (P:=λwss=>ED (AB wss)) (by simp[AB]) (λl x Z=>?_) wss;rw[abb];exact agt Z _
theorem DT{x:List Int}(wss:Lb):x∈AB wss↔Ei wss x:=by
 refine IT (P:=λwss=>x∈AB wss↔Ei wss x) (by simp[AB,Ei]) (λl w Y=>?_) wss;rw[abb,agn,Y];unfold Ei
 constructor
 ·rintro((h|⟨v,Z,r⟩)|⟨j,h1,h2,h3⟩)
  ·exact .inl h
  ·exact .inr ⟨v,by simp[Z],r⟩
  ·exact .inr ⟨w,by simp,j,h1,h2,h3⟩
 ·rintro(h|⟨v,Z,r⟩)
  ·exact .inl (.inl h)
  ·rcases Bf.1 Z with Z|Z
   ·exact .inl (.inr ⟨v,Z,r⟩)
   ·simp at Z;subst Z;exact .inr r
theorem adt{wss l:Lb}(h1:ED l)(h2:∀x,x∈l↔Ei wss x):l=AB wss:=ac2 h1 (CL wss) λx=>(h2 x).trans (DT wss).symm
theorem Lo(wss:Lb):AB wss≠[]:=λe=>by have:=(DT (x:=[]) wss).2 (.inl rfl);rw[e]at this;cases this
theorem CM(wss:Lb):(AB wss)[0]?=E []:=by
 have h1:=CL wss;have h2:=(DT (x:=[]) wss).2 (.inl rfl)
 revert h1 h2
 cases AB wss with
 |nil=>intro _ h;cases h
 |cons a l=>
  intro h1 h2;rw[ED,Jn]at h1
  rcases CR.1 h2 with e|h
  ·simp[e]
  ·have:=ag6 (h1.1 _ h);simp at this;simp[this]
def CW(l:Lb)(b:List Int):Int:=if b∈l then(l.idxOf b:Int) else -1
theorem CV{l:Lb}(Z:l.Nodup){i:Nat}{b:List Int}(h:l[i]?=E b):CW l b=i:=by have Y:=(AP.1 h).1;unfold CW;rw[Lq (AX h)];have:=List.Nodup.idxOf_getElem Z i Y;rw[(AP.1 h).2]at this;rw[this]
theorem abt{l:Lb}{b:List Int}(h:b ∉ l):CW l b=-1:=by unfold CW;rw[Lc h]
def DU(x:List Int):Int:=(x.getLast?).getD 0
structure Ay where
 up:List Int
 dep:List Int
 wrd:List Int
 byt:List Int
def AG(wss:Lb):Ay:=
 ⟨(AB wss).map λx=>CW (AB wss) x.dropLast,(AB wss).map λx=>(lc x:Int),(AB wss).map λx=>CW wss x,(AB wss).map DU⟩
section
open Go.RowKit Go.Sort Go.Shelf
def acL:Go.Shelf.Ren:=⟨fun|106=>186|213=>229|265=>267|n=>n,fun|3=>3|9=>9|n=>n,fun|n=>n⟩
theorem aot:Go.Proofs.Lays.n106 ZP acL:={
 mixed:=by kernel_rfl
 f106:=func186.trans (congrArg E kr)
 f213:=func229.trans (congrArg E kr)
 f265:=func267.trans (congrArg E kr)
 t3:=underlying3
 a3:=Tryz.isAgg3
 z3:=Tryz.sizeOf3
 v3:=Tryz.zeroValue3
 t9:=underlying9
 a9:=Tryz.isAgg9
 z9:=Tryz.sizeOf9
 v9:=Tryz.zeroValue9}
theorem akP(a b:ByteArray)(w:Wa):Calls ZP 186 #[.string a,.string b] w λe w'=>e=ra (R K (Lib.compareBytes a.data.toList b.data.toList))/\w=w':=(Any.strings_Compare (P:=ZP) (ρ:=acL) aot a b w).mono λe w' ⟨h1,h2⟩=>⟨h1,h2.symm⟩
abbrev Byt:=List UInt8
def Bh(l:Byt):ByteArray:=⟨l.toArray⟩
abbrev Ca(l:Byt):Vk:=.string (Bh l)
def toI(l:Byt):List Int:=l.map λb=>(b.toNat:Int)
theorem Ml(l:Byt):(toI l).length=lc l:=by simp[toI]
theorem LS:∀{x y:Byt},toI x=toI y->x=y
 |[],[],_=>rfl
 |[],_::_,h=>by simp[toI]at h
 |_::_,[],h=>by simp[toI]at h
 |a::x,b::y,h=>by simp only[toI,BO,MY]at h;have h1:a=b:=UInt8.toNat_inj.1 om;rw[h1,LS h.2]
def cfS(a b:Byt):Int:=orL [DK (lc a) (lc b),Lib.compareBytes a b]
theorem abT:∀{x y:Byt},lc x=lc y->(decide (Lib.compareBytes x y<0)=lexB (toI x) (toI y))
 |[],[],_=>rfl
 |[],_::_,h=>by simp at h
 |_::_,[],h=>by simp at h
 |a::x,b::y,h=>by
  have X:=abT (x:=x) (y:=y) (by simpa using h);have V:(a<b)=((a.toNat:Int)<b.toNat):=by rw[UInt8.lt_iff_toNat_lt];exact propext om
  have e2:(b<a)=((b.toNat:Int)<a.toNat):=by rw[UInt8.lt_iff_toNat_lt];exact propext om
  have h1:toI (a::x)=(a.toNat:Int)::toI x:=rfl;have h2:toI (b::y)=(b.toNat:Int)::toI y:=rfl;rw[h1,h2];unfold Lib.compareBytes lexB;simp only[V,e2]
  by_cases Z:(a.toNat:Int)<b.toNat
  ·simp[Z]
  ·by_cases Y:(b.toNat:Int)<a.toNat
   ·simp[Z,Y]
   ·rw[Lc Z,Lc Y,Lc Z,Lc Y];exact X
theorem Lt(x y:Byt):ltOf cfS x y=ltS (toI x) (toI y):=by
 unfold ltOf cfS ltS;rw[Ml,Ml]
 by_cases h1:lc x<lc y
 ·rw[Lq h1];have:DK (lc x:Int) (lc y:Int)=-1:=by unfold DK;rw[Lq om]
  simp[orL,this]
 ·rw[Lc h1]
  by_cases h2:lc y<lc x
  ·rw[Lq h2];have:DK (lc x:Int) (lc y:Int)=1:=by unfold DK;rw[Lc om,Lq om]
   simp[orL,this]
  ·rw[Lc h2,<-abT om];have:DK (lc x:Int) (lc y:Int)=0:=by unfold DK;rw[Lc om,Lc om]
   rw[this]
   by_cases e:Lib.compareBytes x y=0
   ·simp[orL,e]
   ·simp[orL,e]
theorem Ns:SWO (ltOf cfS) where
 irrefl x:=by rw[Lt,Ls]
 trans x y z h1 h2:=by rw[Lt]at h1 h2⊢;exact Nd h1 h2
 ntrans x y z h1 h2:=by
  rw[Lt]at h1 h2⊢
  cases e:ltS (toI x) (toI z)with
  |false=>rfl
  |true=>
   exfalso
   cases Z:ltS (toI y) (toI x)with
   |true=>rw[Nd Z e]at h2;cases h2
   |false=>rw[Nf h1 Z]at e;rw[e]at h2;cases h2
theorem ajS(x y:Byt)(h1:ltOf cfS x y=M)(h2:ltOf cfS y x=M):x=y:=by rw[Lt]at h1 h2;exact LS (Nf h1 h2)
theorem ahr(a b:Byt)(w:Wa) :Calls ZP 183 #[Ca a,Ca b] w λe w'=>e=ra (R K (cfS a b))/\∃q os,w'=grow (w.drewN q) os:=by
 have I:Hid (cfS a b=orL [DK (lc a) (lc b),Lib.compareBytes a b]):=rfl;have Y:(Bh a).size=lc a:=by simp[Bh,ByteArray.size]
 have Z:(Bh b).size=lc b:=by simp[Bh,ByteArray.size]
 have U:=akP (Bh a) (Bh b);have N:(Bh a).data.toList=a:=by simp[Bh]
 have e2:(Bh b).data.toList=b:=by simp[Bh]
 rw[N,e2]at U;obtain⟨v,V⟩:∃s,Bh a=s:=⟨_,rfl⟩;obtain⟨A,X⟩:∃s,Bh b=s:=⟨_,rfl⟩;unfold Ca;rw[V]at Y U⊢;rw[X]at Z U⊢;have H:=AA U;have C:=AA Y;have D:=AA Z;clear U Y Z N e2 V X;go_enter func183,ntmps183
 go_wp2_with fail
 refine(afN _ _ _).mono ?_;rintro e J ⟨rfl,rfl⟩
 go_wp2_with fail
 refine(H.out _).mono ?_;rintro e J ⟨rfl,rfl⟩
 go_wp2_with fail
 rw[C.out,D.out];refine(aoO _ _ _ [DK (lc a) (lc b),Lib.compareBytes a b] _ (Sl1.lay _ _ [DK (lc a) (lc b),Lib.compareBytes a b] _ _ sm) sm).mono ?_;rintro e B ⟨rfl,rfl⟩;go_wp2;go_ret;exact⟨by rw[I.out];rfl,0,#[_],rfl⟩
end
section
open Go.RowKit Go.Sort Go.Maps Go.WideAt Go.WideMaps
def ofI(xs:List Int):Byt:=xs.map λn=>UInt8.ofNat n.toNat
theorem agO(xs:List Int):strOfNums xs=Bh (ofI xs):=rfl
theorem Mj{xs:List Int}(h:∀x∈xs,0<=x/\x<=255):toI (ofI xs)=xs:=by
 unfold toI ofI;rw[List.map_map]
 conv=>rhs;rw[<-List.map_id xs]
 apply OJ
 intro x Z;have:=h x Z;simp only[Function.comp,id,UInt8.toNat_ofNat'];omega
theorem ao9(l:Byt):ofI (toI l)=l:=LS (Mj λx Z=>by unfold toI at Z;obtain⟨b,_,rfl⟩:=Be.1 Z;have:=b.toNat_lt;omega)
theorem Oe(l:Byt):(Bh l).size=lc l:=by simp[Bh,ByteArray.size]
theorem LV:Keyed ZP 9:=Keyed.of_law (string_law underlying9)
theorem LW(l:Byt)(h:lc l<=maxLen):keyOf ZP 9 (Ca l)=E (.string l):=by
 have:=keyOf_string_mk (P:=ZP) underlying9 (s:=Bh l) (by rw[Oe];exact h);have e:(Bh l).data.toList=l:=by simp[Bh]
 rw[e]at this;exact this
theorem aeQ(w:Wa):(zeroValue 3).run ZP w=.ok (R K 0) w:=by kernel_rfl
def MS(W:Wa)(b n:Nat)(f:Byt->Option Int):Prop:=
 ∃D:DataW Unit,W.ownsMap ZP 9 (plainElem ZP 3) b n D/\IsMap D/\∀l:Byt,Maps.has D (.string l)=(f l).isSome/\∀m,f l=E m->D.atKey (.string l) (.lit (.int .i64 0))=.lit (.int .i64 m)
theorem MS.start{b:Nat}(w:Wa)(Z:w.ownsMap ZP 9 (plainElem ZP 3) b 0 (.map []:DataW Unit)):MS w b 0 (λ_=>O):=⟨_,Z,isMap_empty,λl=>⟨rfl,λm h=>by cases h⟩⟩
theorem MS.kept{W Y:Wa}{b n:Nat}{f:Byt->Option Int}{row:Option Nat}(h:MS W b n f)(X:W.grownBy Y row)(Z:row≠E b):MS Y b n f:=by obtain⟨D,h1,h2⟩:=h;exact⟨D,h1.kept X (λe=>Z e.symm),h2⟩
theorem MS.alloc{W:Wa}{b n:Nat}{f:Byt->Option Int}(h:MS W b n f)(o:Obj):MS (W.alloc o) b n f:=by obtain⟨D,h1,h2⟩:=h;exact⟨D,h1.alloc o,h2⟩
section
variable {w:Wa}{ops:Array Oper}{rest:List Oper}{o:Oper}{a:Act}{Q:Exit->Act->Wa->Prop}{b n:Nat}{f:Byt->Option Int}
theorem OR(I:o.guard=O)(m x:Operand)(Y:o.op=Op.lookup 228 m x G)(N:a.eval m=.map (E b))(Z:MS w b n f)(l:Byt)(V:a.eval x=Ca l)(J:lc l<=maxLen)
  (H:∀c:Int,(∀q,f l=E q->c=q)->wpList ZP ops Q rest (a.put o.dst (ta #[R K c,i6 (f l).isSome])) w):wpList ZP ops Q (o::rest) a w:=by
 obtain⟨D,h1,h2,h3⟩:=Z;refine wpList_lookup_own_ok_int _ I m x 228 Y 9 3 .i64 LV underlying228 underlying3 (aeQ _) b n D N h1 _ _ V (LW l J) ?_;intro c X _;rw[(h3 l).1];exact H c λq U=>by have:=X.symm.trans ((h3 l).2 q U);simpa using this
theorem MS.put_{D:DataW Unit}{v:Int}{l:Byt}(h2:IsMap D)(h3:∀l:Byt,Maps.has D (.string l)=(f l).isSome/\∀m,f l=E m->D.atKey (.string l) (.lit (.int .i64 0))=.lit (.int .i64 m))(V:lc l<=maxLen) :IsMap (D.put (.string l) (.lit (.int .i64 v)))/\∀k:Byt,Maps.has (D.put (.string l) (.lit (.int .i64 v))) (.string k)=(if k=l then E v else f k).isSome/\∀m,(if k=l then E v else f k)=E m->(D.put (.string l) (.lit (.int .i64 v))).atKey (.string k) (.lit (.int .i64 0))=.lit (.int .i64 m):=by
 have Z:=LV.key (LW l V);refine⟨h2.put _ _,λk=>?_⟩
 by_cases e:k=l
 ·subst e;rw[Lq rfl];refine⟨by rw[has_put_same h2 Z];rfl,λm Y=>?_⟩;obtain rfl:=AK Y;rw[atKey_put_same h2 Z]
 ·have X:(Lit.string k)≠Lit.string l:=λh=>e (by injection h);rw[Lc e];exact⟨by rw[has_put_other X,(h3 k).1],λm Y=>by rw[atKey_put_other X,(h3 k).2 m Y]⟩
theorem OQ(s:o.guard=O)(m x y:Operand)(Y:o.op=Op.mapUpdate 228 m x y)(A:a.eval m=.map (E b))(Z:MS w b n f)(B:n<maxLen)(l:Byt)(v:Int)(C:(Lit.int .i64 v).wf=G)(I:a.eval x=Ca l)(J:a.eval y=.int .i64 v)(V:lc l<=maxLen)
  (j:∀w',MS w' b (n+1) (λk=>if k=l then E v else f k)->w.grownBy w' (E b)->wpList ZP ops Q rest (a.put o.dst undef) w'):wpList ZP ops Q (o::rest) a w:=by
 obtain⟨D,h1,h2,h3⟩:=Z;obtain⟨N,U⟩:=MS.put_ (f:=f) (v:=v) h2 h3 V;refine wpList_mapUpdate_own _ s m x y 228 Y 9 3 LV underlying228 _ b n D A h1 B _ _ _ I J (LW l V) _ [] (plainElem_int underlying3 C) ?_;intro w' H X;exact j w' ⟨_,H,N,U⟩ X
theorem ade(e:o.guard=O)(m x y:Operand)(X:o.op=Op.insert 228 m x y)(j:a.eval m=.map (E b))(Y:MS w b n f)(s:n<maxLen)(l:Byt)(v:Int)(A:(Lit.int .i64 v).wf=G)(B:a.eval x=Ca l)(C:a.eval y=.int .i64 v)(U:lc l<=maxLen)
  (hK:∀w',MS w' b (n+1) (λk=>if k=l then E v else f k)->w.grownBy w' (E b)->wpList ZP ops Q rest (a.put o.dst undef) w'):wpList ZP ops Q (o::rest) a w:=by
 obtain⟨D,h1,h2,h3⟩:=Y;obtain⟨H,I⟩:=MS.put_ (f:=f) (v:=v) h2 h3 U;refine wpList_plain e λK' V=>?_;obtain⟨w',Z,J,N⟩:=h1.update LV underlying228 s (LW l U) (plainElem_int underlying3 A);unfold Oper.wp;simp[execOp,X,j,B,C,Z,Result.andThen];exact V _ _ (hK w' ⟨_,J,H,I⟩ N)
end
end
/-! ### plain -/
def Gk(l:List Byt)(b:Byt):List Byt:=if b∈l then l else l++[b]
def ER(l:List Byt)(x:Byt)(k:Nat):List Byt:=(List.range k).foldl (λl j=>Gk l (x.take (j+1))) l
def Eg(ws:List Byt):List Byt:=ws.foldl (λl x=>ER l x (lc x)) [[]]
theorem Nu(l:List Byt)(x:Byt)(k:Nat):ER l x (k+1)=Gk (ER l x k) (x.take (k+1)):=by simp[ER,El,FI]
theorem aav(ws:List Byt)(x:Byt):Eg (ws++[x])=ER (Eg ws) x (lc x):=by simp[Eg,FI]
theorem alv{l:List Byt}{b x:Byt}:x∈Gk l b↔x∈l∨x=b:=by
 unfold Gk
 split
 ·constructor
  ·exact .inl
  ·rintro(h|rfl)<;>assumption
 ·simp
theorem ahC{l:List Byt}{b:Byt}(h:l.Nodup):(Gk l b).Nodup:=by
 unfold Gk
 split
 ·exact h
 ·rename_i Y
  rw[List.nodup_append];refine⟨h,by simp,λa ha c Z e=>?_⟩;simp at Z;subst Z;subst e;exact Y ha
theorem amn(l:List Byt)(b:Byt):lc l<=(Gk l b).length/\(Gk l b).length<=lc l+1:=by
 unfold Gk
 split<;>simp
theorem abF(l:List Byt)(x:Byt):∀k,lc l<=(ER l x k).length/\(ER l x k).length<=lc l+k
 |0=>by simp[ER]
 |k+1=>by have h1:=abF l x k;have h2:=amn (ER l x k) (x.take (k+1));rw[Nu];omega
theorem acx{l:List Byt}(x:Byt)(h:l.Nodup):∀k,(ER l x k).Nodup/\∀y,y∈ER l x k↔y∈l∨∃j,1<=j/\j<=k/\y=x.take j
 |0=>by
  refine⟨by simpa[ER]using h,λy=>?_⟩
  constructor
  ·intro Z;exact .inl (by simpa[ER]using Z)
  ·rintro(Z|⟨j,h1,h2,_⟩)
   ·simpa[ER]using Z
   ·omega
 |k+1=>by
  obtain⟨h1,h2⟩:=acx x h k;rw[Nu];refine⟨ahC h1,λy=>?_⟩;rw[alv,h2]
  constructor
  ·rintro((Z|⟨j,a1,a2,a3⟩)|Z)
   ·exact .inl Z
   ·exact .inr ⟨j,a1,by omega,a3⟩
   ·exact .inr ⟨k+1,by omega,by omega,Z⟩
  ·rintro(Z|⟨j,a1,a2,a3⟩)
   ·exact .inl (.inl Z)
   ·by_cases e:j=k+1
    ·subst e;exact .inr a3
    ·exact .inl (.inr ⟨j,a1,by omega,a3⟩)
theorem MG(ws:List Byt):(Eg ws).Nodup/\∀y,y∈Eg ws↔y=[]∨∃x∈ws,∃k,1<=k/\k<=lc x/\y=x.take k:=by
 refine IT (P:=λws=>(Eg ws).Nodup/\∀y,y∈Eg ws↔y=[]∨∃x∈ws,∃k,1<=k/\k<=lc x/\y=x.take k) (by simp[Eg]) (λws x ⟨h1,h2⟩=>?_) ws;rw[aav];obtain⟨X,Y⟩:=acx x h1 (lc x);refine⟨X,λy=>?_⟩;rw[Y,h2]
 constructor
 ·rintro((h|⟨z,Z,r⟩)|⟨j,a1,a2,a3⟩)
  ·exact .inl h
  ·exact .inr ⟨z,by simp[Z],r⟩
  ·exact .inr ⟨x,by simp,j,a1,a2,a3⟩
 ·rintro(h|⟨z,Z,k,a1,a2,a3⟩)
  ·exact .inl (.inl h)
  ·rcases Bf.1 Z with Z|Z
   ·exact .inl (.inr ⟨z,Z,k,a1,a2,a3⟩)
   ·simp at Z;subst Z;exact .inr ⟨k,a1,a2,a3⟩
def Ef(ws:List Byt):Nat:=(ws.map List.length).sum
theorem ahA(ws:List Byt):(Eg ws).length<=1+Ef ws:=by
 refine IT (P:=λws=>(Eg ws).length<=1+Ef ws) (by simp[Eg,Ef]) (λws x h=>?_) ws;rw[aav];have:=(abF (Eg ws) x (lc x)).2;have e:Ef (ws++[x])=Ef ws+lc x:=by simp[Ef]
 omega
theorem agk(x:Byt)(k:Nat):toI (x.take k)=(toI x).take k:=by simp[toI,List.map_take]
theorem aeF{wss:Lb}(V:∀w∈wss,∀x∈w,0<=x/\x<=255){l:List Byt}(h1:l.Perm (Eg (wss.map ofI)))(h2:ED (l.map toI)):l.map toI=AB wss:=by
 refine adt h2 λx=>?_;rw[Be]
 constructor
 ·rintro⟨y,X,rfl⟩;rw[h1.mem_iff,(MG _).2]at X
  rcases X with rfl|⟨z,U,k,Y,a2,rfl⟩
  ·exact .inl rfl
  ·obtain⟨w,Z,rfl⟩:=Be.1 U;refine .inr ⟨w,Z,k,Y,by simpa[ofI]using a2,?_⟩;rw[agk,Mj (V w Z)]
 ·rintro(rfl|⟨w,Z,k,Y,a2,rfl⟩)
  ·exact⟨[],by rw[h1.mem_iff,(MG _).2];exact .inl rfl,rfl⟩
  ·refine⟨(ofI w).take k,?_,by rw[agk,Mj (V w Z)]⟩;rw[h1.mem_iff,(MG _).2];exact .inr ⟨ofI w,Be.2 ⟨w,Z,rfl⟩,k,Y,by simpa[ofI]using a2,rfl⟩
section
open Go.RowKit Go.Sort Go.Shelf
theorem abX{α:Type} [Inhabited α] (enc:α->Vk){B:Nat}{X W:Wa}(h:Below B X W)(g off n:Nat)(d:Array α)(os:Array Obj)(U:B<=g)(V:B<=W.heap.size):Below B X (sortWorld enc W g off n d os):=by
 have Z:(sortWorld enc W g off n d os).heap.size=W.heap.size+os.size:=by simp[sortWorld,putRow,mapBlock,Go.Sort.grow,Go.Sort.ahead]
 refine⟨h.os,h.tape,h.output,by rw[Z];have:=h.size;omega,λk hk=>?_⟩;have Y:k<W.heap.size:=by omega
 refine Eq.trans ?_ (h.block k hk);show((W.heap.modify g _)++os)[k]?=_;rw[Array.getElem?_append_left (by simpa using Y),Js,Lc om]
theorem af9(g cap:Nat)(l:List Byt)(w:Wa)(J:g<w.heap.size)(hc:∀i x,l[i]?=E x->w.cell? ⟨g,i,O⟩=E (Ca x)/\w.frozen? ⟨g,i,O⟩=M)(A:lc l<4611686018427387904) :Calls ZP 182 #[.slice (E ⟨g,0,O⟩) (lc l) cap,.func (.func 183) #[] #[]] w λe w'=>e=ra (ta #[])/\
   ∃V:List Byt,V.Perm l/\V.Pairwise (λa b=>ltS (toI b) (toI a)=M)/\Sl1 Ca w' (E ⟨g,0,O⟩) (lc l) V/\∀B X,Below B X w->B<=g->B<=w.heap.size->Below B X w':=by
 have D:Holds Ca w g 0 l.toArray:=λj H=>by
  have v:j<lc l:=by simpa using H
  obtain⟨h1,h2⟩:=hc j l[j] sm;rw[DD];refine⟨?_,h2⟩;rw[h1,getElem!_pos l.toArray j H];simp
 have h:=Any.slices_SortFunc_total (P:=ZP) (ρ:=abg) an5 Ca (λ_=>rfl) cfS Ns 183 #[] g 0 cap l.toArray w (enters_of func183 kr rfl)
  (λm os dk hs x y=>by have:=ahr x y (sortWorld Ca w g 0 m dk os);exact this)
  D J (by simpa using A) ajS
 have U:l.toArray.size=lc l:=by simp
 rw[U]at h;refine Calls.mono h ?_;rintro e w' ⟨s,n,os,rfl⟩;have Z:(l.mergeSort λx y=>!(ltOf cfS) y x).Perm l:=List.mergeSort_perm l _;have Y:(l.mergeSort λx y=>!(ltOf cfS) y x).Pairwise (λx y=>(!(ltOf cfS) y x)=G):=by
  refine List.pairwise_mergeSort (le:=λx y=>!(ltOf cfS) y x) (λa b c h1 h2=>?_) (λa b=>?_) l
  ·simp only[Bool.not_eq_true',Bool.not_eq_eq_eq_not,Bool.not_true]at h1 h2⊢;exact Ns.ntrans _ _ _ h2 h1
  ·cases e1:ltOf cfS b a with
   |false=>simp
   |true=>
    cases e2:ltOf cfS a b with
    |false=>simp
    |true=>exact absurd (Ns.trans _ _ _ e1 e2) (by rw[Ns.irrefl];simp)
 refine⟨s,_,Z,Y.imp λ{a b} h=>?_,⟨Z.length_eq,.inr ⟨g,0,rfl,lt_sortWorld _ _ _ _ _ _ _ J,λi x C=>?_⟩⟩,λB X hb h1 h2=>abX _ hb _ _ _ _ _ h1 h2⟩
 ·rw[<-Lt]
  simpa using h
 ·have I:=holds_sortWorld Ca w g 0 n l.toArray (l.mergeSort λx y=>!(ltOf cfS) y x).toArray os J D (by simp[Z.length_eq]);have N:=(AP.1 C);have:=(I i (by simpa using N.1)).1;rw[getElem!_pos _ i (by simpa using N.1)]at this;simp only[List.getElem_toArray]at this;rw[N.2]at this
  rwa[DD]at this⊢
end
theorem alA:(ZP.info? 9).map (λi=>(i.zero,i.size,i.bytes))=E (E (.string ⟨#[]⟩),1,16):=by kernel_rfl
abbrev apb(w:Wa)(base:Nat)(v:Vk)(l:List Byt):Prop:=w.ownsRow base 9 1 v (lc l) (l.map Ca)
theorem OW{n:Nat}(h:n<=1000000000):(Lit.int .i64 (n:Int)).wf=G:=by simp[Lit.wf,IntKind.min,IntKind.max,IntKind.signed,IntKind.bits];omega
theorem ajc{Z:List Byt}{f:Byt->Option Int}(Y:∀x,(f x).isSome=decide (x∈Z)){b:Byt}{v:Int}:∀x,(if x=b then E v else f x).isSome=decide (x∈Z++[b]):=λx=>by
 by_cases e:x=b
 ·rw[Lq e];simp[e]
 ·rw[Lc e,Y x];simp[e]
theorem adG(wss:Lb)(k:Nat):Ef ((wss.take k).map ofI)<=Ef (wss.map ofI):=by
 have e:Ef (wss.map ofI)=Ef ((wss.take k).map ofI)+Ef ((wss.drop k).map ofI):=by unfold Ef;rw[<-List.sum_append,<-Aj,<-Aj,Dx]
 omega
theorem amO{w:Wa}{n:Nat}{e:TypeId}{size k:Nat}{v:Vk}{xs:List Vk}(h:w.ownsRow (n+1) e size v k xs):v.ownBlock=O∨v.ownBlock≠E n:=by
 rcases h.2 with⟨rfl,_⟩|⟨g,cap,Z,rfl,Y,_⟩
 ·exact .inl rfl
 ·exact .inr (by simp[Value.ownBlock];omega)
theorem Wds.bytes{w:Wa}{a:Option Addr}{U:Nat}{wss:Lb}(h:Wds w a U wss):∀x∈wss,∀c∈x,0<=c/\c<=255:=λx N c V=>by obtain⟨i,X⟩:=DR N;have Y:=(AP.1 X).1;rw[h.len]at Y;obtain⟨_,_,_,_,_,I,_,_,_,Z,J,_⟩:=h.at_ Y;rw[X]at Z;rw[AK Z]at V;exact J.2 c V
structure GB(w:World)(s4:Value)(lst:List Byt)(W:World):Prop where
 bel:La w W
 row:apb W (w.heap.size+1) s4 lst
 map:∃f,MS W w.heap.size lst.length f/\∀x,(f x).isSome=decide (x∈lst)
 sz:w.heap.size+1<W.heap.size
theorem ame(a:Option Addr)(A ca:Nat)(wss:Lb)(w:Wa)(hA:Wds w a A wss)(b6:A<=1000000)(hM:∀x∈wss,lc x<=1000000)(hS:Ef (wss.map ofI)<=1000000) :Calls ZP 131 #[T a A ca] w λe w'=>∃(a':Option Addr)(n c:Nat)(l:List Byt),e=ra (T a' n c)/\n=lc l/\l.map toI=AB wss/\Sl1 Ca w' a' n l/\La w w':=by
 obtain⟨i0,hi,aH,aG,aF⟩:=Vh alA;have HL:=AA hA.len;have aW:=AA hA;have b4:=@run_makeMap ZP;have m0:(w.alloc (Obj.map #[] 0)).ownsMap ZP 9 (plainElem ZP 3) w.heap.size 0 (.map []:DataW Unit):=MQ w ZP 9 (plainElem ZP 3);go_enter func131,ntmps131;go_upto_region 2 with(refine ade rfl _ _ _ rfl rfl (MS.start (b:=w.heap.size) _ m0) (by unfold maxLen;omega) [] 0 rfl rfl rfl sm ?_;intro w1 ai a7)
 have aK:w.heap.size+1<=w1.heap.size:=by have:=a7.size;simp at this;omega
 have av:La w w1:=(AL w (Obj.map #[] 0)).grown a7 sm (λk e=>by cases e;exact AC _);have ar:GB w (T (E ⟨w1.heap.size,0,O⟩) 1 1) [[]] (w1.alloc (i7 #[Ca []] 9)):=
  ⟨av.alloc om _,⟨rfl,.inr ⟨w1.heap.size,1,#[Ca []],rfl,aK,AT _ _,AC _,by unfold maxLen;omega,rfl,rfl⟩⟩,⟨_,ai.alloc _,λx=>by by_cases e:x=[]<;>simp[e]⟩,by simp;omega⟩
 have aB:=AA ar;clear ai a7 av ar m0;go_wp2
 go_loopw[4,16] (λs4 aE wr=>∃(k:Nat)(lst:List Byt)(v:Vk),v=s4/\k<=A/\aE=R K k/\Hid (lst=Eg ((wss.take k).map ofI))/\GB w v lst wr) (λ_ i _=>A-(intOf i).toNat)
 case atStart=>exact⟨0,[[]],_,rfl,AR _,rfl,rfl,aB.out⟩
 case round=>
  clear aB;obtain⟨k,lst,v,rfl,hk,rfl,aa,X⟩:=hrel;have aY:lc lst<=1000001:=by rw[aa.out];have h1:=ahA ((wss.take k).map ofI);have h2:=adG wss k;omega
  by_cases a6:k<A
  ·have aN:decide ((k:Int)<A)=G:=by simp;omega
   obtain⟨bb,off,ax,lx,cx,x,ap,J,N,hx,hX,b5⟩:=(hA.below X.bel).at_ a6;have C:bb<w.heap.size:=by
    obtain⟨_,_,_,_,_,_,e,aj,_⟩:=hA.at_ a6;rw[ap]at e
    injection e with e
    injection e with e1 e2
    omega
   subst ap;have aR:Bys w ax lx x:=by
    obtain⟨_,_,bh,b0,bg,x',e,aj,D,ae,aS,_⟩:=hA.at_ a6
    injection e with e
    injection e with e1 e2 e3
    subst e1 e2;have e4:=(X.bel.cell (p:=⟨bb,off+k,O⟩) C).trans D;rw[N]at e4
    injection e4 with e4
    injection e4 with e5 e6 e7
    subst e5 e6 e7;rw[hx]at ae;rw[AK ae];exact aS
   have b1:lx<=1000000:=by have:=Ff hM hx;rw[hX.len]at this;exact this
   have HX:=AA hx;have aV:=AA hX.len;clear hx hX;go_wp2;clear N
   go_loopw[4,22] (λs4 aD wr=>∃(j:Nat)(l2:List Byt)(v:Vk),v=s4/\j<=lx/\aD=R K j/\Hid (l2=ER lst (ofI x) j)/\GB w v l2 wr) (λ_ i _=>lx-(intOf i).toNat)
   case atStart=>exact⟨0,lst,_,rfl,AR _,rfl,rfl,X⟩
   case round=>
    clear X;obtain⟨j,l2,v,rfl,hj,rfl,B,X⟩:=hrel;have aL:lc l2<=2000001:=by rw[B.out];have:=(abF lst (ofI x) j).2;omega
    by_cases b7:j<lx
    ·have aO:decide ((j:Int)<lx)=G:=by simp;omega
     have b8:(j:Int)+1<=cx:=by omega
     have aZ:j+1<=cx:=by omega
     have cv:=Gh ((aR.below X.bel).take (m:=j+1) om) cx;rw[agO]at cv;have J:(ofI (x.take (j+1))).length<=maxLen:=by simp[ofI];unfold maxLen;omega
     have a8:Hid (ofI (x.take (j+1))=(ofI x).take (j+1)):=by simp[Hid,ofI,List.map_take]
     obtain⟨b,ao⟩:∃b,ofI (x.take (j+1))=b:=⟨_,rfl⟩;rw[ao]at cv J a8;obtain⟨f,U,al⟩:=X.map;have ac:=AA al;clear al ao
     by_cases hm:b∈l2
     ·have a1:(f b).isSome=G:=by rw[ac.out];simp[hm]
      have HN:Hid (l2=ER lst (ofI x) (j+1)):=by rw[Hid,Nu,<-B.out,<-a8.out];unfold Gk;rw[Lq hm]
      clear hm
      go_wp2_with (at_lookup;refine OR rfl _ _ rfl rfl U b rfl J ?_;intro c' aQ;rw[a1])
      go_roundw
      case rel=>exact⟨j+1,l2,_,rfl,by omega,by go_num,HN,X⟩
      case measure=>simp[intOf];omega
     ·have a1:(f b).isSome=M:=by rw[ac.out];simp[hm]
      have HN:Hid (l2++[b]=ER lst (ofI x) (j+1)):=by rw[Hid,Nu,<-B.out,<-a8.out];unfold Gk;rw[Lc hm]
      have Z:=X.row;obtain⟨m,a2⟩:∃m,lc l2=m:=⟨_,rfl⟩;unfold apb at Z;rw[a2]at Z U aL;have az:=AA a2;obtain⟨a4,c4,rfl,bf,_⟩:=Co Z;have aq:=X.bel;have b2:=X.sz;clear hm a2
      go_wp2_with (first
       |(at_lookup;refine OR rfl _ _ rfl rfl U b rfl J ?_;intro c' aQ;rw[a1])
       |(at_mapUpdate;refine OQ rfl _ _ _ rfl rfl U (by unfold maxLen;omega) b m (OW om) rfl rfl J ?_;intro w5 s H;have Y:=Z.kept H (amO Z);have au:La w w5:=aq.grown H aq.size (λk e=>by cases e;exact AC _);have b3:=H.size)
       |(at_builtin;refine wpList_append_own _ rfl _ _ 231 rfl (w.heap.size+1) 9 i0 (.string ⟨#[]⟩) 1 16 underlying231 hi aH aG aF rfl (by decide) _ _ _ rfl (Y.alloc _) ⟨w5.heap.size,0,O⟩ 1 1 [Ca b] rfl rfl (GI _ _ sm) (by simp[Value.oneCell']) (by unfold maxLen;omega) om (by simp;omega) ?_;intro v' w6 V I aX))
      have aJ:=I.size;simp at aJ;have aT:Hid (GB w v' (l2++[b]) w6):=by
       refine⟨(au.alloc au.size _).grown I (by simp;omega) (λk e=>by have:=(Y.lt k e).1;omega),?_,⟨_,?_,ajc (b:=b) (v:=(m:Int)) ac.out⟩,by omega⟩
       ·unfold apb;rw[List.length_append,az.out,Aj];exact V
       ·rw[List.length_append,az.out];refine MS.kept (row:=(T a4 m c4).ownBlock) (s.alloc _) I ?_
        rcases amO Z with e|e
        ·rw[e];simp
        ·exact e
      clear Z Y V U s H I
      go_roundw
      case rel=>exact⟨j+1,_,_,rfl,by omega,by go_num,HN,aT.out⟩
      case measure=>simp[intOf];omega
    ·obtain rfl:j=lx:=by omega
     have aO:decide ((j:Int)<j)=M:=by simp
     have HN:Hid (l2=Eg ((wss.take (k+1)).map ofI)):=by rw[Hid,As HX.out,Aj,BO,DE,aav,<-aa.out,show(ofI x).length=j by simp[ofI,aV.out]];exact B.out
     go_wp2
     go_roundw
     case rel=>exact⟨k+1,l2,_,rfl,by omega,by go_num,HN,X⟩
     case measure=>simp[intOf];omega
  ·obtain rfl:k=A:=by omega
   have aN:decide ((k:Int)<k)=M:=by simp
   have ab:Hid (lst=Eg (wss.map ofI)):=by rw[Hid,aa.out,Ap (by rw[HL.out];exact AC _)]
   have af:lst≠[]:=λe=>by
    have:=((MG (wss.map ofI)).2 []).2 (.inl rfl);rw[<-ab.out,e]at this
    cases this
   rcases X.row.2 with⟨_,h0⟩|⟨g,cap,aw,rfl,bd,hh,hn,be,aP,am⟩
   ·exact absurd (Bz h0) af
   ·have aM:g<wr.heap.size:=(AD.1 hh).1;have AV:∀i x,lst[i]?=E x->wr.cell? ⟨g,i,O⟩=E (Ca x)/\wr.frozen? ⟨g,i,O⟩=M:=λi x hx=>by
     have b9:=(AP.1 hx).1;have h1:(aw.toList.take (lc lst*1))[i]?=E (Ca x):=by rw[am];simp[hx]
     rw[FT,Lq om]at h1;have h2:aw[i]?=E (Ca x):=by simpa using h1
     simp[cell?,frozen?,hh,h2]
    have ay:=AA (af9 g cap lst wr aM AV om);have hB:=X.bel;have ak:w.heap.size<=g:=by omega
    have aC:=AA (aW.out.bytes);clear AV hh am aP X af
    go_wp2_with fail
    refine ay.out.mono ?_;rintro e w2 ⟨rfl,l',hp,hs,aI,C⟩;have aU:La w w2:=C _ _ hB ak hB.size;have HN:Hid (l'.map toI=AB wss):=by
     refine aeF aC.out (by rw[<-ab.out];exact hp) ?_;have ag:l'.Nodup:=by rw[hp.nodup_iff,ab.out];exact(MG _).1
     rw[List.nodup_iff_pairwise_ne]at ag;rw[ED,List.pairwise_map];refine(hs.and ag).imp λ{a b} ⟨h1,h2⟩=>?_
     cases e:ltS (toI a) (toI b)with
     |true=>rfl
     |false=>exact absurd (LS (Nf e h1)) h2
    have aA:Hid (lc lst=lc l'):=hp.length_eq.symm;clear hp hs C hB ay;go_wp2;go_ret;exact⟨_,_,_,l',rfl,aA.out,HN.out,aI,aU⟩
def sep(u v:Vk):Prop:=∀k,u.ownBlock=E k->v.ownBlock≠E k
theorem sep.symm{u v:Vk}(h:sep u v):sep v u:=λk h1 h2=>h k h2 h1
theorem sep.kept{u v:Vk}(h:sep u v):v.ownBlock=O∨v.ownBlock≠u.ownBlock:=by
 cases e:v.ownBlock with
 |none=>exact .inl rfl
 |some k=>exact .inr λe2=>h k e2.symm e
theorem sep.put{u Z v:Vk}{n:Nat}(h:sep u v)(V:Z.ownBlock=u.ownBlock∨Z.ownBlock=E n)(Y:∀k,v.ownBlock=E k->k<n):sep Z v:=λk h1 h2=>by
 rcases V with e|e
 ·exact h k (by rw[<-e];exact h1) h2
 ·rw[e]at h1;have:=Y k h2
  injection h1 with h1
  omega
abbrev FB(w:Wa)(base:Nat)(v:Vk)(l:List Int):Prop:=w.ownsRow base 3 1 v (lc l) (l.map (R K))
abbrev apn(w:Wa)(base:Nat)(v:Vk)(l:List Int):Prop:=w.ownsRow base 5 1 v (lc l) (l.map (Value.int .u8))
abbrev JL(u d x b:Vk)(nb wb:Nat):Array Vk:=#[u,d,x,b,.map (E nb),.map (E wb)]
structure MK(base mb nb wb n1 n2:Nat)(fN fW:Byt->Option Int)(U D X B:List Int)(u d x b:Value)(W:World):Prop where
 box:W.heap[mb]?=some (.cells (JL u d x b nb wb) 230 (0,0))
 up:FB W base u U
 dep:FB W base d D
 wrd:FB W base x X
 byt:apn W base b B
 s1:sep u d
 s2:sep u x
 s3:sep u b
 s4:sep d x
 s5:sep d b
 s6:sep x b
 nod:MS W nb n1 fN
 wds:MS W wb n2 fW
 lt:mb<base/\nb<base/\wb<base/\mb≠nb/\mb≠wb/\nb≠wb
 sz:base<=W.heap.size
theorem MS.below{W W':Wa}{b n:Nat}{f:Byt->Option Int}(h:MS W b n f)(Z:La W W'):MS W' b n f:=h.kept (afV Z (b+1)) sm
theorem MS.run_get{W:Wa}{b n:Nat}{f:Byt->Option Int}(h:MS W b n f){l:Byt}(N:lc l<=maxLen){u:Int}(V:f l=E u) :Sem.run ZP (Instr.lookup 228 (.map (E b)) (Ca l) M) W=.ok (R K u) W:=by
 obtain⟨D,h1,h2,h3⟩:=h;obtain⟨c,Z,Y,_⟩:=h1.lookup_int LV underlying228 underlying3 (aeQ W) (LW l N);have:=Y.symm.trans ((h3 l).2 u V);obtain rfl:c=u:=by simpa using this
 exact Z
theorem akR(s:Byt):(Bh s).extract 0 (lc s-1)=Bh s.dropLast:=by
 apply ByteArray.ext
 rw[ByteArray.data_extract]
 apply Array.ext'
 simp[Bh,List.dropLast_eq_take]
theorem adz{s:Byt}(h:s≠[]):(Bh s).toList.isEmpty=M:=by
 cases e:(Bh s).toList.isEmpty with
 |false=>rfl
 |true=>
  exfalso
  have h1:(Bh s).toList=[]:=by simpa using e
  have h2:(Bh s).data.toList=[]:=by rw[<-ByteArray.toList_eq];exact h1
  exact h (by simpa[Bh]using h2)
def Ie(b:Byt):Int:=((b.getLast?).map λc=>(c.toNat:Int)).getD 0
theorem alH{s:Byt}{q:Nat}(Z:lc s=q+1)(h:q<(Bh s).size):(((Bh s)[q].toNat:Nat):Int)=Ie s:=by
 have e:s.getLast?=E (s[q]'om):=by rw[List.getLast?_eq_getElem?,show lc s-1=q by omega];simp
 unfold Ie;rw[e]
 rfl
theorem NB{w w':Wa}{base n size:Nat}{e:TypeId}{v:Vk}{xs:List Vk}(h:w.ownsRow base e size v n xs)(J:La w w'):w'.ownsRow base e size v n xs:=by
 obtain⟨h1,h2|⟨g,cap,Z,e,N,Y,V⟩⟩:=h
 ·exact⟨h1,.inl h2⟩
 ·exact⟨h1,.inr ⟨g,cap,Z,e,N,(J.block g (AD.1 Y).1).trans Y,V⟩⟩
theorem Gv{w:Wa}{base n size m:Nat}{e:TypeId}{v:Vk}{xs:List Vk}(h:w.ownsRow base e size v n xs)(Y:m<base):v.ownBlock=O∨v.ownBlock≠E m:=by
 rcases h.2 with⟨rfl,_⟩|⟨g,cap,Z,rfl,V,_⟩
 ·exact .inl rfl
 ·exact .inr (by simp[Value.ownBlock];omega)
theorem Bm{w:Wa}{base n size m i:Nat}{e:TypeId}{v:Vk}{xs:List Vk}(h:w.ownsRow base e size v n xs)(Z:m<base)(u:Vk):(w.setCell ⟨m,i,O⟩ u).ownsRow base e size v n xs:=h.kept (BH w m i u) (Gv h Z)
theorem MS.set{w:Wa}{b n m i:Nat}{f:Byt->Option Int}(h:MS w b n f)(Z:m≠b)(u:Vk):MS (w.setCell ⟨m,i,O⟩ u) b n f:=h.kept (BH w m i u) (by intro e;injection e with e;exact Z e)
theorem BA{w:Wa}{base n size:Nat}{e:TypeId}{v:Vk}{xs:List Vk}(h:w.ownsRow base e size v n xs):∀k,v.ownBlock=E k->base<=k/\k<w.heap.size:=λk hk=>by
 rcases h.2 with⟨rfl,_⟩|⟨g,cap,V,rfl,Y,Z,_⟩
 ·cases hk
 ·simp[Value.ownBlock]at hk;subst hk;exact⟨Y,(AD.1 Z).1⟩
structure Bl(mb nb base:Nat)(w W:World):Prop where
 os:W.os=w.os
 tape:W.tape=w.tape
 output:W.output=w.output
 size:w.heap.size<=W.heap.size
 block:∀k,k<base->k≠mb->k≠nb->W.heap[k]?=w.heap[k]?
theorem Bl.refl(mb nb base:Nat)(w:Wa):Bl mb nb base w w:=⟨rfl,rfl,rfl,AC _,λ_ _ _ _=>rfl⟩
theorem Bl.trans{mb nb base:Nat}{u v w:Wa}(h:Bl mb nb base u v)(k:Bl mb nb base v w):Bl mb nb base u w:=⟨k.os.trans h.os,k.tape.trans h.tape,k.output.trans h.output,AS h.size k.size,λi h1 h2 h3=>(k.block i h1 h2 h3).trans (h.block i h1 h2 h3)⟩
theorem Bl.of_below{mb nb base:Nat}{v w:Wa}(h:La v w)(Z:base<=v.heap.size):Bl mb nb base v w:=⟨h.os,h.tape,h.output,h.size,λk h1 _ _=>h.block k om⟩
theorem Bl.alloc{mb nb base:Nat}{v w:Wa}(h:Bl mb nb base v w)(Z:base<=w.heap.size)(o:Obj):Bl mb nb base v (w.alloc o):=h.trans (.of_below (AL w o) Z)
theorem Bl.grown{mb nb base:Nat}{u v w:Wa}{row:Option Nat}(h:Bl mb nb base u v)(Z:v.grownBy w row)(Y:∀k,row=E k->base<=k∨k=nb)(V:base<=v.heap.size):Bl mb nb base u w:=h.trans ⟨Z.os,Z.tape,Z.output,Z.size,λk h1 h2 h3=>Z.block k om (λe=>by rcases Y k e.symm with g|g<;>omega)⟩
theorem Bl.set{mb nb base:Nat}{v w:Wa}(h:Bl mb nb base v w)(i:Nat)(x:Vk):Bl mb nb base v (w.setCell ⟨mb,i,O⟩ x):=h.trans ⟨rfl,rfl,rfl,by simp,λk h1 h2 h3=>AQ w ⟨mb,i,O⟩ x k h2⟩
theorem Bl.below{mb nb base B:Nat}{u v w:Wa}(h:Bl mb nb base v w)(Z:Below B u v)(h1:B<=mb)(h2:B<=nb)(h3:B<=base):Below B u w:=⟨h.os.trans Z.os,h.tape.trans Z.tape,h.output.trans Z.output,AS Z.size h.size,λk hk=>(h.block k om om om).trans (Z.block k hk)⟩
section
variable {base mb nb wb n1 n2:Nat}{fN fW:Byt->Option Int}{U D X B:List Int}{u d x b:Vk}{W W':Wa}
theorem MK.below(h:MK base mb nb wb n1 n2 fN fW U D X B u d x b W)(Z:La W W'):MK base mb nb wb n1 n2 fN fW U D X B u d x b W':=⟨(Z.block _ (AD.1 h.box).1).trans h.box,NB h.up Z,NB h.dep Z,NB h.wrd Z,NB h.byt Z,h.s1,h.s2,h.s3,h.s4,h.s5,h.s6,h.nod.below Z,h.wds.below Z,h.lt,AS h.sz Z.size⟩
theorem MK.cells(h:MK base mb nb wb n1 n2 fN fW U D X B u d x b W):(W.cell? ⟨mb,0,O⟩=E u/\W.cell? ⟨mb,1,O⟩=E d/\W.cell? ⟨mb,2,O⟩=E x/\W.cell? ⟨mb,3,O⟩=E b/\W.cell? ⟨mb,4,O⟩=E (.map (E nb))/\W.cell? ⟨mb,5,O⟩=E (.map (E wb)))/\∀i,W.frozen? ⟨mb,i,O⟩=M:=by refine⟨⟨?_,?_,?_,?_,?_,?_⟩,λi=>?_⟩<;>simp[cell?,frozen?,h.box]
theorem MK.put_u(h:MK base mb nb wb n1 n2 fN fW U D X B u d x b W){V:Wa}{Z:Vk}{z:Int}(o:Obj)(I:V.ownsRow base 3 1 Z (lc U+1) (U.map (R K)++[R K z]))(Y:(W.alloc o).grownBy V u.ownBlock)(N:Z.ownBlock=u.ownBlock∨Z.ownBlock=E (W.alloc o).heap.size) :MK base mb nb wb n1 n2 fN fW (U++[z]) D X B Z d x b (V.setCell ⟨mb,0,O⟩ Z)/\Bl mb nb base W (V.setCell ⟨mb,0,O⟩ Z):=by
 have hs:=Y.size;simp at hs;have J:W.heap.size<=(W.alloc o).heap.size:=by simp
 have a1:=(AD.1 h.box).1;have s:u.ownBlock≠E mb:=λe=>by have:=(BA h.up _ e).1;have:=h.lt.1;omega
 have j:u.ownBlock≠E nb:=λe=>by have:=(BA h.up _ e).1;have:=h.lt.2.1;omega
 have v:u.ownBlock≠E wb:=λe=>by have:=(BA h.up _ e).1;have:=h.lt.2.2.1;omega
 have a2:V.heap[mb]?=E (i7 (JL u d x b nb wb) 230 (0,0)):=(Y.block mb (by simp;omega) (λe=>s e.symm)).trans ((Bg _ _ _ a1).trans h.box);have C:=Bm (i:=0) ((h.dep.alloc o).kept Y h.s1.kept) h.lt.1 Z;have H:=Bm (i:=0) ((h.wrd.alloc o).kept Y h.s2.kept) h.lt.1 Z;have A:=Bm (i:=0) ((h.byt.alloc o).kept Y h.s3.kept) h.lt.1 Z;exact⟨⟨AJ a2 _,(by unfold FB;rw[List.length_append,Aj];exact Bm I h.lt.1 _),C,H,A,(h.s1.put N (λk e=>Af (BA h.dep k e).2 J)),(h.s2.put N (λk e=>Af (BA h.wrd k e).2 J)),(h.s3.put N (λk e=>Af (BA h.byt k e).2 J)),h.s4,h.s5,h.s6,((h.nod.alloc o).kept Y j).set h.lt.2.2.2.1 _,((h.wds.alloc o).kept Y v).set h.lt.2.2.2.2.1 _,h.lt,by have:=h.sz;simp;omega⟩,(((Bl.refl mb nb base W).alloc h.sz o).grown Y (λk e=>.inl (BA h.up k e).1) (by have:=h.sz;simp;omega)).set _ _⟩
theorem MK.put_d(h:MK base mb nb wb n1 n2 fN fW U D X B u d x b W){V:Wa}{Z:Vk}{z:Int}(o:Obj)(I:V.ownsRow base 3 1 Z (lc D+1) (D.map (R K)++[R K z]))(Y:(W.alloc o).grownBy V d.ownBlock)(N:Z.ownBlock=d.ownBlock∨Z.ownBlock=E (W.alloc o).heap.size) :MK base mb nb wb n1 n2 fN fW U (D++[z]) X B u Z x b (V.setCell ⟨mb,1,O⟩ Z)/\Bl mb nb base W (V.setCell ⟨mb,1,O⟩ Z):=by
 have hs:=Y.size;simp at hs;have J:W.heap.size<=(W.alloc o).heap.size:=by simp
 have a1:=(AD.1 h.box).1;have s:d.ownBlock≠E mb:=λe=>by have:=(BA h.dep _ e).1;have:=h.lt.1;omega
 have j:d.ownBlock≠E nb:=λe=>by have:=(BA h.dep _ e).1;have:=h.lt.2.1;omega
 have v:d.ownBlock≠E wb:=λe=>by have:=(BA h.dep _ e).1;have:=h.lt.2.2.1;omega
 have a2:V.heap[mb]?=E (i7 (JL u d x b nb wb) 230 (0,0)):=(Y.block mb (by simp;omega) (λe=>s e.symm)).trans ((Bg _ _ _ a1).trans h.box);have C:=Bm (i:=1) ((h.up.alloc o).kept Y h.s1.symm.kept) h.lt.1 Z;have H:=Bm (i:=1) ((h.wrd.alloc o).kept Y h.s4.kept) h.lt.1 Z;have A:=Bm (i:=1) ((h.byt.alloc o).kept Y h.s5.kept) h.lt.1 Z;exact⟨⟨AJ a2 _,C,(by unfold FB;rw[List.length_append,Aj];exact Bm I h.lt.1 _),H,A,(h.s1.symm.put N (λk e=>Af (BA h.up k e).2 J)).symm,h.s2,h.s3,(h.s4.put N (λk e=>Af (BA h.wrd k e).2 J)),(h.s5.put N (λk e=>Af (BA h.byt k e).2 J)),h.s6,((h.nod.alloc o).kept Y j).set h.lt.2.2.2.1 _,((h.wds.alloc o).kept Y v).set h.lt.2.2.2.2.1 _,h.lt,by have:=h.sz;simp;omega⟩,(((Bl.refl mb nb base W).alloc h.sz o).grown Y (λk e=>.inl (BA h.dep k e).1) (by have:=h.sz;simp;omega)).set _ _⟩
theorem MK.put_x(h:MK base mb nb wb n1 n2 fN fW U D X B u d x b W){V:Wa}{Z:Vk}{z:Int}(o:Obj)(I:V.ownsRow base 3 1 Z (lc X+1) (X.map (R K)++[R K z]))(Y:(W.alloc o).grownBy V x.ownBlock)(N:Z.ownBlock=x.ownBlock∨Z.ownBlock=E (W.alloc o).heap.size) :MK base mb nb wb n1 n2 fN fW U D (X++[z]) B u d Z b (V.setCell ⟨mb,2,O⟩ Z)/\Bl mb nb base W (V.setCell ⟨mb,2,O⟩ Z):=by
 have hs:=Y.size;simp at hs;have J:W.heap.size<=(W.alloc o).heap.size:=by simp
 have a1:=(AD.1 h.box).1;have s:x.ownBlock≠E mb:=λe=>by have:=(BA h.wrd _ e).1;have:=h.lt.1;omega
 have j:x.ownBlock≠E nb:=λe=>by have:=(BA h.wrd _ e).1;have:=h.lt.2.1;omega
 have v:x.ownBlock≠E wb:=λe=>by have:=(BA h.wrd _ e).1;have:=h.lt.2.2.1;omega
 have a2:V.heap[mb]?=E (i7 (JL u d x b nb wb) 230 (0,0)):=(Y.block mb (by simp;omega) (λe=>s e.symm)).trans ((Bg _ _ _ a1).trans h.box);have H:=Bm (i:=2) ((h.up.alloc o).kept Y h.s2.symm.kept) h.lt.1 Z;have C:=Bm (i:=2) ((h.dep.alloc o).kept Y h.s4.symm.kept) h.lt.1 Z;have A:=Bm (i:=2) ((h.byt.alloc o).kept Y h.s6.kept) h.lt.1 Z;exact⟨⟨AJ a2 _,H,C,(by unfold FB;rw[List.length_append,Aj];exact Bm I h.lt.1 _),A,h.s1,(h.s2.symm.put N (λk e=>Af (BA h.up k e).2 J)).symm,h.s3,(h.s4.symm.put N (λk e=>Af (BA h.dep k e).2 J)).symm,h.s5,(h.s6.put N (λk e=>Af (BA h.byt k e).2 J)),((h.nod.alloc o).kept Y j).set h.lt.2.2.2.1 _,((h.wds.alloc o).kept Y v).set h.lt.2.2.2.2.1 _,h.lt,by have:=h.sz;simp;omega⟩,(((Bl.refl mb nb base W).alloc h.sz o).grown Y (λk e=>.inl (BA h.wrd k e).1) (by have:=h.sz;simp;omega)).set _ _⟩
theorem MK.put_b(h:MK base mb nb wb n1 n2 fN fW U D X B u d x b W){V:Wa}{b':Vk}{z:Int}(o:Obj)(J:V.ownsRow base 5 1 b' (lc B+1) (B.map (Value.int .u8)++[.int .u8 z]))(Z:(W.alloc o).grownBy V b.ownBlock)(Y:b'.ownBlock=b.ownBlock∨b'.ownBlock=E (W.alloc o).heap.size) :MK base mb nb wb n1 n2 fN fW U D X (B++[z]) u d x b' (V.setCell ⟨mb,3,O⟩ b')/\Bl mb nb base W (V.setCell ⟨mb,3,O⟩ b'):=by
 have hs:=Z.size;simp at hs;have N:W.heap.size<=(W.alloc o).heap.size:=by simp
 have j:=(AD.1 h.box).1;have v:b.ownBlock≠E mb:=λe=>by have:=(BA h.byt _ e).1;have:=h.lt.1;omega
 have s:b.ownBlock≠E nb:=λe=>by have:=(BA h.byt _ e).1;have:=h.lt.2.1;omega
 have A:b.ownBlock≠E wb:=λe=>by have:=(BA h.byt _ e).1;have:=h.lt.2.2.1;omega
 have a1:V.heap[mb]?=E (i7 (JL u d x b nb wb) 230 (0,0)):=(Z.block mb (by simp;omega) (λe=>v e.symm)).trans ((Bg _ _ _ j).trans h.box);have H:=Bm (i:=3) ((h.up.alloc o).kept Z h.s3.symm.kept) h.lt.1 b';have C:=Bm (i:=3) ((h.dep.alloc o).kept Z h.s5.symm.kept) h.lt.1 b';have I:=Bm (i:=3) ((h.wrd.alloc o).kept Z h.s6.symm.kept) h.lt.1 b';exact⟨⟨AJ a1 _,H,C,I,(by unfold apn;rw[List.length_append,Aj];exact Bm J h.lt.1 _),h.s1,h.s2,(h.s3.symm.put Y (λk e=>Af (BA h.up k e).2 N)).symm,h.s4,(h.s5.symm.put Y (λk e=>Af (BA h.dep k e).2 N)).symm,(h.s6.symm.put Y (λk e=>Af (BA h.wrd k e).2 N)).symm,((h.nod.alloc o).kept Z s).set h.lt.2.2.2.1 _,((h.wds.alloc o).kept Z A).set h.lt.2.2.2.2.1 _,h.lt,by have:=h.sz;simp;omega⟩,(((Bl.refl mb nb base W).alloc h.sz o).grown Z (λk e=>.inl (BA h.byt k e).1) (by have:=h.sz;simp;omega)).set _ _⟩
end
theorem alq:(ZP.info? 5).map (λi=>(i.zero,i.size,i.bytes))=E (E (.int .u8 0),1,1):=by kernel_rfl
theorem JS:(ZP.info? 3).map (λi=>(i.zero,i.size,i.bytes))=E (E (R K 0),1,8):=by kernel_rfl
section
variable {base mb nb wb n1 n2:Nat}{fN fW:Byt->Option Int}{U D X B:List Int}{u d x b:Vk}{W V:Wa}
theorem MK.putN(h:MK base mb nb wb n1 n2 fN fW U D X B u d x b W){N:Byt->Option Int}{m:Nat}(J:MS V nb m N)(Z:W.grownBy V (E nb)):MK base mb nb wb m n2 N fW U D X B u d x b V:=by have Y:=(AD.1 h.box).1;refine⟨(Z.block mb Y (λe=>by injection e with e;exact h.lt.2.2.2.1 e)).trans h.box,h.up.kept Z (Gv h.up h.lt.2.1),h.dep.kept Z (Gv h.dep h.lt.2.1),h.wrd.kept Z (Gv h.wrd h.lt.2.1),h.byt.kept Z (Gv h.byt h.lt.2.1),h.s1,h.s2,h.s3,h.s4,h.s5,h.s6,J,h.wds.kept Z (λe=>by injection e with e;exact h.lt.2.2.2.2.2 e),h.lt,AS h.sz Z.size⟩
theorem MK.fz(h:MK base mb nb wb n1 n2 fN fW U D X B u d x b W)(o:Obj){row:Option Nat}(N:(W.alloc o).grownBy V row)(Y:row≠E mb)(i:Nat):V.frozen? ⟨mb,i,O⟩=M:=by have Z:=(AD.1 h.box).1;have:=(N.block mb (by simp;omega) (λe=>Y e.symm)).trans ((Bg _ _ _ Z).trans h.box);simp[frozen?,this]
theorem MK.cz(h:MK base mb nb wb n1 n2 fN fW U D X B u d x b W)(o:Obj){row:Option Nat}(N:(W.alloc o).grownBy V row)(Y:row≠E mb):V.cell? ⟨mb,0,O⟩=E u/\V.cell? ⟨mb,1,O⟩=E d/\V.cell? ⟨mb,2,O⟩=E x/\V.cell? ⟨mb,3,O⟩=E b:=by have Z:=(AD.1 h.box).1;have:=(N.block mb (by simp;omega) (λe=>Y e.symm)).trans ((Bg _ _ _ Z).trans h.box);refine⟨?_,?_,?_,?_⟩<;>simp[cell?,this]
end
theorem IX{w:Wa}{base n size m:Nat}{e:TypeId}{v:Vk}{xs:List Vk}(h:w.ownsRow base e size v n xs)(Z:m<base):v.ownBlock≠E m:=by
 rcases Gv h Z with e|e
 ·rw[e];simp
 ·exact e
theorem anN(base mb nb wb n1 n2:Nat)(fN fW:Byt->Option Int)(U D X B:List Int)(u d x b:Vk)(s:Byt)(uI:Int)(w:Wa)(h:MK base mb nb wb n1 n2 fN fW U D X B u d x b w)(bh:n1<=1000000)(bk:lc U<=1000000)(bl:lc D<=1000000)(bj:lc X<=1000000)(bm:lc B<=1000000)
  (hs:lc s<=1000000) (ar:s=[]->uI=0) (aq:s≠[]->fN s.dropLast=E uI) :
  Calls ZP 132 #[L (E ⟨mb,0,O⟩),Ca s] w λe w'=>e=ra (ta #[])/\∃u' d' x' b',MK base mb nb wb (n1+1) n2 (λk=>if k=s then E (lc U:Int) else fN k) fW (U++[uI]) (D++[(lc s:Int)]) (X++[(fW s).getD (-1)]) (B++[Ie s]) u' d' x' b' w'/\Bl mb nb base w w':=by
 obtain⟨i0,hi,ap,ao,am⟩:=Vh JS;obtain⟨i1,hj,aO,aN,aM⟩:=Vh alq;have HS:=AA (Oe s);obtain⟨Eo,aE⟩:∃Eo,(Bh s).toList.isEmpty=Eo:=⟨_,rfl⟩;go_enter func132,ntmps132
 go_upto_if 9 with fail
 have aA:=AA aE;clear aE
 go_cut[4,5] (λs4 s5 wx=>s4=R K uI/\s5=.int .u8 (Ie s)/\La w wx)
 case first=>
  cases Eo with
  |true=>
   have h0:s=[]:=Md λe=>by have:=adz e;rw[aA.out]at this;cases this
   have aR:=ar h0
   go_wp2_with fail
   go_meet
   exact⟨by rw[aR],by rw[h0];rfl,AH _ _⟩
  |false=>
   have h0:s≠[]:=λe=>by rw[e]at aA;have:=aA.out;simp[Bh,ByteArray.toList_eq]at this
   obtain⟨q,hq⟩:∃q,lc s=q+1:=⟨lc s-1,by have:lc s≠0:=λe=>h0 (Bz e);omega⟩;have hcut:=akR s;have aP:=Oe s;rw[hq]at aP hcut;rw[Jl]at hcut;have bi:∀d os,Sem.run ZP (Instr.lookup 228 (.map (E nb)) (.string ((Bh s).extract 0 q)) M) (grow (redrawn w d) os)=.ok (R K uI) (grow (redrawn w d) os):=λd os=>by rw[hcut];exact(h.nod.below (Vc w d os)).run_get (by rw[List.length_dropLast];unfold maxLen;omega) (aq h0)
   have aQ:q<(Bh s).size:=by omega
   have bd:=AA (alH hq aQ);have bg:q<=1000000:=by omega
   have be:(q:Int)<(q:Int)+1:=by omega
   clear hcut hq h0 ar aq;have aB:mb<w.heap.size:=(AD.1 h.box).1;have c4:∀d os,(grow (redrawn w d) os).cell? ⟨mb,4,O⟩=E (.map (E nb)):=λd os=>((Vc w d os).cell (p:=⟨mb,4,O⟩) aB).trans h.cells.1.2.2.2.2.1;go_upto_region 2 with fail
   refine wp_region_quiet_below mixed kr ?_
   repeat (go_big_quiet_step (fail))
   refine wpQuiet_nil ?_;rintro _ ⟨⟨dq,aL⟩,rfl⟩
   go_wp2_with fail
   go_meet
   exact⟨rfl,by rw[<-bd.out],Vc w dq aL⟩
 case rest=>
  obtain⟨rfl,rfl,hb⟩:=hcut;have I:Bl mb nb base w wc:=.of_below hb h.sz;have h:=h.below hb;clear hb ar aq;obtain⟨Ob,hO⟩:∃Ob,fW s=Ob:=⟨_,rfl⟩;obtain⟨⟨c0,c1,c2,c3,c4,c5⟩,_⟩:=h.cells;have hms0:=h.wds
  go_upto_if 35 with(at_lookup;refine OR rfl _ _ rfl rfl hms0 s rfl (by unfold maxLen;omega) ?_;intro cw hcw;rw[hO])
  rw[hO]at hcw;have HO:=AA hO;clear hO c0 c1 c2 c3 c4 c5
  go_cut[6] (λs6 wx=>wc=wx/\s6=R K (Ob.getD (-1)))
  case first=>
   cases Ob with
   |none=>
    go_wp2_with fail
    go_meet
    exact⟨rfl,rfl⟩
   |some v=>
    obtain rfl:cw=v:=hcw v rfl
    go_wp2_with fail
    go_meet
    exact⟨rfl,rfl⟩
  case rest=>
  obtain⟨rfl,rfl⟩:=hcut;clear hcw hms0;obtain⟨Z,hZ⟩:∃Z:Int,Ob.getD (-1)=Z:=⟨_,rfl⟩;rw[hZ];have HZ:Hid ((fW s).getD (-1)=Z):=by rw[Hid,HO.out];exact hZ
  clear hZ HO;obtain⟨au,cu,rfl,_,_⟩:=Co h.up;obtain⟨ad,cd,rfl,_,_⟩:=Co h.dep;obtain⟨ax,cx,rfl,_,_⟩:=Co h.wrd;obtain⟨ab,cb,rfl,_,_⟩:=Co h.byt;have aB:mb<wc.heap.size:=(AD.1 h.box).1;obtain⟨⟨c0,c1,c2,c3,c4,c5⟩,_⟩:=h.cells;go_upto_region 6 with fail
  refine Hw 11 mixed kr ?_;dsimp only[List.take_succ_cons,List.take_zero,List.drop_succ_cons,List.drop_zero]
  repeat (go_big_quiet_step (fail))
  refine wpQuiet_nil ?_;rintro _ ⟨nq,rfl⟩;have h6:=h.below (AN wc nq);have aC:Bl mb nb base w (wc.drewN nq):=I.trans (.of_below (AN wc nq) h.sz);refine OQ rfl _ _ _ rfl rfl h6.nod (by unfold maxLen;omega) s (lc U) (OW om) rfl rfl (by unfold maxLen;omega) ?_;intro w5 ae az;have aD:Bl mb nb base w w5:=aC.grown az (λk e=>by cases e;exact .inr rfl) h6.sz;have h5:=h6.putN ae az;clear c0 c1 c2 c3 c4 c5 h6 ae az aC I h;have I:=aD;have h:=h5;clear h5 aD;have bp:=AA hs;obtain⟨c0,c1,c2,c3,c4,c5⟩:=h.cells.1;go_upto_region 8 with(at_builtin;refine wpList_append_own_at _ rfl _ _ 30 rfl base 3 i0 (.int .i64 0) 1 8 underlying30 hi ap ao am rfl (by decide) _ _ _ rfl (h.up.alloc _) ⟨w5.heap.size,0,O⟩ 1 1 [.int .i64 uI] rfl rfl (GI _ _ sm) (by simp[Value.oneCell']) (by unfold maxLen;omega) om (by have:=h.sz;simp;omega) ?_;intro v7 al j ac ay ai;obtain⟨g7,bb,rfl⟩:=ownsRow_succ j;have aV:al.frozen? ⟨mb,0,O⟩=M:=h.fz _ ac (IX h.up h.lt.1) 0;obtain⟨b7,b6,b5,b4⟩:=h.cz _ ac (IX h.up h.lt.1))
  obtain⟨h',N⟩:=h.put_u _ j ac ai;have J:=I.trans N;clear b7 b6 b5 b4 c0 c1 c2 c3 c4 c5 j ac ay ai N aV h I;have h:=h';have I:=J;clear h' J;obtain⟨Y7,hY⟩:∃Y,Y=al.setCell ⟨mb,0,O⟩ (.slice (E ⟨g7,0,O⟩) (lc U+1) bb):=⟨_,rfl⟩;rw[<-hY]at h I⊢;clear hY al;obtain⟨c0,c1,c2,c3,c4,c5⟩:=h.cells.1;go_upto_region 9 with(at_builtin;refine wpList_append_own_at _ rfl _ _ 32 rfl base 5 i1 (.int .u8 0) 1 1 underlying32 hj aO aN aM rfl (by decide) _ _ _ rfl (h.byt.alloc _) ⟨Y7.heap.size,0,O⟩ 1 1 [.int .u8 (Ie s)] rfl rfl (GI _ _ sm) (by simp[Value.oneCell']) (by unfold maxLen;omega) om (by have:=h.sz;simp;omega) ?_;intro v8 ak A aa aw ag;obtain⟨g8,b9,rfl⟩:=ownsRow_succ A;have aU:ak.frozen? ⟨mb,3,O⟩=M:=h.fz _ aa (IX h.byt h.lt.1) 3;obtain⟨b3,b2,b1,b0⟩:=h.cz _ aa (IX h.byt h.lt.1))
  obtain⟨h',N⟩:=h.put_b _ A aa ag;have J:=I.trans N;clear b3 b2 b1 b0 c0 c1 c2 c3 c4 c5 A aa aw ag N aU h I;have h:=h';have I:=J;clear h' J;obtain⟨Y8,hY⟩:∃Y,Y=ak.setCell ⟨mb,3,O⟩ (.slice (E ⟨g8,0,O⟩) (lc B+1) b9):=⟨_,rfl⟩;rw[<-hY]at h I⊢;clear hY ak;obtain⟨c0,c1,c2,c3,c4,c5⟩:=h.cells.1;go_upto_region 10 with(at_builtin;refine wpList_append_own_at _ rfl _ _ 30 rfl base 3 i0 (.int .i64 0) 1 8 underlying30 hi ap ao am rfl (by decide) _ _ _ rfl (h.dep.alloc _) ⟨Y8.heap.size,0,O⟩ 1 1 [.int .i64 (lc s:Int)] rfl rfl (GI _ _ sm) (by simp[Value.oneCell']) (by unfold maxLen;omega) om (by have:=h.sz;simp;omega) ?_;intro v9 aj C a8 av af;obtain⟨g9,b8,rfl⟩:=ownsRow_succ C;have aT:aj.frozen? ⟨mb,1,O⟩=M:=h.fz _ a8 (IX h.dep h.lt.1) 1;obtain⟨aZ,aY,aX,aW⟩:=h.cz _ a8 (IX h.dep h.lt.1))
  obtain⟨h',N⟩:=h.put_d _ C a8 af;have J:=I.trans N;clear aZ aY aX aW c0 c1 c2 c3 c4 c5 C a8 av af N aT h I;have h:=h';have I:=J;clear h' J;obtain⟨Y9,hY⟩:∃Y,Y=aj.setCell ⟨mb,1,O⟩ (T (E ⟨g9,0,O⟩) (lc D+1) b8):=⟨_,rfl⟩;rw[<-hY]at h I⊢;clear hY aj;obtain⟨c0,c1,c2,c3,c4,c5⟩:=h.cells.1
  go_wp2_with (at_builtin;refine wpList_append_own_at _ rfl _ _ 30 rfl base 3 i0 (.int .i64 0) 1 8 underlying30 hi ap ao am rfl (by decide) _ _ _ rfl (h.wrd.alloc _) ⟨Y9.heap.size,0,O⟩ 1 1 [.int .i64 Z] rfl rfl (GI _ _ sm) (by simp[Value.oneCell']) (by unfold maxLen;omega) om (by have:=h.sz;simp;omega) ?_;intro bf a2 H a1 a7 a6;obtain⟨aS,aK,rfl⟩:=ownsRow_succ H;have aF:a2.frozen? ⟨mb,2,O⟩=M:=h.fz _ a1 (IX h.wrd h.lt.1) 2;obtain⟨aJ,aI,aH,aG⟩:=h.cz _ a1 (IX h.wrd h.lt.1))
  obtain⟨h',N⟩:=h.put_x _ H a1 a6;have J:=I.trans N;clear aJ aI aH aG c0 c1 c2 c3 c4 c5 H a1 a7 a6 N aF h I;have h:=h';have I:=J;clear h' J;obtain⟨bo,hY⟩:∃Y,Y=a2.setCell ⟨mb,2,O⟩ (T (E ⟨aS,0,O⟩) (lc X+1) aK):=⟨_,rfl⟩;rw[<-hY]at h I⊢;clear hY a2
  go_end0
  rw[HZ.out];exact⟨rfl,_,_,_,_,h,I⟩
theorem ach{fold:Bool}{x:List Int}{Z:Lb}:BV fold x Z<0↔∀y∈Z,AO fold y≠AO fold x:=by
 unfold BV LM
 cases e:Z.findIdx? (λw=>CH fold x w)with
 |none=>
  rw[List.findIdx?_eq_none_iff]at e
  constructor
  ·intro _ y Y h;have:=e y Y;unfold CH at this;simp at this;exact this h.symm
  ·intro _;dsimp only;omega
 |some k=>
  constructor
  ·intro h;dsimp only at h;omega
  ·intro h;obtain⟨hk,h1,_⟩:=List.findIdx?_eq_some_iff_getElem.1 e;unfold CH at h1;simp at h1;exact absurd h1.symm (h _ (List.getElem_mem hk))
theorem ahV(fold:Bool)(l:Lb):(AZ fold l).Nodup/\∀y∈AZ fold l,AO fold y=y:=by
 refine IT (P:=λl=>(AZ fold l).Nodup/\∀y∈AZ fold l,AO fold y=y) (by simp[AZ]) (λl x ⟨h1,h2⟩=>?_) l;rw[Ka];unfold GK
 by_cases h:BV fold x (AZ fold l)<0
 ·rw[Lq h];have X:=ach.1 h;refine⟨?_,λy Z=>?_⟩
  ·rw[List.nodup_append];refine⟨h1,by simp,λa ha b Y e=>?_⟩;simp at Y;subst Y;subst e;exact X _ ha (abq _ _)
  ·rcases Bf.1 Z with Z|Z
   ·exact h2 y Z
   ·simp at Z;subst Z;exact abq _ _
 ·rw[Lc h];exact⟨h1,h2⟩
theorem ahQ:∀(l:Lb),l.Nodup->AZ M l=l:=by
 refine IT (P:=λl=>l.Nodup->AZ M l=l) (by simp[AZ]) (λl x Z h=>?_);rw[List.nodup_append]at h;rw[Ka,Z h.1];unfold GK;rw[Lq (ach.2 λy Y e=>?_)]
 ·simp[AO]
 ·simp[AO]at e;exact h.2.2 y Y x sm e
theorem EI{fold:Bool}{wss:Lb}(h:An fold wss=G):lc wss<=64/\wss≠[]/\(∀x∈wss,lc x≠0/\lc x<=32)/\Ds wss<=600/\Cl fold wss<=400/\AZ fold wss=wss:=by
 rw[NF]at h;unfold Fw at h;rw[Bq]at h;have h1:DL fold wss=0:=Kf h.1;have h2:AZ fold wss=wss:=Kf h.2;unfold DL at h1
 by_cases Z:lc wss=0
 ·rw[Lq Z]at h1;cases h1
 ·rw[Lc Z]at h1
  by_cases a2:lc wss > 64
  ·rw[Lq a2]at h1;cases h1
  ·rw[Lc a2]at h1
   by_cases a3:∃x∈wss,lc x=0
   ·rw[Lq a3]at h1;cases h1
   ·rw[Lc a3]at h1
    by_cases a4:∃x∈wss,lc x > 32
    ·rw[Lq a4]at h1;cases h1
    ·rw[Lc a4]at h1
     by_cases a5:Ds wss > 600
     ·rw[Lq a5]at h1;cases h1
     ·rw[Lc a5]at h1
      by_cases X:Cl fold wss > 400
      ·rw[Lq X]at h1;cases h1
      ·exact⟨by omega,λe=>Z (by rw[e];rfl),λx Y=>⟨λe=>a3 ⟨x,Y,e⟩,Nat.not_lt.1 λe=>a4 ⟨x,Y,e⟩⟩,by omega,by omega,h2⟩
theorem Fv{fold:Bool}{wss:Lb}(h:An fold wss=G):wss.Nodup/\∀w∈wss,AO fold w=w:=by
 have:=ahV fold wss
 rwa[(EI h).2.2.2.2.2]at this
theorem aae(fold:Bool){wss:Lb}(Y:∀w∈wss,AO fold w=w):((AB wss).length:Int)=Cl fold wss:=by
 obtain⟨h1,h2⟩:=count_eq fold wss;have Z:(AB wss).Perm (Di (Ad fold wss)).1:=by
  rw[List.perm_ext_iff_of_nodup (CL wss).nodup (ajx (Ad fold wss)).nodup];intro x;rw[DT,h2,Ei.iff];unfold OC
  constructor
  ·rintro(h|⟨h0,w,hw,Z⟩)
   ·exact .inl h
   ·exact .inr ⟨w,hw,by rw[Y w hw];exact Z⟩
  ·rintro(h|⟨w,hw,Z⟩)
   ·exact .inl h
   ·by_cases e:x=[]
    ·exact .inl e
    ·exact .inr ⟨e,w,hw,by rw[Y w hw]at Z;exact Z⟩
 rw[Z.length_eq];exact h1
theorem IY{fold:Bool}{wss:Lb}(h:An fold wss=G):An M wss=G:=by
 obtain⟨h1,h2,h3,h4,h5,h6⟩:=EI h;obtain⟨X,Y⟩:=Fv h;have V:Cl M wss=Cl fold wss:=by rw[<-aae fold Y,<-aae M (λw _=>by simp[AO])]
 rw[NF];unfold Fw;rw[Bq];refine⟨Vb ?_,Vb (ahQ wss X)⟩;unfold DL;rw[Lc (λe=>h2 (Bz e)),Lc om,Lc (λ⟨x,Z,e⟩=>(h3 x Z).1 e),Lc (λ⟨x,Z,e⟩=>by have:=(h3 x Z).2;omega),Lc om,Lc (by rw[V];omega)]
/-! ### a trie read -/
def Cy(Ta:Ay):Nat->Option Lb
 |0=>O
 |1=>E [[]]
 |i+2=>(Cy Ta (i+1)).bind λl=>match Ta.up[i+1]?,Ta.byt[i+1]? with
  |some u,E c=>if 0<=u/\u<(i:Int)+1 then(l[u.toNat]?).map λp=>l++[p++[c]] else O
  |_,_=>O
def spO(Ta:Ay):Option Lb:=
 if 1<=lc Ta.up/\lc Ta.up<=400/\lc Ta.byt=lc Ta.up/\lc Ta.dep=lc Ta.up/\lc Ta.wrd=lc Ta.up then Cy Ta (lc Ta.up) else O
theorem Mv{Ta:Ay}:∀{i:Nat}{l:Lb},Cy Ta i=E l->lc l=i
 |0,l,h=>by cases h
 |1,l,h=>by simp[Cy]at h;simp[<-h]
 |i+2,l,h=>by
  unfold Cy at h;obtain⟨Y,h0,h⟩:=Io.1 h;have Z:=Mv h0
  split at h
  ·split at h
   ·obtain⟨p,X,rfl⟩:=Fo.1 h;simp[Z]
   ·cases h
  ·cases h
def Dl(Ta:Ay)(n:Nat):Nat->Option (List Int×Int)
 |0=>E (List.replicate n 0,0)
 |i+1=>(Dl Ta n i).bind λs=>match Ta.wrd[i]? with
  |some w=>if w=-1 then E s else if w<0∨(n:Int)<=w∨i=0∨(s.1[w.toNat]?).getD 0≠0 then O else E (s.1.set w.toNat i,s.2+1)
  |none=>O
def Df(Z:Lb)(at_:List Int):Nat->Option Lb
 |0=>E []
 |k+1=>(Df Z at_ k).bind λl=>match at_[k]? with
  |some i=>if i=0 then O else(Z[i.toNat]?).map λx=>l++[x]
  |none=>O
def nuO(Ta:Ay)(Z:Lb):Option Lb:=(Dl Ta (lc Z) (lc Ta.wrd)).bind λs=>Df Z s.1 s.2.toNat
def eqT(Ta U:Ay):Bool:=decide (Ta.up=U.up)&&decide (Ta.dep=U.dep)&&decide (Ta.wrd=U.wrd)&&decide (Ta.byt=U.byt)
theorem ajJ{Ta U:Ay}:eqT Ta U=G↔Ta=U:=by obtain⟨a,b,c,d⟩:=Ta;obtain⟨X,b',Y,Z⟩:=U;simp[eqT,and_assoc]
def CI(Ta:Ay):Option (Lb×Lb):=
 (spO Ta).bind λZ=>(nuO Ta Z).bind λws=>if(An M ws&&eqT (AG ws) Ta)=G then E (Z,ws) else O
section
variable {ws:Lb}
theorem afG(w:List Int):AO M w=w:=by simp[AO]
theorem NE(h:An M ws=G):1<=(AB ws).length/\(AB ws).length<=400:=by have h1:=(EI h).2.2.2.2.1;have h2:=aae M (wss:=ws) (λw _=>afG w);have h3:(AB ws).length≠0:=λe=>Lo ws (Bz e);omega
theorem aoL{i:Nat}{x:List Int}(h:(AB ws)[i]?=E x)(h0:x≠[]):∃j,j<i/\(AB ws)[j]?=E x.dropLast/\CW (AB ws) x.dropLast=j:=by
 have U:=CL ws;have H:x.dropLast∈AB ws:=(DT ws).2 ((DT ws).1 (AX h)).up;obtain⟨j,X⟩:=DR H;refine⟨j,?_,X,CV U.nodup X⟩;have J:lc x.dropLast<lc x:=by rw[List.length_dropLast];have:lc x≠0:=λe=>h0 (Bz e);omega
 have V:=(AP.1 h);have Y:=(AP.1 X)
 rcases LG j i with Z|D
 ·exact Z
 ·exfalso
  rcases LG i j with Z|I
  ·have N:=List.pairwise_iff_getElem.1 U i j V.1 Y.1 Z;rw[V.2,Y.2]at N;have:=ag6 N;omega
  ·have e:i=j:=by omega
   subst e;rw[h]at X;have:=congrArg List.length (AK X);omega
theorem acb{x:List Int}(h:x≠[]):x.dropLast++[DU x]=x:=by unfold DU;rw[MV h,CG];exact Em h
theorem amD{i:Nat}{x:List Int}(h:(AB ws)[i+1]?=E x):x≠[]:=by intro e;subst e;have h0:=CM ws;have Z:=(CL ws).nodup;have:=Ln Z h0 h;omega
theorem adK:∀i,1<=i->i<=(AB ws).length->Cy (AG ws) i=E ((AB ws).take i)
 |0,h,_=>by omega
 |1,_,_=>by
  have h0:=CM ws
  revert h0
  cases AB ws with
  |nil=>intro h;cases h
  |cons a l=>intro h;simp at h;simp[Cy,h]
 |i+2,_,h=>by
  have V:=adK (i+1) om om;obtain⟨x,Z⟩:∃x,(AB ws)[i+1]?=E x:=⟨(AB ws)[i+1]'om,by simp⟩;have h0:=amD Z;obtain⟨j,U,X,Y⟩:=aoL Z h0;unfold Cy;rw[V,EV];have N:(AG ws).up[i+1]?=E (j:Int):=by simp[AG,Z,Y]
  have e2:(AG ws).byt[i+1]?=E (DU x):=by simp[AG,Z]
  rw[N,e2];dsimp only;rw[Lq ⟨by omega,by omega⟩,Aa,FT,Lq U,X,Dw,acb h0,As Z]
theorem agF(h:An M ws=G):spO (AG ws)=E (AB ws):=by
 obtain⟨h1,h2⟩:=NE h;unfold spO;have e:(AG ws).up.length=(AB ws).length:=by simp[AG]
 rw[Lq ⟨by rw[e];exact h1,by rw[e];exact h2,by simp[AG],by simp[AG],by simp[AG]⟩,e,adK _ h1 (AC _),Hl]
def atW(ws:Lb)(i w:Nat):Int:=match ws[w]? with
 |some x=>if(AB ws).idxOf x<i then((AB ws).idxOf x:Int) else 0
 |none=>0
theorem adL{w:Nat}{x:List Int}(Y:ws[w]?=E x)(h0:x≠[]):∃j,1<=j/\(AB ws)[j]?=E x/\(AB ws).idxOf x=j:=by
 have X:x∈AB ws:=(DT ws).2 (Ei.iff.2 (.inr ⟨h0,x,AX Y,List.prefix_refl _⟩));obtain⟨j,Z⟩:=DR X;refine⟨j,?_,Z,?_⟩
 ·by_cases e:j=0
  ·subst e;rw[CM]at Z;exact absurd (AK Z).symm h0
  ·omega
 ·have:=List.Nodup.idxOf_getElem (CL ws).nodup j (AP.1 Z).1
  rwa[(AP.1 Z).2]at this
def JM(ws:Lb)(i:Nat):Int:=((ws.filter λx=>decide ((AB ws).idxOf x<i)).length:Int)
theorem OS(h:An M ws=G):lc ws<(AB ws).length:=by
 obtain⟨U,_⟩:=Fv h;have h3:=(EI h).2.2.1;have X:([]::ws).Nodup:=by rw[List.nodup_cons];exact⟨λV=>(h3 _ V).1 rfl,U⟩
 have Y:([]::ws) ⊆ AB ws:=λx Z=>by
  rw[DT,Ei.iff]
  rcases CR.1 Z with e|Z
  ·exact .inl e
  ·exact .inr ⟨λe=>by subst e;exact(h3 _ Z).1 rfl,x,Z,List.prefix_refl _⟩
 have:=X.length_le_of_subset Y;rw[Ao]at this;omega
theorem aoE{i w:Nat}(V:w<lc ws)(h:An M ws=G):∃j x,1<=j/\ws[w]?=E x/\(AB ws)[j]?=E x/\atW ws i w=if j<i then(j:Int) else 0:=by obtain⟨x,Z⟩:∃x,ws[w]?=E x:=⟨ws[w]'V,by simp⟩;have h3:=((EI h).2.2.1 x (AX Z)).1;obtain⟨j,U,Y,X⟩:=adL Z (λe=>h3 (by rw[e];rfl));refine⟨j,x,U,Z,Y,?_⟩;unfold atW;rw[Z];dsimp only;rw[X]
theorem aeJ(h:An M ws=G):∀i,i<=(AB ws).length->Dl (AG ws) (AB ws).length i=E ((List.range (AB ws).length).map (λw=>atW ws i w),JM ws i)
 |0,_=>by
  unfold Dl;have e1:(λw=>atW ws 0 w)=λ_=>0:=by
   funext w
   unfold atW
   split<;>simp
  have e2:JM ws 0=0:=by simp[JM]
  rw[e1,e2];simp[List.map_const']
 |i+1,hi=>by
  have ih:=aeJ h i om;obtain⟨g1,_⟩:=Fv h;have a7:=(CL ws).nodup;obtain⟨x,I⟩:∃x,(AB ws)[i]?=E x:=⟨(AB ws)[i]'om,by simp⟩;have X:(AB ws).idxOf x=i:=by
   have:=List.Nodup.idxOf_getElem a7 i om
   rwa[(AP.1 I).2]at this
  unfold Dl;rw[ih,EV];have ew:(AG ws).wrd[i]?=E (CW ws x):=by simp[AG,I]
  rw[ew];dsimp only;have Y:∀y∈ws,(AB ws).idxOf y=i->y=x:=λy U e=>by
   have j:y∈AB ws:=by rw[DT,Ei.iff];exact .inr ⟨λe=>by subst e;exact((EI h).2.2.1 _ U).1 rfl,y,U,List.prefix_refl _⟩
   have h1:=List.getElem_idxOf (List.idxOf_lt_length_of_mem j);have h2:=(AP.1 I).2;rw[<-h1,<-h2];congr 1
  by_cases C:x∈ws
  ·obtain⟨w,D⟩:=DR C;have aa:=(AP.1 D).1;have a8:=OS h;have hp:=CV g1 D;have a6:x≠[]:=λe=>by subst e;exact((EI h).2.2.1 _ C).1 rfl
   have ab:i≠0:=λe=>by subst e;rw[CM]at I;exact a6 (AK I).symm
   rw[hp,Lc om,Aa];have ea:atW ws i w=0:=by unfold atW;rw[D];dsimp only;rw[X,Lc om]
   have eg:(((List.range (AB ws).length).map (λw=>atW ws i w))[w]?).getD 0=0:=by
    rw[BU,It om]
    simpa using ea
   rw[Lc (by rw[eg];omega)];congr 1;refine Prod.ext ?_ ?_
   ·dsimp only
    apply Hn
    intro v;rw[Gr]
    by_cases e:w=v
    ·subst e;have H:w<(AB ws).length:=by omega
     have e1:atW ws (i+1) w=i:=by unfold atW;rw[D];dsimp only;rw[X,Lq om]
     simp[H,e1]
    ·rw[Lc e,BU,BU]
     by_cases hv:v<(AB ws).length
     ·rw[It hv];simp only[Dw,DC];unfold atW
      cases A:ws[v]? with
      |none=>rfl
      |some y=>
       dsimp only;have V:(AB ws).idxOf y≠i:=λe2=>by have:=Y y (AX A) e2;subst this;exact e (Ln g1 D A)
       by_cases Z:(AB ws).idxOf y<i
       ·rw[Lq Z,Lq om]
       ·rw[Lc Z,Lc om]
     ·rw[GT (by simpa using hv)];rfl
   ·dsimp only;unfold JM;have s:∀(l:Lb),l.Nodup->x∈l->(∀y∈l,(AB ws).idxOf y=i->y=x)->(l.filter λy=>decide ((AB ws).idxOf y<i+1)).length=(l.filter λy=>decide ((AB ws).idxOf y<i)).length+1:=by
     intro l
     induction l with
     |nil=>intro _ h;cases h
     |cons y l ihl=>
      intro hn a1 hu;rw[List.nodup_cons]at hn
      by_cases e:y=x
      ·subst e;have N:∀z∈l,(decide ((AB ws).idxOf z<i+1))=decide ((AB ws).idxOf z<i):=λz B=>by
        have V:(AB ws).idxOf z≠i:=λe2=>by have:=hu z (by simp[B]) e2;subst this;exact hn.1 B
        rw[decide_eq_decide];omega
       rw[List.filter_cons,List.filter_cons,Lq (by rw[X];simp),Lc (by rw[X];simp),Ao,List.filter_congr N]
      ·have a2:x∈l:=(CR.1 a1).resolve_left (λe2=>e e2.symm);have V:(AB ws).idxOf y≠i:=λe2=>e (hu y sm e2);have J:=ihl hn.2 a2 (λz B=>hu z (by simp[B]));rw[List.filter_cons,List.filter_cons]
       by_cases Z:(AB ws).idxOf y<i
       ·rw[Lq (by simp;omega),Lq (by simpa using Z),Ao,Ao,J]
       ·rw[Lc (by simp;omega),Lc (by simpa using Z),J]
    rw[s ws g1 C Y];omega
  ·rw[abt C,Lq rfl];congr 1;have V:∀y∈ws,(AB ws).idxOf y≠i:=λy U e=>C (Y y U e ▸ U);refine Prod.ext ?_ ?_
   ·dsimp only
    apply OJ
    intro v _;unfold atW
    cases A:ws[v]? with
    |none=>rfl
    |some y=>
     dsimp only;have:=V y (AX A)
     by_cases Z:(AB ws).idxOf y<i
     ·rw[Lq Z,Lq om]
     ·rw[Lc Z,Lc om]
   ·dsimp only;have ef:(ws.filter λy=>decide ((AB ws).idxOf y<i+1))=ws.filter λy=>decide ((AB ws).idxOf y<i):=List.filter_congr (λy U=>by have:=V y U;rw[decide_eq_decide];omega);unfold JM;rw[ef]
theorem akn(h:An M ws=G):JM ws (AB ws).length=lc ws:=by
 unfold JM;rw[List.filter_eq_self.2];intro y Y;have Z:y∈AB ws:=by rw[DT,Ei.iff];exact .inr ⟨λe=>by subst e;exact((EI h).2.2.1 _ Y).1 rfl,y,Y,List.prefix_refl _⟩
 simpa using List.idxOf_lt_length_of_mem Z
theorem aeu(h:An M ws=G):∀k,k<=lc ws->Df (AB ws) ((List.range (AB ws).length).map (λw=>atW ws (AB ws).length w)) k=E (ws.take k)
 |0,_=>rfl
 |k+1,hk=>by have X:=aeu h k om;obtain⟨j,x,U,V,Z,ha⟩:=aoE (i:=(AB ws).length) (w:=k) om h;have Y:=(AP.1 Z).1;rw[Lq Y]at ha;unfold Df;rw[X,EV,BU,It (by have:=OS h;omega)];simp only[Dw,ha];rw[Lc om,Aa,Z,Dw,As V]
theorem al7(h:An M ws=G):nuO (AG ws) (AB ws)=E ws:=by
 unfold nuO;have e:(AG ws).wrd.length=(AB ws).length:=by simp[AG]
 rw[e,aeJ h _ (AC _),EV];dsimp only;rw[akn h,Aa,aeu h _ (AC _),Hl]
theorem ahK(h:An M ws=G):CI (AG ws)=E (AB ws,ws):=by unfold CI;rw[agF h,EV,al7 h,EV,Lq (by rw[h,ajJ.2 rfl];rfl)]
end
theorem Fy{Ta:Ay}{X ws:Lb}:CI Ta=E (X,ws)↔An M ws=G/\Ta=AG ws/\X=AB ws:=by
 constructor
 ·intro h;unfold CI at h;obtain⟨V,h1,h⟩:=Io.1 h;obtain⟨Y,h2,h⟩:=Io.1 h
  split at h
  ·rename_i Z
   rw[Bq]at Z;have Z:An M Y=G/\Ta=AG Y:=⟨Z.1,(ajJ.1 Z.2).symm⟩
   injection h with h
   injection h with e1 e2
   subst e1 e2;refine⟨Z.1,Z.2,?_⟩;rw[Z.2,agF Z.1]at h1;exact(AK h1).symm
  ·cases h
 ·rintro⟨h1,rfl,rfl⟩;exact ahK h1
structure TV where
 ua:Option Addr
 un:Nat
 uc:Nat
 da:Option Addr
 dn:Nat
 dc:Nat
 xa:Option Addr
 xn:Nat
 xc:Nat
 ba:Option Addr
 bn:Nat
 bc:Nat
abbrev TV.cells(t:TV):Array Vk:=#[T t.ua t.un t.uc,T t.da t.dn t.dc,T t.xa t.xn t.xc,T t.ba t.bn t.bc]
structure Tri(W:World)(t:TV)(T:Ay):Prop where
 up:Sl1 (R K) W t.ua t.un T.up
 dep:Sl1 (R K) W t.da t.dn T.dep
 wrd:Sl1 (R K) W t.xa t.xn T.wrd
 byt:Bys W t.ba t.bn T.byt
 cap:t.un<=t.uc/\t.dn<=t.dc/\t.xn<=t.xc/\t.bn<=t.bc
theorem Tri.below{W Y:Wa}{t:TV}{Ta:Ay}(h:Tri W t Ta)(Z:La W Y):Tri Y t Ta:=⟨h.up.below Z,h.dep.below Z,h.wrd.below Z,h.byt.below Z,h.cap⟩
theorem akv(s:Byt):Ie s=DU (toI s):=by unfold Ie DU toI;rw[List.getLast?_map]
theorem adO(s:Byt):toI s.dropLast=(toI s).dropLast:=by simp[toI,List.map_dropLast]
theorem amY{s:Byt}:toI s=[]↔s=[]:=by simp[toI]
def Hh(wss:Lb)(k:Nat)(f:Byt->Option Int):Prop:=∀s:Byt,f s=if toI s∈wss.take k then E (CW wss (toI s)) else O
theorem Hh.start(wss:Lb):Hh wss 0 (λ_=>O):=λs=>by simp
theorem Hh.step{wss:Lb}{k:Nat}{f:Byt->Option Int}{x:List Int}(h:Hh wss k f)(Y:wss.Nodup)(Z:wss[k]?=E x)(X:∀c∈x,0<=c/\c<=255):Hh wss (k+1) (λs=>if s=ofI x then E (k:Int) else f s):=λs=>by
 rw[As Z];show(if s=ofI x then E (k:Int) else f s)=_
 by_cases e:s=ofI x
 ·rw[Lq e];have e2:toI s=x:=by rw[e,Mj X]
  rw[e2,Lq sm,CV Y Z]
 ·rw[Lc e,h s];have e2:toI s≠x:=λe2=>e (by rw[<-e2,ao9])
  by_cases h1:toI s∈wss.take k
  ·rw[Lq h1,Lq (by simp[h1])]
  ·rw[Lc h1,Lc (by simp[h1,e2])]
theorem Hh.get{wss:Lb}{f:Byt->Option Int}(h:Hh wss (lc wss) f)(s:Byt):(f s).getD (-1)=CW wss (toI s):=by
 rw[h s,Hl]
 by_cases e:toI s∈wss
 ·rw[Lq e];rfl
 ·rw[Lc e,abt e];rfl
theorem MK.putW{base N nb Y I A m:Nat}{H s C:Byt->Option Int}{U D X B:List Int}{u d x b:Vk}{W V:Wa}(h:MK base N nb Y I A H s U D X B u d x b W)(v:MS V Y m C)(Z:W.grownBy V (E Y)):MK base N nb Y I m H C U D X B u d x b V:=by have J:=(AD.1 h.box).1;refine⟨(Z.block N J (λe=>by injection e with e;exact h.lt.2.2.2.2.1 e)).trans h.box,h.up.kept Z (Gv h.up h.lt.2.2.1),h.dep.kept Z (Gv h.dep h.lt.2.2.1),h.wrd.kept Z (Gv h.wrd h.lt.2.2.1),h.byt.kept Z (Gv h.byt h.lt.2.2.1),h.s1,h.s2,h.s3,h.s4,h.s5,h.s6,h.nod.kept Z (λe=>by injection e with e;exact h.lt.2.2.2.2.2 e.symm),v,h.lt,AS h.sz Z.size⟩
theorem alG{nb Z:Nat}(i:Nat)(s:Byt)(h:(JL (T O 0 0) (T O 0 0) (T O 0 0) (T O 0 0) nb Z)[i]?=E (Ca s)):False:=by rcases i with _|_|_|_|_|_|i<;>simp at h
theorem NQ{α:Type}{enc:α->Vk}{w:Wa}{base n c:Nat}{e:TypeId}{a:Option Addr}{xs:List α}(h:w.ownsRow base e 1 (T a n c) n (xs.map enc)):Sl1 enc w a n xs:=by
 obtain⟨Y,Z,e,_,h1⟩:=Co h
 injection e with e1 e2 e3
 subst e1;exact h1
theorem alX{wss:Lb}(h:∀x∈wss,∀c∈x,0<=c/\c<=255):∀c∈(AG wss).byt,0<=c/\c<=255:=λc Y=>by
 simp only[AG,Be]at Y;obtain⟨x,X,rfl⟩:=Y;unfold DU
 cases e:x.getLast? with
 |none=>simp
 |some y=>
  have Z:=List.mem_of_getLast? e
  rcases(DT wss).1 X with h1|⟨w,V,k,_,_,h2⟩
  ·rw[h1]at Z;cases Z
  ·rw[h2]at Z;exact h w V y (EG Z)
theorem Ft(v:Vk):sep (T O 0 0) v:=λk h _=>by cases h
theorem aaY{fn:Func}{p u:Tmp}{tmps:Array Vk}{W:Wa}{B:Nat}{x y z v:Vk}(h:fn.results=#[.cell p 150,.tmp u])(Z:tmps.getD p undef=L (E ⟨B,0,O⟩))(hB:W.heap[B]?=E (i7 #[x,y,z,v] 150 (0,0))) :(results fn tmps).run ZP W=.ok (ta #[i8 #[x,y,z,v],tmps.getD u undef]) W:=by have Y:(loadVar 150 ⟨B,0,O⟩).run ZP W=.ok (i8 #[x,y,z,v]) W:=run_loadVar_row W B 150 150 #[x,y,z,v] (0,0) _ hB underlying150 rfl kr;rw[results_cell_tmp h,Z];simp[asAddr,Y,Result.andThen]
abbrev IC:Array Vk:=#[T O 0 0,T O 0 0,T O 0 0,T O 0 0]
theorem amr(fold:Bool)(a:Option Addr)(Y V:Nat)(wss:Lb)(w:Wa)(v:Wds w a Y wss)(N:Y<=1000000)(A:∀x∈wss,lc x<=1000000)(B:(Ad fold wss).length<=1000000)(D:An fold wss=M) :Calls ZP 87 #[i8 (AM fold a Y V)] w λe w'=>e=ra (ta #[i8 #[T O 0 0,T O 0 0,T O 0 0,T O 0 0],R K 2])/\La w w':=by
 have s:=AA D;clear D;have X:La w ((w.alloc (i7 (AM fold a Y V) 24)).alloc (i7 (IC) 150)):=((AH _ _).alloc (AC _) _).alloc sm _;have H:=Hf (w:=w.alloc (i7 (AM fold a Y V) 24)) (n:=w.heap.size+1) sm (i7 (IC) 150);have j:=AA (aaM fold a Y V wss _ (v.below X) N A B);go_enter func87,ntmps87
 go_wp2_with fail
 refine j.out.mono ?_;rintro e Z ⟨rfl,J⟩;rw[s.out];have I:La w Z:=X.trans (J.mono (by simp;omega));have m1:Z.heap[w.heap.size+1]?=E (i7 IC 150 (0,0)):=(J.block _ sm).trans H;have C:w.heap.size+1<Z.heap.size:=(AD.1 m1).1;clear J H;have q0:Z.cell? ⟨w.heap.size+1,0,O⟩=E (T O 0 0):=by simp[cell?,m1]
 have q1:Z.cell? ⟨w.heap.size+1,1,O⟩=E (T O 0 0):=by simp[cell?,m1]
 have q2:Z.cell? ⟨w.heap.size+1,2,O⟩=E (T O 0 0):=by simp[cell?,m1]
 have q3:Z.cell? ⟨w.heap.size+1,3,O⟩=E (T O 0 0):=by simp[cell?,m1]
 have f0:∀i,Z.frozen? ⟨w.heap.size+1,i,O⟩=M:=λi=>by simp[frozen?,m1]
 go_wp2;have U:=AJ (i:=3) (AJ (i:=2) (AJ (i:=1) (AJ (i:=0) m1 (T O 0 0)) (T O 0 0)) (T O 0 0)) (T O 0 0);refine Vi (aaY rfl rfl (by simpa using U)) rfl ?_;exact⟨rfl,(((I.setCell (by show w.heap.size<=w.heap.size+1;omega) _).setCell (by show w.heap.size<=w.heap.size+1;omega) _).setCell (by show w.heap.size<=w.heap.size+1;omega) _).setCell (by show w.heap.size<=w.heap.size+1;omega) _⟩
theorem afU(wss:Lb):(Ef (wss.map ofI):Int)=Ds wss:=by
 unfold Ef Ds
 induction wss with
 |nil=>rfl
 |cons x l ih=>simp only[BO,List.sum_cons]at ih⊢;rw[LK,ih];simp[ofI]
theorem abH(fold:Bool)(a:Option Addr)(N A:Nat)(wss:Lb)(w:Wa)(hA:Wds w a N wss)(aE:N<=1000000)(hM:∀x∈wss,lc x<=1000000)(hT:(Ad fold wss).length<=1000000)(hr:An fold wss=G) :Calls ZP 87 #[i8 (AM fold a N A)] w λe w'=>∃t:TV,e=ra (ta #[i8 t.cells,R K 0])/\Tri w' t (AG wss)/\La w w':=by
 have HR:=AA hr;have HL:=AA hA.len;obtain⟨r1,r2,r3,r4,r5,r6⟩:=EI hr;have aB:=(Fv hr).1;obtain⟨bp,bo⟩:=NE (IY hr);have b6:Ef (wss.map ofI)<=1000000:=by have:=afU wss;omega
 have bi:=AA aB;have aJ:=AA hA.bytes;have bt:=@run_makeMap ZP;have bg:=AA r3;clear hr r2 r3 r4 r5 r6 aB;have am:La w ((w.alloc (i7 (AM fold a N A) 24)).alloc (i7 (IC) 150)):=((AH _ _).alloc (AC _) _).alloc sm _;have n1:=Hf (w:=w.alloc (i7 (AM fold a N A) 24)) (n:=w.heap.size+1) sm (i7 (IC) 150);have n0:((w.alloc (i7 (AM fold a N A) 24)).alloc (i7 (IC) 150)).heap[w.heap.size]?=E (i7 (AM fold a N A) 24 (0,0)):=(Bg _ _ _ sm).trans (AT _ _);have HC:=AA (aaM fold a N A wss _ (hA.below am) aE hM hT);go_enter func87,ntmps87
 go_wp2_with fail
 refine HC.out.mono ?_;rintro e U ⟨rfl,hb⟩;rw[HR.out];have ao:La w U:=am.trans (hb.mono (by simp;omega));have m0:U.heap[w.heap.size]?=E (i7 (AM fold a N A) 24 (0,0)):=(hb.block _ (by simp;omega)).trans n0;have m1:U.heap[w.heap.size+1]?=E (i7 IC 150 (0,0)):=(hb.block _ sm).trans n1;have ay:w.heap.size+1<U.heap.size:=(AD.1 m1).1;clear hb n1 n0 am;go_upto_region 4 with fail
 obtain⟨W4,aa⟩:∃W4,W4=((U.alloc (Obj.map #[] 0)).alloc (Obj.map #[] 0)).alloc (i7 (JL (T O 0 0) (T O 0 0) (T O 0 0) (T O 0 0) U.heap.size (U.heap.size+1)) 230):=⟨_,rfl⟩;have a2:La U W4:=by rw[aa];exact(((AH _ _).alloc (AC _) _).alloc sm _).alloc (by simp;omega) _
 have X:MK (U.heap.size+1+1+1) (U.heap.size+1+1) U.heap.size (U.heap.size+1) 0 0 (λ_=>O) (λ_=>O) [] [] [] [] (T O 0 0) (T O 0 0) (T O 0 0) (T O 0 0) W4:=by
  rw[aa];have aD:=MQ (H:=Unit) (U.alloc (Obj.map #[] 0)) ZP 9 (plainElem ZP 3);rw[DN]at aD;exact⟨Hf sm _,BN _ _ _ _,BN _ _ _ _,BN _ _ _ _,BN _ _ _ _,Ft _,Ft _,Ft _,Ft _,Ft _,Ft _,
   ((MS.start _ (MQ U ZP 9 (plainElem ZP 3))).alloc _).alloc _,(MS.start _ aD).alloc _,⟨by omega,by omega,by omega,by omega,by omega,by omega⟩,by simp⟩
 have V:La w W4:=ao.trans (a2.mono ao.size);have k0:W4.heap[w.heap.size]?=_:=(a2.block _ om).trans m0;have k1:W4.heap[w.heap.size+1]?=_:=(a2.block _ ay).trans m1;rw[<-aa];clear aa a2 ao m0 m1;obtain⟨P,hP⟩:∃P,U.heap.size=P:=⟨_,rfl⟩;rw[hP]at X ay⊢;clear hP;have s1:W4.cell? ⟨w.heap.size,1,O⟩=E (T a N A):=by simp[cell?,k0]
 go_wp2;clear s1
 go_loopw[5,6,19] (λ_ _ aL wr=>∃(k:Nat)(fW:Byt->Option Int),k<=N/\aL=R K k/\Hid (Hh wss k fW)/\MK (P+1+1+1) (P+1+1) P (P+1) 0 k (λ_=>O) fW [] [] [] [] (T O 0 0) (T O 0 0) (T O 0 0) (T O 0 0) wr/\La w wr/\wr.heap[w.heap.size]?=E (i7 (AM fold a N A) 24 (0,0))/\wr.heap[w.heap.size+1]?=E (i7 IC 150 (0,0))) (λ_ _ i _=>N-(intOf i).toNat)
 case atStart=>exact⟨0,_,AR _,rfl,Hh.start wss,X,V,k0,k1⟩
 case round=>
  clear X V k0 k1;obtain⟨k,fW,hk,rfl,HW,X,V,k0,k1⟩:=hrel
  by_cases aU:k<N
  ·obtain⟨bb,off,ax,lx,cx,x,b7,bw,b3,hx,hX,bu⟩:=(hA.below V).at_ aU;have bq:lx<=1000000:=by have:=Ff hM hx;rw[hX.len]at this;exact this
   have cv:=Gh hX cx;rw[agO]at cv;have az:(ofI x).length<=maxLen:=by have:=hX.len;simp[ofI];unfold maxLen;omega
   have aI:=AA (HW.out.step bi.out hx (aJ.out x (AX hx)));obtain⟨s,hs⟩:∃s,ofI x=s:=⟨_,rfl⟩;rw[hs]at cv az aI;subst b7;have aT:P+1+1<wr.heap.size:=(AD.1 X.box).1;have c5:=X.cells.1.2.2.2.2.2;have aS:=X.wds;have aZ:decide ((k:Int)<N)=G:=by simp;omega
   clear hx hs hX
   go_wp2_with (at_mapUpdate;refine OQ rfl _ _ _ rfl rfl aS (by unfold maxLen;omega) s k (OW om) rfl rfl az ?_;intro J aC a7)
   have I:=X.putW aC a7;have ak:La w J:=V.grown a7 V.size (λk e=>by cases e;omega);have j0:J.heap[w.heap.size]?=_:=(a7.block _ om (by intro e;injection e with e;omega)).trans k0;have j1:J.heap[w.heap.size+1]?=_:=(a7.block _ om (by intro e;injection e with e;omega)).trans k1
   go_roundw
   case rel=>exact⟨k+1,_,by omega,by go_num,aI,I,ak,j0,j1⟩
   case measure=>simp[intOf];omega
  ·obtain rfl:k=N:=by omega
   have aZ:decide ((k:Int)<k)=M:=by simp
   have bf:Hid (Hh wss (lc wss) fW):=by rw[Hid,HL.out];exact HW.out
   have s1:wr.cell? ⟨w.heap.size,1,O⟩=E (T a k A):=by simp[cell?,k0]
   go_wp2_with fail
   refine(ame a k A wss wr (hA.below V) aE hM b6).mono ?_;rintro e J ⟨al,nl,cl,l,rfl,ai,hl,aO,hb⟩;have ak:La w J:=V.trans (hb.mono V.size);have aT:P+1+1<wr.heap.size:=(AD.1 X.box).1;have I:=X.below hb;have aw:wr.heap.size<=J.heap.size:=hb.size;have j1:J.heap[w.heap.size+1]?=_:=(hb.block _ om).trans k1;have aA:nl=(AB wss).length:=by rw[ai,<-hl];simp
   have B:MK J.heap.size (P+1+1) P (P+1) 0 k (λ_=>O) fW ((AG wss).up.take 0) ((AG wss).dep.take 0) ((AG wss).wrd.take 0) ((AG wss).byt.take 0) (T O 0 0) (T O 0 0) (T O 0 0) (T O 0 0) J:=
    ⟨I.box,BN _ _ _ _,BN _ _ _ _,BN _ _ _ _,BN _ _ _ _,Ft _,Ft _,Ft _,Ft _,Ft _,Ft _,I.nod,I.wds,⟨by omega,by omega,by omega,by omega,by omega,by omega⟩,AC _⟩
   have ap:=AA hl;have a1:=AA aA;have bh:=AA ai;have aR:nl<=400:=by omega
   obtain⟨BS,aj⟩:∃BS,J.heap.size=BS:=⟨_,rfl⟩;have be:Hid (∀q,q<BS->q≠P+1+1->q≠P->J.heap[q]?=J.heap[q]?):=λ_ _ _ _=>rfl;rw[aj]at B aw;obtain⟨_,ac⟩:=aO;obtain⟨g,off,b8,aF,a8⟩:=ac.resolve_left om;obtain⟨x0,ag⟩:∃x0,l[0]?=E x0:=⟨l[0]'om,by simp⟩;have aY:g≠P+1+1:=λe=>by have h1:=a8 0 x0 ag;rw[e]at h1;have h2:=B.box;simp only[cell?,h2]at h1;exact alG _ _ h1
   have aX:g≠P:=λe=>by have h1:=a8 0 x0 ag;rw[e]at h1;obtain⟨D,⟨es,bd,h2,_⟩,_⟩:=B.nod;simp[cell?,h2]at h1
   have bl:=AA a8;rw[aj]at aF;subst b8;clear X I V k0 k1 hb s1 hl ai aA aj be ac a8 ag;go_wp2
   go_loopw[8,34] (λ_ aK wr=>∃(i:Nat)(fN:Byt->Option Int)(u d x b:Vk),i<=nl/\aK=R K i/\Hid (∀j y,j<i->l[j]?=E y->fN y=E (j:Int))/\MK BS (P+1+1) P (P+1) i k fN fW ((AG wss).up.take i) ((AG wss).dep.take i) ((AG wss).wrd.take i) ((AG wss).byt.take i) u d x b wr/\Bl (P+1+1) P BS J wr) (λ_ s _=>nl-(intOf s).toNat)
   case atStart=>exact⟨0,_,_,_,_,_,AR _,rfl,(λj y h=>by omega),B,Bl.refl _ _ _ _⟩
   case round=>
    clear B;obtain⟨i,fN,u,d,x,b,hi,rfl,HF,Y,C⟩:=hrel
    by_cases bv:i<nl
    ·obtain⟨s,hs⟩:∃s,l[i]?=E s:=⟨l[i]'(by have:=bh.out;omega),by simp⟩;have hN:(AB wss)[i]?=E (toI s):=by rw[<-ap.out,BU,hs];rfl
     have cs:wr.cell? ⟨g,off+i,O⟩=E (Ca s):=(BC (C.block g aF aY aX)).trans (bl.out i s hs);have aN:lc s<=32:=by
      have h1:=(DT wss).1 (AX hN);have h2:=Ml s
      rcases h1 with h1|⟨z,hz,q,_,h3,h4⟩
      ·rw[h1]at h2;simp at h2;omega
      ·have h5:=(bg.out z hz).2;rw[h4,Ag]at h2;omega
     obtain⟨uI,a6⟩:∃uI,CW (AB wss) (toI s).dropLast=uI:=⟨_,rfl⟩;have av:s=[]->uI=0:=λe=>by rw[<-a6,e];exact CV (CL wss).nodup (CM wss)
     have ar:s≠[]->fN s.dropLast=E uI:=λe=>by
      obtain⟨j,hj,aV,aP⟩:=aoL hN (λe2=>e (amY.1 e2));rw[<-a6,aP];have h1:(l.map toI)[j]?=E (toI s).dropLast:=by rw[ap.out];exact aV
      rw[BU]at h1;obtain⟨y,hy,h2⟩:=Fo.1 h1;rw[<-adO]at h2;rw[<-LS h2];exact HF.out j y hj hy
     have eU:Hid ((AG wss).up.take (i+1)=(AG wss).up.take i++[uI]):=As (by simp[AG,hN,a6]);have eD:Hid ((AG wss).dep.take (i+1)=(AG wss).dep.take i++[(lc s:Int)]):=As (by simp[AG,hN,Ml]);have eX:Hid ((AG wss).wrd.take (i+1)=(AG wss).wrd.take i++[(fW s).getD (-1)]):=As (by rw[bf.out.get];simp[AG,hN]);have eB:Hid ((AG wss).byt.take (i+1)=(AG wss).byt.take i++[Ie s]):=As (by rw[akv];simp[AG,hN]);have aW:i<(AB wss).length:=by have:=a1.out;omega
     have lU:((AG wss).up.take i).length=i:=by rw[Ag];simp[AG];omega
     have lD:((AG wss).dep.take i).length=i:=by rw[Ag];simp[AG];omega
     have lX:((AG wss).wrd.take i).length=i:=by rw[Ag];simp[AG];omega
     have lB:((AG wss).byt.take i).length=i:=by rw[Ag];simp[AG];omega
     have bk:Hid (∀j y,j<i+1->l[j]?=E y->(if y=s then E (((AG wss).up.take i).length:Int) else fN y)=E (j:Int)):=λj y hj hy=>by
      by_cases e:j=i
      ·subst e;rw[hs]at hy;rw[Lq (AK hy).symm,lU]
      ·have aQ:y≠s:=λe2=>by
        subst e2;have h1:(AB wss)[j]?=E (toI y):=by rw[<-ap.out,BU,hy];rfl
        exact e (Ln (CL wss).nodup h1 hN)
       rw[Lc aQ];exact HF.out j y om hy
     have af:=AA (anN BS (P+1+1) P (P+1) i k fN fW _ _ _ _ u d x b s uI wr Y om om om om om om av ar);have b0:decide ((i:Int)<nl)=G:=by simp;omega
     clear Y av ar hN hs a6 lU lD lX lB HF
     go_wp2_with fail
     refine af.out.mono ?_;rintro e w6 ⟨rfl,u',d',x',b',aG,ae⟩;have b9:Hid (MK BS (P+1+1) P (P+1) (i+1) k (λq=>if q=s then E (((AG wss).up.take i).length:Int) else fN q) fW ((AG wss).up.take (i+1)) ((AG wss).dep.take (i+1)) ((AG wss).wrd.take (i+1)) ((AG wss).byt.take (i+1)) u' d' x' b' w6):=by rw[Hid,eU.out,eD.out,eX.out,eB.out];exact aG
     have bj:=AA (C.trans ae);clear aG ae C af cs eU eD eX eB;go_wp2
     go_roundw
     case rel=>exact⟨i+1,_,u',d',x',b',by omega,by go_num,bk,b9.out,bj.out⟩
     case measure=>simp[intOf];omega
    ·obtain rfl:i=nl:=by omega
     have b0:decide ((i:Int)<i)=M:=by simp
     have tU:(AG wss).up.take i=(AG wss).up:=Ap (by have:=a1.out;simp[AG];omega);have tD:(AG wss).dep.take i=(AG wss).dep:=Ap (by have:=a1.out;simp[AG];omega);have tX:(AG wss).wrd.take i=(AG wss).wrd:=Ap (by have:=a1.out;simp[AG];omega);have tB:(AG wss).byt.take i=(AG wss).byt:=Ap (by have:=a1.out;simp[AG];omega);rw[tU,tD,tX,tB]at Y;clear tU tD tX tB;have aH:La w wr:=C.below ak om om om;have j7:wr.heap[w.heap.size+1]?=E (i7 IC 150 (0,0)):=(C.block _ om om om).trans j1;obtain⟨au,cu,rfl,b2,_⟩:=Co Y.up;obtain⟨ad,cd,rfl,b4,_⟩:=Co Y.dep;obtain⟨ax,cx,rfl,b1,_⟩:=Co Y.wrd;obtain⟨ab,cb,rfl,b5,_⟩:=Co Y.byt;obtain⟨⟨c0,c1,c2,c3,_,_⟩,_⟩:=Y.cells;have q0:wr.cell? ⟨w.heap.size+1,0,O⟩=E (T O 0 0):=by simp[cell?,j7]
     have q1:wr.cell? ⟨w.heap.size+1,1,O⟩=E (T O 0 0):=by simp[cell?,j7]
     have q2:wr.cell? ⟨w.heap.size+1,2,O⟩=E (T O 0 0):=by simp[cell?,j7]
     have q3:wr.cell? ⟨w.heap.size+1,3,O⟩=E (T O 0 0):=by simp[cell?,j7]
     have f0:∀i,wr.frozen? ⟨w.heap.size+1,i,O⟩=M:=λi=>by simp[frozen?,j7]
     have Z:w.heap.size+1<BS:=by omega
     obtain⟨vU,aM⟩:∃v,v=T au (AG wss).up.length cu:=⟨_,rfl⟩;have rU:=λv0 v1 v2 v3=>Bm (i:=3) (Bm (i:=2) (Bm (i:=1) (Bm (i:=0) Y.up Z v0) Z v1) Z v2) Z v3;have rD:=λv0 v1 v2 v3=>Bm (i:=3) (Bm (i:=2) (Bm (i:=1) (Bm (i:=0) Y.dep Z v0) Z v1) Z v2) Z v3;have rX:=λv0 v1 v2 v3=>Bm (i:=3) (Bm (i:=2) (Bm (i:=1) (Bm (i:=0) Y.wrd Z v0) Z v1) Z v2) Z v3;have rB:=λv0 v1 v2 v3=>Bm (i:=3) (Bm (i:=2) (Bm (i:=1) (Bm (i:=0) Y.byt Z v0) Z v1) Z v2) Z v3;have HU:=AA rU;have HD:=AA rD;have HX:=AA rX;have HB:=AA rB;have aq:=AJ (i:=3) (AJ (i:=2) (AJ (i:=1) (AJ (i:=0) j7 (T au (AG wss).up.length cu)) (T ad (AG wss).dep.length cd)) (T ax (AG wss).wrd.length cx)) (T ab (AG wss).byt.length cb);have HZ:=AA aq;have bm:=AA ((((aH.setCell (p:=⟨w.heap.size+1,0,O⟩) (by show w.heap.size<=w.heap.size+1;omega) (T au (AG wss).up.length cu)).setCell (p:=⟨w.heap.size+1,1,O⟩) (by show w.heap.size<=w.heap.size+1;omega) (T ad (AG wss).dep.length cd)).setCell (p:=⟨w.heap.size+1,2,O⟩) (by show w.heap.size<=w.heap.size+1;omega) (T ax (AG wss).wrd.length cx)).setCell (p:=⟨w.heap.size+1,3,O⟩) (by show w.heap.size<=w.heap.size+1;omega) (T ab (AG wss).byt.length cb));clear Y rU rD rX rB aq aH aM vU j7 C;go_wp2;refine Vi (aaY rfl rfl (by simpa using HZ.out)) rfl ?_;refine⟨⟨au,(AG wss).up.length,cu,ad,(AG wss).dep.length,cd,ax,(AG wss).wrd.length,cx,ab,(AG wss).byt.length,cb⟩,rfl,⟨NQ (HU.out _ _ _ _),NQ (HD.out _ _ _ _),NQ (HX.out _ _ _ _),⟨NQ (HB.out _ _ _ _),alX aJ.out⟩,⟨b2,b4,b1,b5⟩⟩,bm.out⟩
theorem afE(a b:Option Addr)(Y ca U cb:Nat)(l m:List Int)(w:Wa)(D:Sl1 (R K) w a Y l)(hB:Sl1 (R K) w b U m)(a1:Y<=4611686018427387904) :Calls ZP 75 #[T a Y ca,T b U cb] w λe w'=>e=ra (i6 (decide (l=m)))/\La w w':=by
 have s:=AA D.1;have v:=AA hB.1
 by_cases H:Y=U
 ·subst H;go_enter func75,ntmps75;go_wp2
  go_loopw[13] (λi wr=>∃k:Nat,k<=Y/\i=R K k/\Hid (l.take k=m.take k)/\La w wr) (λi _=>Y-(intOf i).toNat)
  case atStart=>exact⟨0,AR _,rfl,by simp[Hid],AH _ _⟩
  case round=>
   obtain⟨k,hk,rfl,A,Z⟩:=hrel
   by_cases V:k<Y
   ·obtain⟨b1,o1,x,rfl,a6,x0,I⟩:=DG (D.below Z) V;obtain⟨b2,o2,y,rfl,a2,y0,J⟩:=DG (hB.below Z) V;have B:=AA I;have C:=AA J;clear I J;have hd:decide ((k:Int)<Y)=G:=by simp;omega
    by_cases h:x=y
    ·have X:Hid (l.take (k+1)=m.take (k+1)):=by rw[As B.out,As C.out,A.out,h];rfl
     have N:((x:Int) != y)=M:=by simp[h]
     clear h;go_wp2
     go_quiet (fail)
     go_wp2
     go_roundw
     case rel=>exact⟨k+1,by omega,by go_num,X,Z.trans ⟨rfl,rfl,rfl,AC _,λ_ _=>rfl⟩⟩
     case measure=>simp[intOf];omega
    ·have X:Hid (decide (l=m)=M):=by
      have:l≠m:=λe=>by have h1:=B.out;rw[e,C.out]at h1;exact h (AK h1).symm
      simp[Hid,this]
     have N:((x:Int) != y)=G:=by simp[h]
     clear h;go_wp2
     go_quiet (fail)
     go_wp2;go_ret;exact⟨by rw[X.out];rfl,Z.trans ⟨rfl,rfl,rfl,AC _,λ_ _=>rfl⟩⟩
   ·obtain rfl:k=Y:=by omega
    have X:Hid (decide (l=m)=G):=by have h:=A.out;rw[Ap (by rw[s.out];exact AC _),Ap (by rw[v.out];exact AC _)]at h;simp[Hid,h]
    go_wp2;go_ret;exact⟨by rw[X.out];rfl,Z⟩
 ·have X:Hid (decide (l=m)=M):=by
   have:l≠m:=λe=>H (by rw[<-s.out,<-v.out,e]);simp[Hid,this]
  have j:((Y:Int) != (U:Int))=G:=by simp;omega
  go_enter func75,ntmps75;go_wp2;go_ret;exact⟨by rw[X.out];rfl,AH _ _⟩
theorem anw(a b:Option Addr)(Y ca U cb:Nat)(l m:List Int)(w:Wa)(D:Sl1 (Value.int .u8) w a Y l)(hB:Sl1 (Value.int .u8) w b U m)(a1:Y<=4611686018427387904) :Calls ZP 74 #[T a Y ca,T b U cb] w λe w'=>e=ra (i6 (decide (l=m)))/\La w w':=by
 have s:=AA D.1;have v:=AA hB.1
 by_cases H:Y=U
 ·subst H;go_enter func74,ntmps74;go_wp2
  go_loopw[13] (λi wr=>∃k:Nat,k<=Y/\i=R K k/\Hid (l.take k=m.take k)/\La w wr) (λi _=>Y-(intOf i).toNat)
  case atStart=>exact⟨0,AR _,rfl,by simp[Hid],AH _ _⟩
  case round=>
   obtain⟨k,hk,rfl,A,Z⟩:=hrel
   by_cases V:k<Y
   ·obtain⟨b1,o1,x,rfl,a6,x0,I⟩:=DG (D.below Z) V;obtain⟨b2,o2,y,rfl,a2,y0,J⟩:=DG (hB.below Z) V;have B:=AA I;have C:=AA J;clear I J;have hd:decide ((k:Int)<Y)=G:=by simp;omega
    by_cases h:x=y
    ·have X:Hid (l.take (k+1)=m.take (k+1)):=by rw[As B.out,As C.out,A.out,h];rfl
     have N:((x:Int) != y)=M:=by simp[h]
     clear h;go_wp2
     go_quiet (fail)
     go_wp2
     go_roundw
     case rel=>exact⟨k+1,by omega,by go_num,X,Z.trans ⟨rfl,rfl,rfl,AC _,λ_ _=>rfl⟩⟩
     case measure=>simp[intOf];omega
    ·have X:Hid (decide (l=m)=M):=by
      have:l≠m:=λe=>by have h1:=B.out;rw[e,C.out]at h1;exact h (AK h1).symm
      simp[Hid,this]
     have N:((x:Int) != y)=G:=by simp[h]
     clear h;go_wp2
     go_quiet (fail)
     go_wp2;go_ret;exact⟨by rw[X.out];rfl,Z.trans ⟨rfl,rfl,rfl,AC _,λ_ _=>rfl⟩⟩
   ·obtain rfl:k=Y:=by omega
    have X:Hid (decide (l=m)=G):=by have h:=A.out;rw[Ap (by rw[s.out];exact AC _),Ap (by rw[v.out];exact AC _)]at h;simp[Hid,h]
    go_wp2;go_ret;exact⟨by rw[X.out];rfl,Z⟩
 ·have X:Hid (decide (l=m)=M):=by
   have:l≠m:=λe=>H (by rw[<-s.out,<-v.out,e]);simp[Hid,this]
  have j:((Y:Int) != (U:Int))=G:=by simp;omega
  go_enter func74,ntmps74;go_wp2;go_ret;exact⟨by rw[X.out];rfl,AH _ _⟩
theorem aiD(t v:TV)(Ta U:Ay)(w:Wa)(hT:Tri w t Ta)(hU:Tri w v U)(X:t.un<=4611686018427387904/\t.dn<=4611686018427387904/\t.xn<=4611686018427387904/\t.bn<=4611686018427387904) :Calls ZP 278 #[i8 t.cells,i8 v.cells] w λe w'=>e=ra (i6 (eqT Ta U))/\La w w':=by
 obtain⟨ua,un,uc,da,dn,dc,xa,xn,xc,ba,bn,bc⟩:=t;obtain⟨va,j,vc,ea,en,ec,s,B,A,ca,cn,cc⟩:=v;dsimp only at X;obtain⟨h1,h2,h3,h4⟩:=X;have N:La w ((w.alloc (i7 #[T ua un uc,T da dn dc,T xa xn xc,T ba bn bc] 150)).alloc (i7 #[T va j vc,T ea en ec,T s B A,T ca cn cc] 150)):=((AH _ _).alloc (AC _) _).alloc sm _;have hO:Bx w.heap.size [i7 #[T ua un uc,T da dn dc,T xa xn xc,T ba bn bc] 150,i7 #[T va j vc,T ea en ec,T s B A,T ca cn cc] 150] ((w.alloc (i7 #[T ua un uc,T da dn dc,T xa xn xc,T ba bn bc] 150)).alloc (i7 #[T va j vc,T ea en ec,T s B A,T ca cn cc] 150)):=
  ((Bx.nil _ w).snoc _ rfl).snoc _ sm
 have C:=hT.below N;have D:=hU.below N;obtain⟨TU,TD,TX,TB⟩:=Ta;obtain⟨UU,UD,UX,UB⟩:=U;have HE:Hid (eqT ⟨TU,TD,TX,TB⟩ ⟨UU,UD,UX,UB⟩=(decide (TU=UU)&&decide (TD=UD)&&decide (TX=UX)&&decide (TB=UB))):=rfl;have k1:=λ(V:Wa)(Z:Below ((w.alloc (i7 #[T ua un uc,T da dn dc,T xa xn xc,T ba bn bc] 150)).alloc (i7 #[T va j vc,T ea en ec,T s B A,T ca cn cc] 150)).heap.size _ V)=>afE ua va un uc j vc TU UU V (C.up.below Z) (D.up.below Z) h1;have k2:=λ(V:Wa)(Z:Below ((w.alloc (i7 #[T ua un uc,T da dn dc,T xa xn xc,T ba bn bc] 150)).alloc (i7 #[T va j vc,T ea en ec,T s B A,T ca cn cc] 150)).heap.size _ V)=>afE da ea dn dc en ec TD UD V (C.dep.below Z) (D.dep.below Z) h2;have k3:=λ(V:Wa)(Z:Below ((w.alloc (i7 #[T ua un uc,T da dn dc,T xa xn xc,T ba bn bc] 150)).alloc (i7 #[T va j vc,T ea en ec,T s B A,T ca cn cc] 150)).heap.size _ V)=>afE xa s xn xc B A TX UX V (C.wrd.below Z) (D.wrd.below Z) h3;have k4:=λ(V:Wa)(Z:Below ((w.alloc (i7 #[T ua un uc,T da dn dc,T xa xn xc,T ba bn bc] 150)).alloc (i7 #[T va j vc,T ea en ec,T s B A,T ca cn cc] 150)).heap.size _ V)=>anw ba ca bn bc cn cc TB UB V (C.byt.below Z).1 (D.byt.below Z).1 h4
 generalize decide (TU=UU)=b1 at k1 HE
 generalize decide (TD=UD)=b2 at k2 HE
 generalize decide (TX=UX)=b3 at k3 HE
 generalize decide (TB=UB)=b4 at k4 HE
 have K1:=AA k1;have K2:=AA k2;have K3:=AA k3;have K4:=AA k4;clear k1 k2 k3 k4 hT hU C D;obtain⟨W,hW⟩:∃W,W=((w.alloc (i7 #[.slice ua un uc,.slice da dn dc,.slice xa xn xc,.slice ba bn bc] 150)).alloc (i7 #[.slice va j vc,.slice ea en ec,.slice s B A,.slice ca cn cc] 150)):=⟨_,rfl⟩;rw [<-hW] at N hO K1 K2 K3 K4;have cells:∀V,Below W.heap.size W V->(V.cell? ⟨w.heap.size,0,O⟩=E (.slice ua un uc)/\V.cell? ⟨w.heap.size,1,O⟩=E (.slice da dn dc)/\V.cell? ⟨w.heap.size,2,O⟩=E (.slice xa xn xc)/\V.cell? ⟨w.heap.size,3,O⟩=E (.slice ba bn bc))/\
   (V.cell? ⟨w.heap.size+1,0,O⟩=E (T va j vc)/\V.cell? ⟨w.heap.size+1,1,O⟩=E (T ea en ec)/\V.cell? ⟨w.heap.size+1,2,O⟩=E (T s B A)/\V.cell? ⟨w.heap.size+1,3,O⟩=E (T ca cn cc)):=λV Z=>by
  have h:=hO.below Z;exact⟨⟨h.cell (i:=0) rfl rfl,h.cell (i:=0) rfl rfl,h.cell (i:=0) rfl rfl,h.cell (i:=0) rfl rfl⟩,⟨h.cell (i:=1) rfl rfl,h.cell (i:=1) rfl rfl,h.cell (i:=1) rfl rfl,h.cell (i:=1) rfl rfl⟩⟩
 have HC:=AA cells;clear cells hO;have a1:∀(V:Wa)(b:Bool),La W V->b=eqT ⟨TU,TD,TX,TB⟩ ⟨UU,UD,UX,UB⟩->Ending.returned (i6 b)=ra (i6 (eqT ⟨TU,TD,TX,TB⟩ ⟨UU,UD,UX,UB⟩))/\La w V:=λV b Z X=>⟨by rw[X],N.trans (Z.mono N.size)⟩;have Y:=AA a1;clear a1 N;go_enter func278,ntmps278;go_upto_region 1 with fail
 rw[<-hW];clear hW;obtain⟨⟨c0,c1,c2,c3⟩,d0,d1,d2,d3⟩:=HC.out W (AH _ _)
 go_wp2_with fail
 refine(K1.out W (AH _ _)).mono ?_;rintro e w1 ⟨rfl,H⟩;clear c0 c1 c2 c3 d0 d1 d2 d3;obtain⟨⟨c0,c1,c2,c3⟩,d0,d1,d2,d3⟩:=HC.out w1 H
 cases b1 with
 |false=>
  go_wp2;go_ret;exact Y.out w1 M H (by rw[HE.out];rfl)
 |true=>
  go_wp2_with fail
  refine(K2.out w1 H).mono ?_;rintro e w2 ⟨rfl,X⟩;have I:=H.trans (X.mono H.size);clear c0 c1 c2 c3 d0 d1 d2 d3 X;obtain⟨⟨c0,c1,c2,c3⟩,d0,d1,d2,d3⟩:=HC.out w2 I
  cases b2 with
  |false=>
   go_wp2;go_ret;exact Y.out w2 M I (by rw[HE.out];rfl)
  |true=>
   go_wp2_with fail
   refine(K3.out w2 I).mono ?_;rintro e w3 ⟨rfl,X⟩;have J:=I.trans (X.mono I.size);clear c0 c1 c2 c3 d0 d1 d2 d3 X;obtain⟨⟨c0,c1,c2,c3⟩,d0,d1,d2,d3⟩:=HC.out w3 J
   cases b3 with
   |false=>
    go_wp2;go_ret;exact Y.out w3 M J (by rw[HE.out];rfl)
   |true=>
    go_wp2_with fail
    refine(K4.out w3 J).mono ?_;rintro e w4 ⟨rfl,X⟩;have a2:=J.trans (X.mono J.size);clear c0 c1 c2 c3 d0 d1 d2 d3 X;go_wp2;go_ret;exact Y.out w4 b4 a2 (by rw[HE.out];cases b4<;>rfl)
def Jh(W V:Wa):Prop:=W.heap.size<=V.heap.size/\∀(k:Nat)(cs:Array Vk)(t:TypeId)(f:Nat×Nat),W.heap[k]?=E (Obj.cells cs t f)->V.heap[k]?=E (Obj.cells cs t f)
theorem Jh.cell{W V:Wa}(h:Jh W V){a:Addr}{v:Vk}(Z:W.cell? a=E v):V.cell? a=E v:=by
 cases ho:W.heap[a.block]? with
 |none=>simp[cell?,ho]at Z
 |some o=>
  cases o with
  |cells cs t f=>
   rw[<-Z];exact BC ((h.2 _ _ _ _ ho).trans ho.symm)
  |_=>simp[cell?,ho]at Z
theorem Jh.sl1{α:Type}{enc:α->Vk}{W V:Wa}(h:Jh W V){a:Option Addr}{n:Nat}{xs:List α}(Y:Sl1 enc W a n xs):Sl1 enc V a n xs:=⟨Y.1,Y.2.imp id λ⟨b,off,e,Z,U⟩=>⟨b,off,e,Af Z h.1,λi x X=>h.cell (U i x X)⟩⟩
end Go.Proofs.YtaamacoicojhnaaGreat
