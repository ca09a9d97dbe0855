/- Proofs over the given program, part 3. -/
import Derived.Test.YtaamacoicojhnaaGreatZR2
set_option linter.unusedVariables false
set_option linter.unusedSimpArgs false
set_option maxRecDepth 100000
set_option maxHeartbeats 16000000
open Go.Proofs.Tryz
open Go.Proofs.Tryz renaming prog→ZP
open Go.World(cell? frozen?)
open Go.Value(int slice pointer bool)
open Go.IntKind(i64)
namespace Go.Proofs.YtaamacoicojhnaaGreat
open Go.RowKit Go.Sort
def Dq:List Int->List Int->Nat
 |x::xs,y::ys=>if x=y then Dq xs ys+1 else 0
 |_,_=>0
theorem ab1:∀{k:Nat}{xs ys:List Int},k<=xs.length->k<=ys.length->xs.take k=ys.take k->(k=xs.length∨k=ys.length∨∃x y,xs[k]?=some x/\ys[k]?=some y/\x≠y)->Dq xs ys=k
 |0,[],ys,_,_,_,_=>by simp[Dq]
 |0,x::xs,[],_,_,_,_=>by simp[Dq]
 |0,x::xs,y::ys,_,_,_,h=>by
  rcases h with h|h|⟨a,b,ha,Y,Z⟩
  ·simp at h
  ·simp at h
  ·simp at ha Y;subst ha Y;simp[Dq,Z]
 |k+1,[],ys,h,_,_,_=>by simp at h
 |k+1,x::xs,[],_,h,_,_=>by simp at h
 |k+1,x::xs,y::ys,h1,h2,h3,h4=>by simp only[List.take_succ_cons,MY]at h3;have X:=ab1 (k:=k) (xs:=xs) (ys:=ys) (by simpa using h1) (by simpa using h2) h3.2 (by simpa using h4);simp[Dq,h3.1,X]
theorem ail(a b:Option Addr)(X ca V cb:Nat)(xs ys:List Int)(w:World)(hA:Bys w a X xs)(hB:Bys w b V ys)(a6:X<=1000000)(a2:V<=1000000) :Calls ZP 213 #[slice a X ca,slice b V cb] w λe w'=>e=.returned (int i64 (Dq xs ys))/\Bt w w':=by
 have s:=AA hA.len;have z:=AA hB.len;go_enter func213,ntmps213;go_wp2
 go_loopw[5] (λi wr=>∃k:Nat,k<=X/\k<=V/\i=int i64 k/\Hid (xs.take k=ys.take k)/\Bt w wr) (λi _=>X-(intOf i).toNat)
 case atStart=>exact⟨0,AR _,AR _,rfl,by simp[Hid],AH _ _⟩
 case round=>
  obtain⟨k,a8,a7,rfl,HK,U⟩:=hrel;have Z:∀n,Bt w (wr.drewN n):=λn=>U.trans ⟨rfl,rfl,rfl,AC _,λ_ _=>rfl⟩;have Y:(k=X∨k=V∨∃x y,xs[k]?=some x/\ys[k]?=some y/\x≠y)->Hid (Dq xs ys=k):=λh=>ab1 (by have:=s.out;omega) (by have:=z.out;omega) HK (by rw[s.out,z.out];exact h);have j:=AA Y;clear Y
  by_cases h1:k<X
  ·by_cases h2:k<V
   ·obtain⟨x,A⟩:∃x,xs[k]?=some x:=⟨xs[k]'(by rw[s.out];exact h1),by simp⟩;obtain⟨y,B⟩:∃y,ys[k]?=some y:=⟨ys[k]'(by rw[z.out];exact h2),by simp⟩;obtain⟨ba,oa,rfl,ab,I⟩:=(hA.below U).1.2.resolve_left om;obtain⟨bb,ob,rfl,aa,J⟩:=(hB.below U).1.2.resolve_left om;have cx:=I k x A;have cy:=J k y B;have D:=AA A;have H:=AA B;clear A B I J
    by_cases N:x=y
    ·subst N;have a1:Hid (xs.take (k+1)=ys.take (k+1)):=by rw[As D.out,As H.out,HK.out];rfl
     go_wp2
     go_quiet (fail)
     go_wp2
     go_roundw
     case rel=>exact⟨k+1,by omega,by omega,by go_num,a1,Z _⟩
     case measure=>simp[intOf];omega
    ·have C:=j.out (.inr (.inr ⟨x,y,D.out,H.out,N⟩));go_wp2
     go_quiet (fail)
     go_wp2;go_ret;exact⟨by rw[C.out];rfl,Z _⟩
   ·obtain rfl:k=V:=by omega
    have C:=j.out (.inr (.inl rfl));go_wp2
    go_quiet (fail)
    go_wp2;go_ret;exact⟨by rw[C.out];rfl,Z _⟩
  ·obtain rfl:k=X:=by omega
   have C:=j.out (.inl rfl);go_wp2
   go_quiet (fail)
   go_wp2;go_ret;exact⟨by rw[C.out];rfl,Z _⟩
def Dk(fold:Bool)(Z:La)(x:List Int):Int:=Z.foldl (λm y=>max m (Dq (AO fold x) (AO fold y):Int)) 0
def IB(fold:Bool):La->La->Int->Int
 |_,[],n=>n
 |pre,x::rest,n=>IB fold (pre++[x]) rest (n+x.length-Dk fold pre x)
def Cl(fold:Bool)(wss:La):Int:=IB fold [] wss 1
theorem abp(fold:Bool)(Z:La)(x y:List Int):Dk fold (Z++[y]) x=max (Dk fold Z x) (Dq (AO fold x) (AO fold y):Int):=by simp[Dk,FI]
theorem abO(fold:Bool):∀(rest Z:La)(x:List Int)(n:Int),IB fold Z (rest++[x]) n=IB fold Z rest n+x.length-Dk fold (Z++rest) x
 |[],Z,x,n=>by simp[IB]
 |y::rest,Z,x,n=>by rw[CT,IB,IB,abO fold rest (Z++[y]) x];simp
theorem aar(fold:Bool)(l:La)(x:List Int):Cl fold (l++[x])=Cl fold l+x.length-Dk fold l x:=by unfold Cl;rw[abO,Av]
theorem acp:∀(xs ys:List Int),Dq xs ys<=xs.length
 |[],_=>by simp[Dq]
 |_::_,[]=>by simp[Dq]
 |x::xs,y::ys=>by
  have:=acp xs ys;unfold Dq
  split<;>simp<;>omega
theorem afp(fold:Bool)(x:List Int)(Z:La):0<=Dk fold Z x/\Dk fold Z x<=x.length:=by
 obtain⟨n,X⟩:∃n,Z.length=n:=⟨_,rfl⟩
 induction n generalizing Z with
 |zero=>obtain rfl:=Bz X;simp[Dk]
 |succ n ih=>
  obtain⟨Y,y,rfl⟩:∃Y y,Z=Y++[y]:=⟨Z.dropLast,Z.getLast (by intro h;simp[h]at X),(Em _).symm⟩;have h1:=ih Y (by simpa using X);have h2:=acp (AO fold x) (AO fold y);rw[Ew]at h2;rw[abp];omega
theorem ajH{fold:Bool}{M:Nat}(l:La)(h:∀x∈l,x.length<=M):1<=Cl fold l/\Cl fold l<=1+l.length*(M:Int):=by
 obtain⟨n,Y⟩:∃n,l.length=n:=⟨_,rfl⟩
 induction n generalizing l with
 |zero=>obtain rfl:=Bz Y;simp[Cl,IB]
 |succ n ih=>
  obtain⟨Z,x,rfl⟩:∃Z x,l=Z++[x]:=⟨l.dropLast,l.getLast (by intro h;simp[h]at Y),(Em _).symm⟩;have h1:=ih Z (λy X=>h y (by simp[X])) (by simpa using Y);have h2:=afp fold x Z;have V:=h x sm;rw[aar];have e:((Z++[x]).length:Int)*(M:Int)=Z.length*(M:Int)+M:=by rw[List.length_append,Ao,Bw,LK,Jr];simp
  rw[e];omega
theorem amU(fold:Bool)(a:Option Addr)(Z N:Nat)(xs:List Int)(w:World)(U:Bys w a Z xs)(V:Z<=1000000) :Calls ZP 124 #[bool fold,slice a Z N] w λe w'=>∃X c1,e=.returned (slice X Z c1)/\Bys w' X Z (AO fold xs)/\Bt w w':=
 (ags fold a Z N xs w U V).mono λe w' ⟨v,J,Y,I⟩=>by obtain⟨X,c1,rfl,_,h⟩:=KL Y (MD U.2);exact⟨X,c1,J,h,I⟩
theorem ahl(fold:Bool)(a:Option Addr)(D ca:Nat)(wss:La)(w:World)(hA:Wds w a D wss)(av:D<=1000000)(hM:∀x∈wss,x.length<=1000000) :Calls ZP 174 #[bool fold,slice a D ca] w λe w'=>e=.returned (int i64 (Cl fold wss))/\Bt w w':=by
  have HL:=AA hA.len;have HM:=AA hM;have HA:=AA hA;clear hA hM;go_enter func174,ntmps174;go_wp2
  go_loopw[5,6] (λs i wr=>∃(k:Nat)(n:Int),k<=D/\i=int i64 k/\s=int i64 n/\Hid (n=Cl fold (wss.take k))/\Bt w wr) (λ_ i _=>D-(intOf i).toNat)
  case atStart=>exact⟨0,1,AR _,rfl,rfl,by simp[Hid,Cl,IB],AH _ _⟩
  case round=>
    obtain⟨k,n,hk,rfl,rfl,HN,Z⟩:=hrel
    by_cases ag:k<D
    ·
      obtain⟨A,off,a',l,c,x,rfl,ah,V,hx,hX,au⟩:=HA.out.at_ ag;have a7:l<=1000000:=by have:=Ff HM.out hx;rw[hX.len]at this;exact this
      have HX:=AA hx;have B:=AA hX;have J:∀v:World,Bt w v->v.cell? ⟨A,off+k,none⟩=some (slice a' l c):=λv hv=>(hv.cell (p:=⟨A,off+k,none⟩) ah).trans V;have H:=AA J;clear hx hX J V;go_wp2
      go_loopw[7,8] (λo i wr=>∃(j:Nat)(m:Int),j<=k/\i=int i64 j/\o=int i64 m/\Hid (m=Dk fold (wss.take j) x)/\Bt w wr) (λ_ i _=>k-(intOf i).toNat)
      case atStart=>exact⟨0,0,AR _,rfl,rfl,by simp[Hid,Dk],Z⟩
      case round=>
        clear Z;obtain⟨j,m,hj,rfl,rfl,HO,Z⟩:=hrel
        by_cases aw:j<k
        ·
          obtain⟨b2,ao,a2,z,c2,y,e2,a8,X,hy,hY,aq⟩:=HA.out.at_ (show j<D by omega);simp only[DC,Addr.mk.injEq,and_true]at e2;obtain⟨rfl,rfl⟩:=e2;have a6:z<=1000000:=by have:=Ff HM.out hy;rw[hY.len]at this;exact this
          have N:Hid (∀v:World,Bt w v->v.cell? ⟨A,off+j,none⟩=some (slice a2 z c2)):=λv hv=>(hv.cell (p:=⟨A,off+j,none⟩) a8).trans X;have HS:Hid (max m (Dq (AO fold x) (AO fold y):Int)=Dk fold (wss.take (j+1)) x):=by rw[Hid,HO.out,As (show wss[j]?=some y from hy),abp]
          have am:=AA hY;clear X hy hY;have ac:Bys wr.drew a' l x:=B.out.below (Z.trans ⟨rfl,rfl,rfl,AC _,λ_ _=>rfl⟩);have ad:Bt w wr.drew:=Z.trans ⟨rfl,rfl,rfl,AC _,λ_ _=>rfl⟩;have k1:=H.out wr Z;have k2:=N.out wr Z;have i1:(0:Int)<=(j:Int):=by omega
          have i2:(j:Int)<(D:Int):=by omega
          have i3:(0:Int)<=(k:Int):=by omega
          have i4:(k:Int)<(D:Int):=by omega
          go_wp2
          go_region_held3 (λw'=>w'.cell? ⟨A,off+k,none⟩=some (.slice a' l c)/\w'.cell? ⟨A,off+j,none⟩=some (.slice a2 z c2)) (go_keep) (first
            | (go_at_call 124;refine (amU fold a' l c x wr.drew ac a7).mono ?_;rintro e w1 ⟨a1,c1,rfl,al,aj⟩
               have Y:Bt w w1:=ad.trans (aj.mono ad.size);have d1:=H.out w1 Y;have d2:=N.out w1 Y;have ab:=am.out.below Y;clear ac)
            | (go_at_call 124;refine (amU fold a2 z c2 y w1 ab a6).mono ?_;rintro e w2 ⟨a3,c3,rfl,ak,aa⟩
               have U:Bt w w2:=Y.trans (aa.mono Y.size);have d3:=H.out w2 U;have d4:=N.out w2 U;have ae:=al.below aa;clear ab)
            | (go_at_call 213;refine (ail a1 a3 l c1 z c3 _ _ w2 ae ak a7 a6).mono ?_;rintro e w3 ⟨rfl,ai⟩
               have I:Bt w w3:=U.trans (ai.mono U.size);have d5:=H.out w3 I;have d6:=N.out w3 I))
          all_goals
            go_wp2
            go_roundw
            case rel=>exact⟨j+1,_,by omega,by go_num,rfl,HS,I⟩
            case measure=>simp[intOf];omega
        ·
          obtain rfl:j=k:=by omega
          have af:=afp fold x (wss.take j);have C:=ajH (fold:=fold) (M:=1000000) (wss.take j) (λy hy=>HM.out y (EG hy));rw[<-HO.out,B.out.len]at af;rw[<-HN.out,Ag]at C;have ap:n<=1+1000000*1000000:=by omega
          have HS:Hid (n+(l:Int)-m=Cl fold (wss.take (j+1))):=by rw[Hid,As HX.out,aar,B.out.len,<-HN.out,<-HO.out]
          have k1:=H.out wr Z;have ar:=C.1;clear C;go_wp2
          go_roundw
          case rel=>exact⟨j+1,_,by omega,by go_num,rfl,HS,Z⟩
          case measure=>simp[intOf];omega
    ·
      obtain rfl:k=D:=by omega
      have HF:Hid (n=Cl fold wss):=by
        have h:=HN.out
        rwa[Ap (by have:=HL.out;omega)]at h
      go_wp2;go_ret;exact⟨by rw[<-HF.out];rfl,Z⟩
def Fa(s:La×List Int)(p:Bool×Int):La×List Int:=
 let q:=(if p.1 then [] else s.2)++[p.2]
 (if q∈s.1 then s.1 else s.1++[q],q)
def Di(l:List (Bool×Int)):La×List Int:=l.foldl Fa ([[]],[])
theorem aj1(l:List (Bool×Int))(p:Bool×Int):Di (l++[p])=Fa (Di l) p:=by simp[Di,FI]
structure Rep(s:NSt)(ps:La)(p:List Int):Prop where
 many:s.many=ps.length
 nodup:ps.Nodup
 root:ps[0]?=some []
 closed:∀(q:List Int)(c:Int),q++[c]∈ps->q∈ps
 at_:∃n:Nat,s.node=n/\ps[n]?=some p
 down:∀(i c m:Int),s.f (i,c)=some m->∃(a b:Nat)(q:List Int),i=a/\m=b/\ps[a]?=some q/\ps[b]?=some (q++[c])
 up:∀(a b:Nat)(q:List Int)(c:Int),ps[a]?=some q->ps[b]?=some (q++[c])->s.f ((a:Int),c)=some (b:Int)
theorem Ln{Z:La}(h:Z.Nodup){a b:Nat}{q:List Int}(ha:Z[a]?=some q)(Y:Z[b]?=some q):a=b:=by have h1:=(AP.1 ha);have h2:=(AP.1 Y);obtain⟨N,V⟩:=h1;obtain⟨U,X⟩:=h2;exact(List.getElem_inj h).1 (V.trans X.symm)
theorem amv{s:NSt}{Z:La}{p:List Int}(h:Rep s Z p)(x:Bool×Int):Rep (IA s x) (Fa (Z,p) x).1 (Fa (Z,p) x).2:=by
 obtain⟨n0,z,A⟩:=h.at_;obtain⟨n,r,y,H,N⟩:∃(n:Nat)(r:List Int),(if x.1 then 0 else s.node)=(n:Int)/\Z[n]?=some r/\(if x.1 then [] else p)=r:=by
  cases x.1 with
  |true=>exact⟨0,[],rfl,h.root,rfl⟩
  |false=>exact⟨n0,p,z,A,rfl⟩
 have B:Fa (Z,p) x=(if r++[x.2]∈Z then Z else Z++[r++[x.2]],r++[x.2]):=by unfold Fa;simp only[N]
 rw[B]
 by_cases I:r++[x.2]∈Z
 ·obtain⟨b,Y⟩:=DR I;have j:=h.up n b r x.2 H Y;have C:IA s x={s with node:=(b:Int)}:=aas (by rw[y];exact j);rw[C,Lc I];exact⟨h.many,h.nodup,h.root,h.closed,⟨b,rfl,Y⟩,h.down,h.up⟩
 ·have j:s.f ((n:Int),x.2)=none:=by
   cases e:s.f ((n:Int),x.2)with
   |none=>rfl
   |some m=>
    obtain⟨a,b,q,h1,h2,h3,h4⟩:=h.down _ _ _ e;have:n=a:=by omega
    subst this;rw[H]at h3;obtain rfl:=AK h3;exact absurd (AX h4) I
  have C:=abu (s:=s) (p:=x) (by rw[y];exact j);rw[C,Lb I,y];have U:∀{i:Nat}{q:List Int},Z[i]?=some q->(Z++[r++[x.2]])[i]?=some q:=by intro i q J;rw[By (AP.1 J).1,J]
  have X:(Z++[r++[x.2]])[Z.length]?=some (r++[x.2]):=by simp
  refine⟨?_,?_,U h.root,?_,⟨Z.length,h.many,X⟩,?_,?_⟩
  ·simp[h.many]
  ·rw[List.nodup_append];refine⟨h.nodup,by simp,?_⟩;intro a ha b Y;simp at Y;rw[Y];exact λe=>I (e ▸ ha)
  ·intro q c N
   rcases Bf.1 N with N|N
   ·exact List.mem_append_left _ (h.closed q c N)
   ·simp at N;rw[N.1];exact List.mem_append_left _ (AX H)
  ·intro i c m J;dsimp only at J
   by_cases e:(i,c)=((n:Int),x.2)
   ·rw[Lc e]at J;simp only[Jk]at e;obtain⟨rfl,rfl⟩:=e;refine⟨n,Z.length,r,rfl,?_,U H,X⟩;rw[<-AK J,h.many]
   ·rw[Lb e]at J;obtain⟨a,b,q,h1,h2,h3,h4⟩:=h.down i c m J;exact⟨a,b,q,h1,h2,U h3,U h4⟩
  ·intro a b q c ha Y;dsimp only;rw[List.getElem?_append]at ha Y
   by_cases D:b<Z.length
   ·rw[Lc D]at Y
    by_cases V:a<Z.length
    ·rw[Lc V]at ha;rw[Lb]
     ·exact h.up a b q c ha Y
     ·intro e;simp only[Jk]at e;obtain⟨e1,rfl⟩:=e;have:a=n:=by omega
      subst this;rw[H]at ha;obtain rfl:=AK ha;exact I (AX Y)
    ·exfalso
     rw[Lb V]at ha;have h0:a-Z.length=0:=by have:=(AP.1 ha).1;simp at this;omega
     rw[h0]at ha;simp at ha;subst ha;exact I (h.closed _ _ (AX Y))
   ·rw[Lb D]at Y;have h0:b-Z.length=0:=by have:=(AP.1 Y).1;simp at this;omega
    rw[h0]at Y;simp at Y;obtain⟨h1,h2⟩:=Y;subst h1 h2
    by_cases V:a<Z.length
    ·rw[Lc V]at ha;have:=Ln h.nodup ha H;subst this;rw[Lc rfl,h.many,show b=Z.length by omega]
    ·exfalso
     rw[Lb V]at ha;have h0:a-Z.length=0:=by have:=(AP.1 ha).1;simp at this;omega
     rw[h0]at ha;simp at ha
theorem ajx(l:List (Bool×Int)):Rep (Ae l) (Di l).1 (Di l).2:=by
 obtain⟨n,Y⟩:∃n,l.length=n:=⟨_,rfl⟩
 induction n generalizing l with
 |zero=>
  obtain rfl:=Bz Y;refine⟨rfl,by simp[Di],rfl,?_,⟨0,rfl,rfl⟩,λi c m h=>by simp[Ae]at h,?_⟩
  ·intro q c h;simp[Di]at h
  ·intro a b q c ha X;have:=AX X;simp[Di]at this
 |succ n ih=>
  obtain⟨Z,x,rfl⟩:∃Z x,l=Z++[x]:=⟨l.dropLast,l.getLast (by intro h;simp[h]at Y),(Em _).symm⟩;rw[NV,aj1];exact amv (ih Z (by simpa using Y)) x
def OC(fold:Bool)(wss:La)(q:List Int):Prop:=q=[]∨∃w∈wss,q <+: AO fold w
theorem aa6:∀{j:Nat}{ys zs:List Int},j<=ys.length->(ys.take j <+: zs↔j<=Dq ys zs)
 |0,ys,zs,_=>by simp
 |j+1,[],zs,h=>by simp at h
 |j+1,y::ys,[],h=>by simp[Dq]
 |j+1,y::ys,z::zs,h=>by
  have Z:=aa6 (j:=j) (ys:=ys) (zs:=zs) (by simpa using h);rw[List.take_succ_cons,List.cons_prefix_cons];unfold Dq
  by_cases e:y=z
  ·simp[e,Z]
  ·simp[e]
theorem ana(fold:Bool)(x:List Int){j:Nat}(N:1<=j)(Z:La):(j:Int)<=Dk fold Z x↔∃w∈Z,j<=Dq (AO fold x) (AO fold w):=by
 obtain⟨n,V⟩:∃n,Z.length=n:=⟨_,rfl⟩
 induction n generalizing Z with
 |zero=>obtain rfl:=Bz V;simp[Dk];omega
 |succ n ih=>
  obtain⟨X,y,rfl⟩:∃X y,Z=X++[y]:=⟨Z.dropLast,Z.getLast (by intro h;simp[h]at V),(Em _).symm⟩;have h1:=ih X (by simpa using V);rw[abp]
  constructor
  ·intro h
   by_cases h2:(j:Int)<=Dk fold X x
   ·obtain⟨w,Y,U⟩:=h1.1 h2;exact⟨w,by simp[Y],U⟩
   ·exact⟨y,by simp,by omega⟩
  ·rintro⟨w,Y,U⟩
   rcases Bf.1 Y with Y|Y
   ·have:=h1.2 ⟨w,Y,U⟩;omega
   ·simp at Y;subst Y;omega
theorem akd(s:La×List Int)(p:Bool×Int):Fa s p=(if((if p.1=true then [] else s.2)++[p.2])∈s.1 then s.1 else s.1++[(if p.1=true then [] else s.2)++[p.2]],(if p.1=true then [] else s.2)++[p.2]):=rfl
theorem agU(ys:List Int)(Y:Nat)(V:La)(p:List Int)(X:∀j,1<=j->j<=ys.length->(ys.take j∈V↔j<=Y)) :∀i,i<=ys.length->∃Z,(((Dt ys).take i).foldl Fa (V,p)).1=Z/\Z.length=V.length+(i-min i Y)/\(1<=i->(((Dt ys).take i).foldl Fa (V,p)).2=ys.take i)/\
   ∀q,q∈Z↔q∈V∨∃j,1<=j/\j<=i/\q=ys.take j
 |0,_=>⟨V,by simp,by simp,by simp,λq=>by simp;intro j h1 h2;omega⟩
 |i+1,hi=>by
  obtain⟨Z,h1,h2,h3,h4⟩:=agU ys Y V p X i om;obtain⟨c,D⟩:∃c,ys[i]?=some c:=⟨ys[i]'om,by simp⟩;have B:=aja D;rw[As B,FI,List.foldl_cons,List.foldl_nil];have C:(if((i:Int)==0)=true then [] else(((Dt ys).take i).foldl Fa (V,p)).2)++[c]=ys.take (i+1):=by
   rw[As D]
   by_cases h0:i=0
   ·subst h0;simp
   ·have I:((i:Int)==0)=false:=by simp;omega
    rw[I,h3 om];simp
  have N:Fa (((Dt ys).take i).foldl Fa (V,p)) (((i:Int)==0),c)=(if ys.take (i+1)∈Z then Z else Z++[ys.take (i+1)],ys.take (i+1)):=by rw[akd];dsimp only;rw[C,h1]
  rw[N];have U:ys.take (i+1)∈Z↔i+1<=Y:=by
   rw[h4,X (i+1) om hi]
   constructor
   ·rintro(h|⟨j,hj1,hj2,e⟩)
    ·exact h
    ·have:=congrArg List.length e;simp at this;omega
   ·exact λh=>.inl h
  by_cases J:ys.take (i+1)∈Z
  ·have ho:=U.1 J;refine⟨Z,by simp[J],by rw[h2];omega,λ_=>rfl,λq=>?_⟩;rw[h4]
   constructor
   ·rintro(h|⟨j,hj1,hj2,e⟩)
    ·exact .inl h
    ·exact .inr ⟨j,hj1,by omega,e⟩
   ·rintro(h|⟨j,hj1,hj2,e⟩)
    ·exact .inl h
    ·by_cases H:j=i+1
     ·subst H;rw[e];exact .inl ((X _ hj1 hi).2 ho)
     ·exact .inr ⟨j,hj1,by omega,e⟩
  ·have ho:¬i+1<=Y:=λh=>J (U.2 h);refine⟨Z++[ys.take (i+1)],by simp[J],by rw[List.length_append,h2];simp;omega,λ_=>rfl,λq=>?_⟩;rw[Bf,h4]
   constructor
   ·rintro((h|⟨j,hj1,hj2,e⟩)|h)
    ·exact .inl h
    ·exact .inr ⟨j,hj1,by omega,e⟩
    ·exact .inr ⟨i+1,by omega,by omega,by simpa using h⟩
   ·rintro(h|⟨j,hj1,hj2,e⟩)
    ·exact .inl (.inl h)
    ·by_cases H:j=i+1
     ·subst H;exact .inr (by simp[e])
     ·exact .inl (.inr ⟨j,hj1,by omega,e⟩)
theorem count_eq(fold:Bool)(wss:La):((Di (Ad fold wss)).1.length:Int)=Cl fold wss/\∀q,q∈(Di (Ad fold wss)).1↔OC fold wss q:=by
 obtain⟨n,J⟩:∃n,wss.length=n:=⟨_,rfl⟩
 induction n generalizing wss with
 |zero=>
  obtain rfl:=Bz J;refine⟨rfl,λq=>?_⟩;simp[Ad,Di,OC]
 |succ n ih=>
  obtain⟨Z,x,rfl⟩:∃Z x,wss=Z++[x]:=⟨wss.dropLast,wss.getLast (by intro h;simp[h]at J),(Em _).symm⟩;obtain⟨h1,h2⟩:=ih Z (by simpa using J);have I:=afp fold x Z;have U:∀j,1<=j->j<=(AO fold x).length->((AO fold x).take j∈(Di (Ad fold Z)).1↔j<=(Dk fold Z x).toNat):=by
   intro j N X;rw[h2];have B:j<=(Dk fold Z x).toNat↔(j:Int)<=Dk fold Z x:=by omega
   rw[B,ana fold x N]
   constructor
   ·rintro(h|⟨w,Y,h⟩)
    ·have:=congrArg List.length h;rw[Ag,Bw]at this;omega
    ·exact⟨w,Y,(aa6 X).1 h⟩
   ·rintro⟨w,Y,h⟩;exact .inr ⟨w,Y,(aa6 X).2 h⟩
  obtain⟨A,C,D,z,H⟩:=agU (AO fold x) (Dk fold Z x).toNat (Di (Ad fold Z)).1 (Di (Ad fold Z)).2 U (AO fold x).length (AC _);have V:Di (Ad fold (Z++[x]))=((Dt (AO fold x)).take (AO fold x).length).foldl Fa ((Di (Ad fold Z)).1,(Di (Ad fold Z)).2):=by rw[abQ,Ap (by rw[Ks];exact AC _)];unfold Di;rw[FI]
  rw[V,C];refine⟨?_,λq=>?_⟩
  ·rw[aar,D,Ew,<-h1];omega
  ·rw[H,h2];unfold OC
   constructor
   ·rintro((h|⟨w,Y,h⟩)|⟨j,N,X,rfl⟩)
    ·exact .inl h
    ·exact .inr ⟨w,by simp[Y],h⟩
    ·exact .inr ⟨x,by simp,List.take_prefix _ _⟩
   ·rintro(h|⟨w,Y,h⟩)
    ·exact .inl (.inl h)
    ·rcases Bf.1 Y with Y|Y
     ·exact .inl (.inr ⟨w,Y,h⟩)
     ·simp at Y;subst Y
      by_cases h0:q=[]
      ·exact .inl (.inl h0)
      ·refine .inr ⟨q.length,?_,h.length_le,List.prefix_iff_eq_take.1 h⟩;exact apG.2 h0
theorem amE(fold:Bool)(wss:La):(Ae (Ad fold wss)).many=Cl fold wss:=by rw[(ajx (Ad fold wss)).many,(count_eq fold wss).1]
def Ds(wss:La):Int:=(wss.map λw=>(w.length:Int)).sum
theorem aeX(l:La)(x:List Int):Ds (l++[x])=Ds l+x.length:=by simp[Ds]
theorem akB:∀(l:La),(∀x∈l,x.length<=1000000)->0<=Ds l/\Ds l<=l.length*1000000
 |[],_=>by simp[Ds]
 |x::l,h=>by have h1:=akB l (λy Z=>h y (by simp[Z]));have h2:=h x sm;simp only[Ds,BO,List.sum_cons,Ao]at h1⊢;omega
def DL(fold:Bool)(wss:La):Int:=
 if wss.length=0 then 50 else if wss.length > 64 then 51 else if(∃x∈wss,x.length=0) then 52 else if(∃x∈wss,x.length > 32) then 53 else if Ds wss > 600 then 54 else if Cl fold wss > 400 then 55 else 0
theorem acJ(fold:Bool)(a:Option Addr)(J ca:Nat)(wss:La)(w:World)(hA:Wds w a J wss)(ab:J<=1000000)(hM:∀x∈wss,x.length<=1000000) :Calls ZP 122 #[bool fold,slice a J ca] w λe w'=>e=.returned (int i64 (DL fold wss))/\Bt w w':=by
 have B:=AA hA.len;have HM:=AA hM;obtain⟨G,hG⟩:∃G,DL fold wss=G:=⟨_,rfl⟩;have HG:Hid (DL fold wss=G):=hG;rw[hG];clear hG hM
 by_cases h0:J=0
 ·have U:Hid (G=50):=by rw[Hid,<-HG.out,DL,Lc (by rw[B.out,h0])]
  go_enter func122,ntmps122;go_wp2;go_ret;exact⟨by rw[U.out];rfl,AH _ _⟩
 ·by_cases a6:64<J
  ·have U:Hid (G=51):=by rw[Hid,<-HG.out,DL,Lb (by rw[B.out];exact h0),Lc (by rw[B.out];exact a6)]
   go_enter func122,ntmps122;go_wp2;go_ret;exact⟨by rw[U.out];rfl,AH _ _⟩
  ·have a1:Hid (G=if(∃x∈wss,x.length=0) then 52 else if(∃x∈wss,x.length > 32) then 53 else if Ds wss > 600 then 54 else if Cl fold wss > 400 then 55 else 0):=by
    rw[Hid,<-HG.out,DL,Lb (by rw[B.out];exact h0),Lb (by rw[B.out];exact a6)]
   go_enter func122,ntmps122;go_wp2
   go_loop[6] (λi=>∃k:Nat,k<=J/\i=int i64 k/\Hid (∀x∈wss.take k,x.length≠0)) (λi=>J-(intOf i).toNat)
   case atStart=>exact⟨0,AR _,rfl,λx X=>by simp at X⟩
   case round=>
    obtain⟨k,hk,rfl,HK⟩:=hrel
    by_cases a8:k<J
    ·obtain⟨bb,off,a',l,c,x,rfl,ad,D,X,hX,aa⟩:=hA.at_ a8;have HX:=AA X;have V:=AA hX.len;clear X hX
     by_cases a2:l=0
     ·have U:Hid (G=52):=by rw[Hid,a1.out,Lc ⟨x,AX HX.out,by rw[V.out,a2]⟩]
      go_wp2;go_ret;exact⟨by rw[U.out];rfl,AH _ _⟩
     ·have ae:Hid (∀x∈wss.take (k+1),x.length≠0):=by
       rw[As HX.out];intro y Z
       rcases Bf.1 Z with Z|Z
       ·exact HK.out y Z
       ·simp at Z;rw[Z,V.out];exact a2
      go_wp2
      go_round
      case rel=>exact⟨k+1,by omega,by go_num,ae⟩
      case measure=>simp[intOf];omega
    ·obtain rfl:k=J:=by omega
     have af:Hid (∀x∈wss,x.length≠0):=by
      have h:=HK.out
      rwa[Ap (by rw[B.out];exact AC _)]at h
     have z:Hid (G=if(∃x∈wss,x.length > 32) then 53 else if Ds wss > 600 then 54 else if Cl fold wss > 400 then 55 else 0):=by rw[Hid,a1.out,Lb (by rintro⟨x,X,h⟩;exact af.out x X h)]
     clear a1 HK;go_wp2
     go_loop[5,7] (λs i=>∃(j:Nat)(n:Int),j<=k/\i=int i64 j/\s=int i64 n/\Hid (n=Ds (wss.take j))/\Hid (∀x∈wss.take j,¬x.length > 32)) (λ_ i=>k-(intOf i).toNat)
     case atStart=>exact⟨0,0,AR _,rfl,rfl,by simp[Hid,Ds],λx X=>by simp at X⟩
     case round=>
      obtain⟨j,n,hj,rfl,rfl,C,HJ⟩:=hrel;have H:=akB (wss.take j) (λy Z=>HM.out y (EG Z));rw[<-C.out]at H;have a7:((wss.take j).length:Int)<=64:=by have:=MU j wss;omega
      have aj:=H.1;have ai:n<=64000000:=by omega
      clear H a7
      by_cases ac:j<k
      ·obtain⟨bb,off,a',l,c,x,rfl,ad,D,X,hX,aa⟩:=hA.at_ ac;have ah:l<=1000000:=by have:=Ff HM.out X;rw[hX.len]at this;exact this
       have HX:=AA X;have V:=AA hX.len;clear X hX
       by_cases I:32<l
       ·have U:Hid (G=53):=by rw[Hid,z.out,Lc ⟨x,AX HX.out,by rw[V.out];exact I⟩]
        go_wp2;go_ret;exact⟨by rw[U.out];rfl,AH _ _⟩
       ·have ag:Hid (∀x∈wss.take (j+1),¬x.length > 32):=by
         rw[As HX.out];intro y Z
         rcases Bf.1 Z with Z|Z
         ·exact HJ.out y Z
         ·simp at Z;rw[Z,V.out];exact I
        have HS:Hid (n+(l:Int)=Ds (wss.take (j+1))):=by rw[Hid,As HX.out,aeX,V.out,C.out]
        go_wp2
        go_round
        case rel=>exact⟨j+1,_,by omega,by go_num,rfl,HS,ag⟩
        case measure=>simp[intOf];omega
      ·obtain rfl:j=k:=by omega
       have Y:wss.take j=wss:=Ap (by rw[B.out];exact AC _);have A:Hid (G=if n > 600 then 54 else if Cl fold wss > 400 then 55 else 0):=by have h2:=C.out;rw[Y]at h2;rw[Hid,z.out,Lb (by rintro⟨x,X,h⟩;exact HJ.out x (by rw[Y];exact X) h),h2]
       clear Y z C HJ
       by_cases h6:600<n
       ·have U:Hid (G=54):=by rw[Hid,A.out,Lc h6]
        go_wp2;go_ret;exact⟨by rw[U.out];rfl,AH _ _⟩
       ·go_wp2_with fail
        refine(ahl fold a j ca wss w hA ab HM.out).mono ?_;rintro e w1 ⟨rfl,hb⟩;obtain⟨N,hN⟩:∃N,Cl fold wss=N:=⟨_,rfl⟩;rw[hN];have C:Hid (Cl fold wss=N):=hN;clear hN
        by_cases h4:400<N
        ·have U:Hid (G=55):=by rw[Hid,A.out,Lb om,C.out,Lc h4]
         go_wp2;go_ret;exact⟨by rw[U.out];rfl,hb⟩
        ·have U:Hid (G=0):=by rw[Hid,A.out,Lb om,C.out,Lb om]
         go_wp2;go_ret;exact⟨by rw[U.out];rfl,hb⟩
theorem ahh(f g:Bool)(a b:Option Addr)(Y D I H:Nat)(wss Z:La)(w:World)(hA:Wds w a Y wss)(hB:Wds w b I Z)(ai:Y<=1000000) :Calls ZP 80 #[.agg (AM f a Y D),.agg (AM g b I H)] w λe w'=>e=.returned (bool (DH f g wss Z))/\Bt w w':=by
 obtain⟨W,hW⟩:∃W,W=(w.alloc (.cells (AM f a Y D) 24)).alloc (.cells (AM g b I H) 24):=⟨_,rfl⟩;have V:Bt w ((w.alloc (.cells (AM f a Y D) 24)).alloc (.cells (AM g b I H) 24)):=((AH _ _).alloc (AC _) _).alloc sm _;have HA:=AA hA.len;have HB:=AA hB.len
 by_cases J:f=g
 ·subst J
  by_cases hl:Y=I
  ·subst hl;have a8:W.heap[w.heap.size]?=some (.cells (AM f a Y D) 24 (0,0)):=by
    rw[hW];exact(Bg _ _ _ sm).trans (AT _ _)
   have a7:W.heap[w.heap.size+1]?=some (.cells (AM f b Y H) 24 (0,0)):=by
    rw[hW];have:=AT (w.alloc (.cells (AM f a Y D) 24)) (.cells (AM f b Y H) 24)
    rwa[DN]at this
   have ac:Wds W a Y wss:=by rw[hW];exact hA.below V
   have ab:Wds W b Y Z:=by rw[hW];exact hB.below V
   have z:Bt w W:=by rw[hW];exact V
   have hz:W.heap.size=w.heap.size+2:=by rw[hW];simp
   have ad:=AA hW;clear hA hB hW;go_enter func80,ntmps80;go_wp2;rw[<-ad.out]
   go_loopw[5] (λi wr=>∃k:Nat,k<=Y/\i=int i64 k/\Hid (wss.take k=Z.take k)/\Bt W wr) (λi _=>Y-(intOf i).toNat)
   case atStart=>exact⟨0,AR _,rfl,by simp[Hid],AH _ _⟩
   case round=>
    obtain⟨k,hk,rfl,HK,X⟩:=hrel;have hw:Bt w wr:=z.trans (X.mono z.size);have h1:wr.heap[w.heap.size]?=_:=(X.block _ om).trans a8;have h2:wr.heap[w.heap.size+1]?=_:=(X.block _ om).trans a7;have c1:wr.cell? ⟨w.heap.size,1,none⟩=some (slice a Y D):=by simp[cell?,h1]
    have c2:wr.cell? ⟨w.heap.size+1,1,none⟩=some (slice b Y H):=by simp[cell?,h2]
    have aa:∀n,Bt W (wr.drewN n):=λn=>X.trans ⟨rfl,rfl,rfl,AC _,λ_ _=>rfl⟩;have j:∀n,Bt w (wr.drewN n):=λn=>hw.trans ⟨rfl,rfl,rfl,AC _,λ_ _=>rfl⟩
    by_cases C:k<Y
    ·obtain⟨bb,off,a',l,c,x,rfl,aj,a6,hx,hX,ah⟩:=(ac.below X).at_ C;obtain⟨ak,ae,a2,l2,c2,y,rfl,ag,s,hy,hY,af⟩:=(ab.below X).at_ C;have hd:∀n,Bt wr (wr.drewN n):=λn=>⟨rfl,rfl,rfl,AC _,λ_ _=>rfl⟩;have A:∀n,Bys (wr.drewN n) a' l x:=λn=>hX.below (hd n);have B:∀n,Bys (wr.drewN n) a2 l2 y:=λn=>hY.below (hd n);have v1:∀n cap,Sem.run ZP (convert 32 9 (slice a' l cap)) (wr.drewN n)=.ok (.string (strOfNums x)) (wr.drewN n):=λn cap=>Gh (A n) cap;have v2:∀n cap,Sem.run ZP (convert 32 9 (slice a2 l2 cap)) (wr.drewN n)=.ok (.string (strOfNums y)) (wr.drewN n):=λn cap=>Gh (B n) cap;have N:=Ms hX.2 hY.2;have HX:=AA hx;have HY:=AA hy;clear hx hy hX hY A B hd
     by_cases h:x=y
     ·rw[Lz h]at N;have U:Hid (wss.take (k+1)=Z.take (k+1)):=by rw[As HX.out,As HY.out,HK.out,h];rfl
      clear h;go_wp2
      go_quiet (fail)
      go_wp2
      go_roundw
      case rel=>exact⟨k+1,by omega,by go_num,U,aa _⟩
      case measure=>simp[intOf];omega
     ·rw[decide_eq_false h]at N;have U:Hid (DH f f wss Z=false):=by
       have:wss≠Z:=λe=>by have h1:=HX.out;rw[e,HY.out]at h1;exact h (AK h1).symm
       simp[Hid,DH,this]
      clear h;go_wp2
      go_quiet (fail)
      go_wp2;go_ret;exact⟨by rw[U.out];rfl,j _⟩
    ·obtain rfl:k=Y:=by omega
     have U:Hid (DH f f wss Z=true):=by have h:=HK.out;rw[Ap (by rw[HA.out];exact AC _),Ap (by rw[HB.out];exact AC _)]at h;simp[Hid,DH,h]
     go_wp2;go_ret;exact⟨by rw[U.out];rfl,hw⟩
  ·have U:Hid (DH f f wss Z=false):=Mz (.inr (by rw[HA.out,HB.out];exact hl));have a1:((Y:Int) != (I:Int))=true:=by simp;omega
   clear hW;go_enter func80,ntmps80;go_wp2
   all_goals
    go_ret;exact⟨by rw[U.out];rfl,V⟩
 ·have U:Hid (DH f g wss Z=false):=Mz (.inl J);have a1:(f != g)=true:=by simp[J]
  clear hW;go_enter func80,ntmps80;go_wp2
  all_goals
   go_ret;exact⟨by rw[U.out];rfl,V⟩
theorem akZ(fold:Bool)(a:Option Addr)(X D:Nat)(wss:La)(w:World)(A:Wds w a X wss)(N:X<=1000000)(B:∀x∈wss,x.length<=1000000)(C:DL fold wss≠0) :Calls ZP 79 #[bool fold,slice a X D] w λe w'=>e=.returned (.tuple #[.agg (AM false none 0 0),int i64 (DL fold wss)])/\Bt w w':=by
 have I:=A.below ((AH _ _).alloc (AC _) (.cells (AM false none 0 0) 24));obtain⟨n,U⟩:∃n,DL fold wss=n:=⟨_,rfl⟩;have z:Hid (DL fold wss=n):=U;rw[U]at C⊢;clear U;go_enter func79,ntmps79
 go_wp2_with fail
 refine(acJ fold a X D wss _ I N B).mono ?_;rintro e Z ⟨rfl,H⟩;rw[z.out];have Y:Z.heap[w.heap.size]?=some (.cells (AM false none 0 0) 24 (0,0)):=(H.block _ sm).trans (AT _ _);have J:Bt w Z:=((AH _ _).alloc (AC _) _).trans (H.mono sm);have z0:Z.cell? ⟨w.heap.size,0,none⟩=some (bool false):=by simp[cell?,Y]
 have y:Z.cell? ⟨w.heap.size,1,none⟩=some (slice none 0 0):=by simp[cell?,Y]
 have j:Z.frozen? ⟨w.heap.size,0,none⟩=false:=by simp[frozen?,Y]
 have s:Z.frozen? ⟨w.heap.size,1,none⟩=false:=by simp[frozen?,Y]
 go_wp2;have V:=AJ (i:=1) (AJ (i:=0) Y (bool false)) (slice none 0 0);refine Vf (NH rfl rfl (by simpa using V)) rfl ?_;exact⟨rfl,(J.setCell (AC _) _).setCell (AC _) _⟩
theorem aoo(fold:Bool)(a:Option Addr)(Y N:Nat)(xs:List Int)(w:World)(U:Bys w a Y xs)(V:Y<=1000000) :Calls ZP 124 #[bool fold,slice a Y N] w λe w'=>∃X c1,e=.returned (slice X Y c1)/\Ch w' w.heap.size (slice X Y c1) Y (AO fold xs)/\Bt w w':=
 (ags fold a Y N xs w U V).mono λe w' ⟨v,J,Z,I⟩=>by obtain⟨X,c1,rfl,_,h⟩:=KL Z (MD U.2);exact⟨X,c1,J,Z,I⟩
theorem aiA(fold:Bool)(a:Option Addr)(la ca:Nat)(wss:La)(w:World)(hA:Wds w a la wss)(am:la<=1000000)(hM:∀x∈wss,x.length<=1000000)(hc:DL fold wss=0) :Calls ZP 79 #[bool fold,slice a la ca] w λe w'=>∃v,e=.returned (.tuple #[.agg #[bool fold,v],int i64 0])/\BI w' w.heap.size v (AZ fold wss)/\Bt w w':=by
  have aD:=hA.below ((AH _ _).alloc (AC _) (.cells (AM false none 0 0) 24));have HN:Hid (DL fold wss=0):=hc;have HL:=AA hA.len;clear hc;go_enter func79,ntmps79
  go_wp2_with fail
  refine(acJ fold a la ca wss _ aD am hM).mono ?_;rintro e Z ⟨rfl,hb⟩;rw[HN.out];have hz:Z.heap[w.heap.size]?=some (.cells (AM false none 0 0) 24 (0,0)):=(hb.block _ sm).trans (AT _ _);have aC:Bt w Z:=((AH _ _).alloc (AC _) _).trans (hb.mono sm);have ag:w.heap.size<Z.heap.size:=(AD.1 hz).1;go_wp2
  go_loopw[8] (λi wr=>∃(k:Nat)(v:Value),k<=la/\i=int i64 k/\Bt w wr/\wr.heap[w.heap.size]?=some (.cells (AM false none 0 0) 24 (0,0))/\wr.heap[Z.heap.size]?=some (.cells #[bool fold,v] 24 (0,0))/\BI wr w.heap.size v (AZ fold (wss.take k))) (λi _=>la-(intOf i).toNat)
  case atStart=>exact⟨0,slice none 0 0,AR _,rfl,aC.alloc om _,(Bg _ _ _ ag).trans hz,AT _ _,by simpa[AZ]using BI.nil _ _⟩
  case round=>
    obtain⟨k,v,hk,rfl,a6,Y,N,U⟩:=hrel
    by_cases al:k<la
    ·
      obtain⟨bb,off,a',l,c,x,rfl,ax,J,hx,hX,aJ⟩:=(hA.below a6).at_ al;have ae:l<=1000000:=by have:=Ff hM hx;rw[hX.len]at this;exact this
      obtain⟨H,I,rfl,aw,hW⟩:=U.wds;have s0:wr.cell? ⟨Z.heap.size,0,none⟩=some (bool fold):=by simp[cell?,N]
      have s1:wr.cell? ⟨Z.heap.size,1,none⟩=some (slice H (AZ fold (wss.take k)).length I):=by simp[cell?,N]
      have af:(AZ fold (wss.take k)).length<=1000000:=by have:=Nb fold (wss.take k);have:=MU k wss;omega
      have HX:=AA hx;clear hx;have kc:=Vc J;have ks:=Vc s1;have cW:∀d os,Calls ZP 123 #[bool fold,slice a' l c,slice H (AZ fold (wss.take k)).length I] (grow (redrawn wr d) os) λe w''=>e=.returned (int i64 (BV fold x (AZ fold (wss.take k))))/\∃p:Regrown,w''=grow (redrawn wr p.d) p.os:=
        λd os=>Calls.regrown_of (ahF fold a' H l c _ I x (AZ fold (wss.take k)) _ (hX.below (Kf wr d os)) ae (hW.below (Kf wr d os)) af (aei _ (λy hy=>hM y (EG hy))))
      go_wp2;refine wp_region_quiet_below mixed kr ?_
      repeat (go_big_quiet_step (exact cW _ _))
      refine wpQuiet_nil ?_;rintro _ ⟨⟨dq,ad⟩,rfl⟩;obtain⟨X,a8⟩:∃X,grow (redrawn wr dq) ad=X:=⟨_,rfl⟩;rw[a8];have B:Bt wr X:=a8 ▸ Kf wr dq ad;clear a8 kc ks cW;have a7:Bt w X:=a6.trans (B.mono a6.size);have A:X.heap[w.heap.size]?=_:=(B.block _ (AD.1 Y).1).trans Y;have z:X.heap[Z.heap.size]?=_:=(B.block _ (AD.1 N).1).trans N;have s:=U.below B;have aG:X.cell? ⟨bb,off+k,none⟩=some (slice a' l c):=(B.cell (p:=⟨bb,off+k,none⟩) ax).trans J;clear U hW N Y s0 s1 J;have HM:Hid (AZ fold (wss.take (k+1))=GK fold (AZ fold (wss.take k)) x):=by rw[As HX.out,Ka];rfl
      obtain⟨q,hq⟩:∃q,BV fold x (AZ fold (wss.take k))=q:=⟨_,rfl⟩;have HQ:Hid (BV fold x (AZ fold (wss.take k))=q):=hq;rw[hq];clear hq
      by_cases aI:0<=q
      ·
        have HF:Hid (AZ fold (wss.take (k+1))=AZ fold (wss.take k)):=by
          rw[HM.out];unfold GK;rw[HQ.out,Lb om]
          rfl
        go_wp2
        go_roundw
        case rel=>exact⟨k+1,_,by omega,by go_num,a7,A,z,by rw[HF.out];exact s⟩
        case measure=>simp[intOf];omega
      ·
        have HF:Hid (AZ fold (wss.take (k+1))=AZ fold (wss.take k)++[AO fold x]):=by
          rw[HM.out];unfold GK;rw[HQ.out,Lc om]
          rfl
        obtain⟨i0,hi,ar,aq,ap⟩:=Ve OT;have s1:X.cell? ⟨Z.heap.size,1,none⟩=some (slice H (AZ fold (wss.take k)).length I):=by simp[cell?,z]
        obtain⟨es,e1,e2,e3⟩:=s;have aA:∀n,Bys (X.drewN n) a' l x:=λn=>(hX.below B).below ⟨rfl,rfl,rfl,AC _,λ_ _=>rfl⟩;have hd:∀n,Bt X (X.drewN n):=λn=>⟨rfl,rfl,rfl,AC _,λ_ _=>rfl⟩;obtain⟨m,hm⟩:∃m,(AZ fold (wss.take k)).length=m:=⟨_,rfl⟩;rw[hm]at s1 z e1 e2 af⊢;have ac:=AA hm;clear hm;go_wp2;have az:Bys X.drew a' l x:=aA 1;have au:Bt X X.drew:=hd 1
        go_region_law (first
          | (go_simp;go_at_call 124;refine (aoo fold a' l c x X.drew az ae).mono ?_;rintro e w3 ⟨a3,c3,rfl,aa,ay⟩
             have h:Bt X w3:=au.trans ay;have a1:=DJ e1 h;have C:w3.heap[Z.heap.size]?=some (.cells #[bool fold,slice H m I] 24 (0,0)):=(h.block _ (AD.1 z).1).trans z;have ah:w3.cell? ⟨Z.heap.size,1,none⟩=some (slice H m I):=by simp[cell?,C]
             have ao:Z.heap.size<w3.heap.size:=(AD.1 C).1;have aF:Z.heap.size≠w3.heap.size:=by omega
             have aE:w3.heap.size≠Z.heap.size:=by omega
             have aH:(w3.alloc (.cells #[slice a3 l c3] 32)).cell? ⟨Z.heap.size,1,none⟩=some (slice H m I):=by rw[OH _ _ _ ao];exact ah
             have ak:=Gz a1 C (Lj kr);have D:Bt w w3:=a7.trans (h.mono a7.size);dsimp only)
          | (refine step_append_lies _ (by rfl) _ _ 22 (by rfl) w.heap.size 32 i0 (.slice none 0 0) 1 24 underlying22 hi ar aq ap rfl (by decide) (.slice H m I) m es (by rfl) (a1.alloc _) ⟨w3.heap.size,0,none⟩ 1 1 [.slice a3 l c3] (by rfl) rfl (cell_one_new _ _ _) (by simp [Value.oneCell']) (by decide) (by unfold maxLen;omega) om (by have:=D.size;simp;omega) _ rfl ?_
             intro g5 c5 w5 ab V aL aK;have a2:w5.heap[Z.heap.size]?=some (.cells #[bool fold,slice H m I] 24 (0,0)):=(V.block _ (by simp;have:=(AD.1 C).1;omega) (Ne.symm ak)).trans ((Bg _ _ _ (AD.1 C).1).trans C);have q0:w5.cell? ⟨Z.heap.size,1,none⟩=some (slice H m I):=by simp[cell?,a2]
             have q1:w5.frozen? ⟨Z.heap.size,1,none⟩=false:=by simp[frozen?,a2]))
        all_goals
          go_wp2;have aB:Bt w w5:=(D.alloc (by have:=D.size;omega) _).grown V (by simp;have:=D.size;omega) (λj hj=>(a1.lt j hj).1);have ai:w5.heap[w.heap.size]?=some (.cells (AM false none 0 0) 24 (0,0)):=by have h3:w3.heap[w.heap.size]?=_:=(h.block _ (AD.1 A).1).trans A;exact(V.block _ (by simp;have:=(AD.1 h3).1;omega) (Ne.symm (Gz a1 h3 (Lj kr)))).trans ((Bg _ _ _ (AD.1 h3).1).trans h3)
          go_roundw
          case rel=>
            refine⟨k+1,_,by omega,by go_num,aB.setCell (by show w.heap.size<=Z.heap.size;omega) _,(AQ w5 ⟨Z.heap.size,1,none⟩ _ _ (by simp;omega)).trans ai,by simpa using AJ (i:=1) a2 (.slice (some ⟨g5,0,none⟩) (m+1) c5),?_⟩;rw [HF.out];have aj:=BI.step (wss:=AZ fold (wss.take k)) (xs:=AO fold x) (e:=.slice a3 l c3) (es:=es) (v:=.slice H m I) (by rw [ac.out];exact a1.alloc _) (by rw [ac.out];exact e2)
              (λi e xs he hx=>⟨DJ (DJ (e3 i e xs he hx).1 h) ((AH _ _).alloc (AC _) _),(e3 i e xs he hx).2⟩) (by rw[Ew,hX.len];exact(abR (aa.alloc _) (by have:=a7.size;simpa using this))) (MD hX.2) (by rw[ac.out];exact ab) V
            exact aj.turned (BH w5 Z.heap.size 1 _) a2 (Lj kr) (Lj kr)
          case measure=>simp[intOf];omega
    ·
      obtain rfl:k=la:=by omega
      have HF:Hid (wss.take k=wss):=Ap (by have:=HL.out;omega);have s0:wr.cell? ⟨Z.heap.size,0,none⟩=some (bool fold):=by simp[cell?,N]
      obtain⟨H,I,rfl,aw,hW⟩:=U.wds;have s1:wr.cell? ⟨Z.heap.size,1,none⟩=some (slice H (AZ fold (wss.take k)).length I):=by simp[cell?,N]
      have z0:wr.cell? ⟨w.heap.size,0,none⟩=some (bool false):=by simp[cell?,Y]
      have z1:wr.cell? ⟨w.heap.size,1,none⟩=some (slice none 0 0):=by simp[cell?,Y]
      have y0:wr.frozen? ⟨w.heap.size,0,none⟩=false:=by simp[frozen?,Y]
      have y1:wr.frozen? ⟨w.heap.size,1,none⟩=false:=by simp[frozen?,Y]
      go_wp2;have A:=AJ (i:=1) (AJ (i:=0) Y (bool fold)) (slice H (AZ fold (wss.take k)).length I);refine Vf (NH rfl rfl (by simpa using A)) rfl ?_;refine⟨_,rfl,?_,(a6.setCell (AC _) _).setCell (AC _) _⟩;have ho:=(U.turned (BH wr w.heap.size 0 (bool fold)) Y (Lj kr) (Lj kr)).turned (BH _ w.heap.size 1 (slice H (AZ fold (wss.take k)).length I)) (AJ (i:=0) Y (bool fold)) (Lj kr) (Lj kr);rw[HF.out]at ho⊢;exact ho
def Fw(fold:Bool)(wss:La):Bool:=decide (DL fold wss=0)&&decide (AZ fold wss=wss)
theorem acH(fold:Bool)(a:Option Addr)(X J:Nat)(wss:La)(w:World)(h:Wds w a X wss)(C:X<=1000000)(hM:∀x∈wss,x.length<=1000000) :Calls ZP 46 #[.agg (AM fold a X J)] w λe w'=>e=.returned (bool (Fw fold wss))/\Bt w w':=by
 have N:Bt w (w.alloc (.cells (AM fold a X J) 24)):=(AH _ _).alloc (AC _) _;have B:=h.below N;have H:=AT w (.cells (AM fold a X J) 24)
 by_cases V:DL fold wss=0
 ·have HR:Hid (Fw fold wss=DH fold fold (AZ fold wss) wss):=by simp[Hid,Fw,DH,V]
  go_enter func46,ntmps46
  go_wp2_with fail
  refine(aiA fold a X J wss _ B C hM V).mono ?_;rintro e Y ⟨v,rfl,I,A⟩;have Z:Bt w Y:=N.trans (A.mono sm);obtain⟨av,cv,rfl,a7,hW⟩:=I.wds;have h1:Y.heap[w.heap.size]?=_:=(A.block _ sm).trans H;have a1:w.heap.size<Y.heap.size:=(AD.1 h1).1;have c0:Y.cell? ⟨w.heap.size,0,none⟩=some (bool fold):=by simp[cell?,h1]
  have c1:Y.cell? ⟨w.heap.size,1,none⟩=some (slice a X J):=by simp[cell?,h1]
  have D:(AZ fold wss).length<=1000000:=by have:=Nb fold wss;have:=h.len;omega
  have a2:w.heap.size≠Y.heap.size:=by omega
  have U:Bt Y (Y.alloc (.cells (AM fold av (AZ fold wss).length cv) 24)):=(AH _ _).alloc (AC _) _;have s:=hW.below U;have j:=(h.below Z).below U;clear V
  go_wp2_with fail
  refine(ahh fold fold av a _ cv X J (AZ fold wss) wss _ s j D).mono ?_;rintro e w3 ⟨rfl,y⟩;go_wp2;go_ret;exact⟨by rw[HR.out];rfl,Z.trans ((U.trans (y.mono sm)).mono Z.size)⟩
 ·have HR:Hid (Fw fold wss=false):=by simp[Hid,Fw,V]
  obtain⟨n,z⟩:∃n,DL fold wss=n:=⟨_,rfl⟩;have HC:=AA V;have HN:Hid (DL fold wss=n):=z;rw[z]at V;clear z;have a6:(n==0)=false:=by simp[V]
  go_enter func46,ntmps46
  go_wp2_with fail
  refine(akZ fold a X J wss _ B C hM HC.out).mono ?_;rintro e Y ⟨rfl,A⟩;rw[HN.out];have Z:Bt w Y:=N.trans (A.mono sm);go_wp2;go_ret;exact⟨by rw[HR.out];rfl,Z.alloc Z.size _⟩
theorem IT{α:Type}{P:List α->Prop}(h0:P [])(h1:∀l x,P l->P (l++[x])):∀l,P l:=by
 intro l;obtain⟨n,Y⟩:∃n,l.length=n:=⟨_,rfl⟩
 induction n generalizing l with
 |zero=>obtain rfl:=Bz Y;exact h0
 |succ n ih=>
  obtain⟨Z,x,rfl⟩:∃Z x,l=Z++[x]:=⟨l.dropLast,l.getLast (by intro h;simp[h]at Y),(Em _).symm⟩;exact h1 Z x (ih Z (by simpa using Y))
theorem amI:∀(l:La),(cnt l).1=l.length/\(cnt l).2.1=Ds l/\((cnt l).2.2.1 > 32↔∃x∈l,x.length > 32)/\0<=(cnt l).2.2.2/\(l≠[]->((cnt l).2.2.2=0↔∃x∈l,x.length=0)):=by
 apply IT
 ·simp[cnt,Ds]
 ·intro l x ⟨h1,h2,h3,h4,h5⟩;rw[ad5,aeX];simp only[Kq];refine⟨by rw[h1];simp,by rw[h2],?_,by split<;>omega,λ_=>?_⟩
  ·constructor
   ·intro h
    by_cases X:x.length > 32
    ·exact⟨x,by simp,X⟩
    ·obtain⟨y,Z,Y⟩:=h3.1 om;exact⟨y,by simp[Z],Y⟩
   ·rintro⟨y,Z,Y⟩
    rcases Bf.1 Z with Z|Z
    ·have:=h3.2 ⟨y,Z,Y⟩;omega
    ·simp at Z;subst Z;omega
  ·by_cases V:l=[]
   ·subst V;simp[cnt]
   ·have U:l.length≠0:=λe=>V (Bz e);have h6:=h5 V
    constructor
    ·intro h
     by_cases X:x.length=0
     ·exact⟨x,by simp,X⟩
     ·split at h
      ·omega
      ·obtain⟨y,Z,Y⟩:=h6.1 h;exact⟨y,by simp[Z],Y⟩
    ·rintro⟨y,Z,Y⟩
     rcases Bf.1 Z with Z|Z
     ·have:=h6.2 ⟨y,Z,Y⟩;rw[Lb om];exact this
     ·simp at Z;subst Z
      split<;>omega
theorem afR(f:Nat->Bool):JX f=if f 0 then 50 else if f 1 then 51 else if f 2 then 52 else if f 3 then 53 else if f 4 then 54 else if f 5 then 55 else 0:=by
 unfold JX;simp only[List.range,List.range.loop,List.find?]
 cases f 0<;>cases f 1<;>cases f 2<;>cases f 3<;>cases f 4<;>cases f 5<;>rfl
theorem amB(fold:Bool)(wss:La):Ey fold wss=DL fold wss:=by
 obtain⟨h1,h2,h3,h4,h5⟩:=amI wss;unfold Ey DL;rw[afR];simp only[Ku,h1,h2,amE,decide_eq_true_eq,h3]
 by_cases h0:wss.length=0
 ·rw[Lc om,Lc h0]
 ·rw[Lb om,Lb h0];have X:wss≠[]:=λe=>h0 (by rw[e];rfl)
  by_cases Z:wss.length > 64
  ·rw[Lc om,Lc Z]
  ·rw[Lb om,Lb Z]
   by_cases Y:∃x∈wss,x.length=0
   ·rw[Lc ((h5 X).2 Y),Lc Y]
   ·rw[Lb (λh=>Y ((h5 X).1 h)),Lb Y]
theorem NF(fold:Bool)(wss:La):An fold wss=Fw fold wss:=by unfold An Fw;rw[amB]
abbrev AF:=Int×Int
def DK(a b:Int):Int:=if a<b then -1 else if b<a then 1 else 0
def FP(fold:Bool)(wss:La)(Y:List Int)(Z:Nat)(k:Nat):Bool:=atL fold Y Z ((wss[k]?).getD [])
theorem afN(x y:Int)(w:World) :Calls ZP 185 #[int i64 x,int i64 y] w λe w'=>e=.returned (int i64 (DK x y))/\w=w':=by
 by_cases h1:x<y
 ·have Z:Hid (DK x y=-1):=by simp[Hid,DK,h1]
  go_enter func185,ntmps185;go_wp2;go_ret;exact⟨by rw[Z.out];rfl,rfl⟩
 ·by_cases h2:y<x
  ·have Z:Hid (DK x y=1):=by simp[Hid,DK,h1,h2]
   go_enter func185,ntmps185;go_wp2;go_ret;exact⟨by rw[Z.out];rfl,rfl⟩
  ·have Z:Hid (DK x y=0):=by simp[Hid,DK,h1,h2]
   go_enter func185,ntmps185;go_wp2;go_ret;exact⟨by rw[Z.out];rfl,rfl⟩
def orL(zs:List Int):Int:=(zs.find? (λz=>z != 0)).getD 0
theorem ant{Z rest:List Int}{z:Int}(h:∀x∈Z,x=0)(Y:z≠0):orL (Z++z::rest)=z:=by unfold orL;rw[List.find?_append,List.find?_eq_none.2 (λx X=>by simp[h x X])];simp[Y]
theorem akV{zs:List Int}(h:∀x∈zs,x=0):orL zs=0:=by
 unfold orL;rw[List.find?_eq_none.2 (λx Z=>by simp[h x Z])]
 rfl
theorem aoO(a:Option Addr)(Z j:Nat)(zs:List Int)(w:World)(s:Sl1 (int i64) w a Z zs)(y:Z<=1000000) :Calls ZP 184 #[slice a Z j] w λe w'=>e=.returned (int i64 (orL zs))/\w=w':=by
 obtain⟨H,I⟩:=s;have B:=AA H;clear H;go_enter func184,ntmps184;go_wp2
 go_loop[8] (λi=>∃k:Nat,k<=Z/\i=int i64 k/\Hid (∀x∈zs.take k,x=0)) (λi=>Z-(intOf i).toNat)
 case atStart=>exact⟨0,AR _,rfl,λx Y=>by simp at Y⟩
 case round=>
  obtain⟨k,hk,rfl,J⟩:=hrel
  by_cases U:k<Z
  ·obtain⟨b,off,rfl,hb,D⟩:=I.resolve_left om;obtain⟨z,V⟩:∃z,zs[k]?=some z:=⟨zs[k]'(by rw[B.out];exact U),by simp⟩;have N:w.cell? ⟨b,off+k,none⟩=some (int i64 z):=D k z V;have C:=AA V;clear V D I
   by_cases h0:z=0
   ·subst h0;have X:Hid (∀x∈zs.take (k+1),x=0):=by
     rw[As C.out];intro x Y
     rcases Bf.1 Y with Y|Y
     ·exact J.out x Y
     ·simpa using Y
    go_wp2
    go_round
    case rel=>exact⟨k+1,by omega,by go_num,X⟩
    case measure=>simp[intOf];omega
   ·have X:Hid (orL zs=z):=by
     have h:=ant (rest:=zs.drop (k+1)) J.out h0
     rwa[<-Mu C.out]at h
    have A:(z != 0)=true:=by simp[h0]
    clear h0;go_wp2;go_ret;exact⟨by rw[X.out];rfl,rfl⟩
  ·obtain rfl:k=Z:=by omega
   have X:Hid (orL zs=0):=by have h:=J.out;rw[Ap (by rw[B.out];exact AC _)]at h;exact akV h
   go_wp2;go_ret;exact⟨by rw[X.out];rfl,rfl⟩
theorem Sl1.lay{α:Type}(enc:α->Value)(w:World)(zs:List α)(t:TypeId)(n:Nat)(h:w.heap.size=n):Sl1 enc (w.alloc (.cells (zs.map enc).toArray t)) (some ⟨n,0,none⟩) zs.length zs:=by subst h;refine⟨rfl,.inr ⟨w.heap.size,0,rfl,by simp,λi x Z=>?_⟩⟩;have Y:=AT w (.cells (zs.map enc).toArray t);unfold cell?;dsimp only;rw[Y];simp[Z]
theorem Hf{w:World}{n:Nat}(h:w.heap.size=n)(o:Obj):(w.alloc o).heap[n]?=some o:=by subst h;exact AT w o
def Bx(n:Nat)(os:List Obj)(W:World):Prop:=∀(i:Nat)(o:Obj),os[i]?=some o->W.heap[n+i]?=some o
theorem Bx.below{n:Nat}{os:List Obj}{W Z:World}(h:Bx n os W)(X:Bt W Z):Bx n os Z:=λi o Y=>
 have:=h i o Y
 (X.block _ (AD.1 this).1).trans this
theorem Bx.nil(n:Nat)(W:World):Bx n [] W:=λi o Z=>by simp at Z
theorem Bx.snoc{n:Nat}{os:List Obj}{W:World}(h:Bx n os W)(o:Obj)(X:W.heap.size=n+os.length):Bx n (os++[o]) (W.alloc o):=λi x Z=>by
 by_cases Y:i<os.length
 ·rw[By Y]at Z;exact(Bg _ _ _ om).trans (h i x Z)
 ·rw[DY om]at Z;have:i-os.length=0:=by
   by_cases e:i-os.length=0
   ·exact e
   ·rw[GT (by simp;omega)]at Z;cases Z
  rw[this]at Z;simp at Z;subst Z;exact Hf om _
theorem Bx.cell{n i j:Nat}{os:List Obj}{W:World}(h:Bx n os W){cs:Array Value}{t:TypeId}{fr:Nat×Nat}(Y:os[i]?=some (.cells cs t fr)){v:Value}(Z:cs[j]?=some v):W.cell? ⟨n+i,j,none⟩=some v:=by have:=h i _ Y;simp[cell?,this,Z]
theorem Bys.take{w:World}{a:Option Addr}{n:Nat}{l:List Int}(h:Bys w a n l){m:Nat}(U:m<=n):Bys w a m (l.take m):=by
 refine⟨⟨by rw[Ag,h.len];omega,?_⟩,λx V=>h.2 x (EG V)⟩
 by_cases h0:m=0
 ·exact .inl h0
 ·right
  obtain⟨b,off,rfl,X,Z⟩:=h.1.2.resolve_left om;refine⟨b,off,rfl,X,λi u Y=>Z i u ?_⟩;rw[FT]at Y
  split at Y
  ·exact Y
  ·cases Y
theorem AN(W:World)(n:Nat):Bt W (W.drewN n):=⟨rfl,rfl,rfl,AC _,λ_ _=>rfl⟩
def heW:La:=[[104,101],[115,104,101],[104,101,114]]
theorem aqJ:(Ad false heW).length<=1000000:=by decide+kernel
theorem aqI:∀x∈heW,x.length<=1000000:=by decide+kernel
theorem PO{w:World}{n:Nat}(xs:List Int)(Z:∀x∈xs,0<=x/\x<=255)(t:TypeId)(fr:Nat×Nat)(h:w.heap.size=n):Bys (w.alloc (.cells (xs.map (Value.int .u8)).toArray t fr)) (some ⟨n,0,none⟩) xs.length xs:=by subst h;refine⟨⟨rfl,.inr ⟨w.heap.size,0,rfl,by simp,λi x Z=>?_⟩⟩,Z⟩;have Y:=AT w (.cells (xs.map (Value.int .u8)).toArray t fr);unfold cell?;dsimp only;rw[Y];simp[Z]
theorem AL(w:World)(o:Obj):Bt w (w.alloc o):=(AH _ _).alloc (AC _) _
theorem arl{w:World}{a:Option Addr}{X v2 v3:Option Addr×Nat×Nat}{U x2 V:List Int}(h:Sl1 (λv:Option Addr×Nat×Nat=>slice v.1 v.2.1 v.2.2) w a 3 [X,v2,v3])(h1:Bys w X.1 X.2.1 U)(h2:Bys w v2.1 v2.2.1 x2)(h3:Bys w v3.1 v3.2.1 V)
  (c1:X.2.1<=X.2.2) (c2:v2.2.1<=v2.2.2) (c3:v3.2.1<=v3.2.2):Wds w a 3 [U,x2,V]:=by
 refine⟨_,h,rfl,λi v xs Z Y=>?_⟩
 match i with
 |0=>simp at Z Y;subst Z Y;exact⟨h1,c1⟩
 |1=>simp at Z Y;subst Z Y;exact⟨h2,c2⟩
 |2=>simp at Z Y;subst Z Y;exact⟨h3,c3⟩
 |n+3=>simp at Z
theorem aql(w:World)(C:Array Value)(n c k:Nat)(h:w.heap.size=k):(convert 32 32 (slice (some ⟨k,0,none⟩) n c)).run ZP (w.alloc (.cells C 5))=.ok (slice (some ⟨k,0,none⟩) n c) (w.alloc (.cells C 5 (C.size,C.size+1))):=by subst h;exact Lib.run_convert_bytes_const (P:=ZP) w 32 5 C n c underlying32 underlying5
theorem afV{W Z:World}(h:Bt W Z)(g:Nat):W.grownBy Z (some g):=⟨h.os,h.tape,h.output,h.size,λk hk _=>h.block k hk⟩
theorem GI{w:World}(cs:Array Value)(t:TypeId){n:Nat}(h:w.heap.size=n):∀j u,cs.toList[j]?=some u->(w.alloc (.cells cs t)).cell? ((⟨n,0,none⟩:Addr).add j)=some u:=by
 intro j u Z;subst h;rw[Cf];have Y:=AT w (.cells cs t);unfold cell?;dsimp only;rw[Y]
 simpa using Z
def SlK(size:Nat)(w:World)(a:Option Addr)(len:Nat)(cs:List Value):Prop:=
 cs.length=len*size/\(len=0∨∃b off,a=some ⟨b,off,none⟩/\b<w.heap.size/\∀(i:Nat)(u:Value),cs[i]?=some u->w.cell? ⟨b,off+i,none⟩=some u)
theorem SlK.below{size:Nat}{w w':World}{a:Option Addr}{len:Nat}{cs:List Value}(h:SlK size w a len cs)(Y:Bt w w'):SlK size w' a len cs:=by
 obtain⟨h1,h2|⟨b,off,e,Z,V⟩⟩:=h
 ·exact⟨h1,.inl h2⟩
 ·exact⟨h1,.inr ⟨b,off,e,Af Z Y.size,λi u X=>(Y.cell (p:=⟨b,off+i,none⟩) Z).trans (V i u X)⟩⟩
theorem SlK.news{size:Nat}{w:World}{Y:Addr}{m:Nat}{cs:List Value}(h:SlK size w (some Y) m cs):∀j u,cs[j]?=some u->w.cell? (Y.add j)=some u:=by
 intro j u Z;obtain⟨h1,h2⟩:=h;have V:=(AP.1 Z).1;have h0:m≠0:=by intro e;subst e;rw[h1,Nat.zero_mul]at V;omega
 obtain⟨b,off,e,X,U⟩:=h2.resolve_left h0;obtain rfl:=AK e;rw[Cf];exact U j u Z
theorem SlK.own{size base n:Nat}{w:World}{e:TypeId}{v:Value}{cs:List Value}(h:w.ownsRow base e size v n cs):∃a c,v=slice a n c/\n<=c/\SlK size w a n cs:=by
 have Z:=h.1
 rcases h.2 with⟨rfl,rfl⟩|⟨g,cap,U,rfl,N,V,X,_,_,J⟩
 ·exact⟨none,0,rfl,AC _,Z,.inl rfl⟩
 ·refine⟨_,cap,rfl,X,Z,.inr ⟨g,0,rfl,(AD.1 V).1,λi x Y=>?_⟩⟩;have:=h.cells (g:=g) rfl i x Y
  rwa[Cf]at this
theorem Gu{P:Program}(w:World)(base:Nat)(t ty e:TypeId)(i:TypeInfo)(z:Value)(size bytes:Nat)(I:P.underlying t=some (.slice e))(C:P.info? e=some i)(x:i.zero=some z)
  (X:i.size=size) (B:i.bytes=bytes) (J:z.cells.size=size) (H:0<size) (v:Value) (n:Nat) (xs:List Value) (Z:w.ownsRow base e size v n xs)
  (A:Option Addr) (m c:Nat) (cs:List Value) (N:SlK size w A m cs) (U:∀u∈cs,u.oneCell'=true) (y:n+m<=maxLen) (Y:(n+m)*bytes<=140737488355328) (V:base<=w.heap.size) :
  ∃v' w',(Builtin.append_ #[t,t] ty #[v,.slice A m c]).run P w=.ok v' w'/\w'.ownsRow base e size v' (n+m) (xs++cs)/\w.grownBy w' v.ownBlock/\
   (v'.ownBlock=v.ownBlock∨v'.ownBlock=some w.heap.size):=by
 cases A with
 |some ad=>
  obtain⟨v',w',j,h2,h3,_,h5⟩:=run_append_own_at (P:=P) w base t ty e i z size bytes I C x X B J H v n xs Z ad m c cs N.1 N.news U y Y V;exact⟨v',w',j,h2,h3,h5⟩
 |none=>
  have h:m=0:=N.2.elim id λ⟨b,off,e,_⟩=>by cases e
  subst h;have s:cs=[]:=Bz (by rw[N.1,Nat.zero_mul]);subst s;refine⟨v,w,?_,by simpa using Z,World.grownBy.refl w _,.inl rfl⟩
  rcases Z.2 with⟨rfl,rfl⟩|⟨g,cap,a1,rfl,_,_,D,_⟩
  ·simp[Builtin.append_,run_underlying I,sizeOf,typeInfo,C,Builtin.lenOf,Builtin.firstCells]
  ·simp[Builtin.append_,run_underlying I,sizeOf,typeInfo,C,Builtin.lenOf,Builtin.firstCells,D,storeCells]
theorem JA{P:Program}{w:World}{V:Array Oper}{rest:List Oper}{o:Oper}{a:Act}{Q:Exit->Act->World->Prop}(D:o.guard=none)(s x:Operand)(t:TypeId)
  (ho:o.op=.call {callee:=.builtin .append,args:=#[s,x],argTypes:=#[t,t]})
  (base:Nat) (e:TypeId) (i:TypeInfo) (z:Value) (size bytes:Nat) (ht:P.underlying t=some (.slice e)) (hi:P.info? e=some i) (y:i.zero=some z) (Y:i.size=size) (C:i.bytes=bytes) (J:z.cells.size=size) (I:0<size)
  (v:Value) (n:Nat) (xs:List Value) (hs:a.eval s=v) (U:w.ownsRow base e size v n xs) (A:Option Addr) (m c:Nat) (cs:List Value) (j:a.eval x=slice A m c) (H:SlK size w A m cs) (N:∀u∈cs,u.oneCell'=true)
  (B:n+m<=maxLen) (Z:(n+m)*bytes<=140737488355328) (X:base<=w.heap.size)
  (h:∀v' w',w'.ownsRow base e size v' (n+m) (xs++cs)->w.grownBy w' v.ownBlock->(v'.ownBlock=v.ownBlock∨v'.ownBlock=some w.heap.size)->wpList P V Q rest (a.put o.dst v') w'):wpList P V Q (o::rest) a w:=by
 refine wpList_plain D λK hK=>?_;obtain⟨v',w',hr,h2,h3,h4⟩:=Gu (P:=P) w base t o.type e i z size bytes ht hi y Y C J I v n xs U A m c cs H N B Z X;unfold Oper.wp execOp;simp only[ho,resolve,invoke,builtin,IN,IM,Result.andThen_ok,LI,BO,DE,hs,j,hr];exact hK _ _ (h v' w' h2 h3 h4)
theorem aa2{F:Fence}{k:Nat}{P:Program}(w:World){U:Array Oper}{rest:List Oper}{o:Oper}{a:Act}{Q:Exit->Act->World->Prop}(B:o.guard=none)(s x:Operand)(t:TypeId)
  (X:o.op=.call {callee:=.builtin .append,args:=#[s,x],argTypes:=#[t,t]})
  (base:Nat) (e:TypeId) (i:TypeInfo) (z:Value) (size bytes:Nat) (ht:P.underlying t=some (.slice e)) (hi:P.info? e=some i) (hz:i.zero=some z) (Y:i.size=size) (j:i.bytes=bytes) (H:z.cells.size=size) (D:0<size)
  (v:Value) (n:Nat) (xs:List Value) (hs:a.eval s=v) (J:w.ownsRow base e size v n xs) (A:Option Addr) (m c:Nat) (cs:List Value) (hx:a.eval x=slice A m c) (C:SlK size w A m cs) (I:∀u∈cs,u.oneCell'=true)
  (a2:n+m<=maxLen) (Z:(n+m)*bytes<=140737488355328) (V:base<=w.heap.size)
  (h:∀v' w',w'.ownsRow base e size v' (n+m) (xs++cs)->w.grownBy w' v.ownBlock->(v'.ownBlock=v.ownBlock∨v'.ownBlock=some w.heap.size)->wpListIn F k P U Q rest (a.put o.dst v') w'):wpListIn F k P U Q (o::rest) a w:=by
 refine wpListIn_plain B λK a1=>?_;obtain⟨v',w',N,r1,r2,r3⟩:=Gu (P:=P) w base t o.type e i z size bytes ht hi hz Y j H D v n xs J A m c cs C I a2 Z V;unfold Oper.wpIn;refine⟨?_,?_⟩
 ·simp[Oper.about,X,resolve,Target.leads,IM]
 ·rw[Oper.semAt_plain F _ _ (by rw[X];intro c y;cases y)];simp[execOp,X,resolve,invoke,builtin,hs,hx,N,Result.andThen];exact a1 _ _ (h v' w' r1 r2 r3)
/-! ### hits -/
def I64(n:Int):Prop:=-9223372036854775808<=n/\n<=9223372036854775807
def IH(h:AF):List Value:=[int i64 h.1,int i64 h.2]
def AV(l:List AF):List Value:=l.flatMap IH
theorem afo(l:List AF)(h:AF):AV (l++[h])=AV l++[int i64 h.1,int i64 h.2]:=by simp[AV,IH]
theorem JT(l m:List AF):AV (l++m)=AV l++AV m:=by simp[AV]
theorem GF:∀(l:List AF),(AV l).length=l.length*2
 |[]=>rfl
 |h::l=>by have:=GF l;simp only[AV,IH,List.flatMap_cons,List.length_append,Ao,Bw]at this⊢;omega
theorem aeK:∀{l:List AF}{i:Nat}{h:AF},l[i]?=some h->(AV l)[i*2]?=some (int i64 h.1)/\(AV l)[i*2+1]?=some (int i64 h.2)
 |[],i,h,e=>by simp at e
 |x::l,0,h,e=>by simp at e;subst e;exact⟨rfl,rfl⟩
 |x::l,i+1,h,e=>by
  have Z:=aeK (l:=l) (i:=i) (h:=h) (by simpa using e);have Y:AV (x::l)=int i64 x.1::int i64 x.2::AV l:=rfl;rw[Y,show(i+1)*2=i*2+1+1 by omega,show i*2+1+1+1=(i*2+1)+1+1 by omega]
  simpa using Z
theorem MC(l:List AF):∀u∈AV l,u.oneCell'=true:=by
 intro u Z;simp only[AV,Ir,IH]at Z;obtain⟨h,_,Z⟩:=Z;simp at Z
 rcases Z with rfl|rfl<;>rfl
def Hts(w:World)(a:Option Addr)(len:Nat)(l:List AF):Prop:=SlK 2 w a len (AV l)/\∀h∈l,I64 h.1/\I64 h.2
theorem Hts.below{w w':World}{a:Option Addr}{len:Nat}{l:List AF}(h:Hts w a len l)(Z:Bt w w'):Hts w' a len l:=⟨h.1.below Z,h.2⟩
theorem Hts.len{w:World}{a:Option Addr}{len:Nat}{l:List AF}(h:Hts w a len l):l.length=len:=by have:=h.1.1;rw[GF]at this;omega
theorem Hts.at_{w:World}{a:Option Addr}{len:Nat}{l:List AF}(h:Hts w a len l){k:Nat}(hk:k<len) :∃b off x,a=some ⟨b,off,none⟩/\b<w.heap.size/\w.cell? ⟨b,off+k*2,none⟩=some (int i64 x.1)/\w.cell? ⟨b,off+k*2+1,none⟩=some (int i64 x.2)/\l[k]?=some x/\I64 x.1/\I64 x.2:=by have V:=h.len;obtain⟨b,off,e,Y,X⟩:=h.1.2.resolve_left om;obtain⟨x,Z⟩:∃x,l[k]?=some x:=⟨l[k]'om,by simp⟩;obtain⟨c0,c1⟩:=aeK Z;exact⟨b,off,x,e,Y,X _ _ c0,by rw[Nat.add_assoc];exact X _ _ c1,Z,(h.2 x (AX Z)).1,(h.2 x (AX Z)).2⟩
abbrev Ax(w:World)(base:Nat)(v:Value)(l:List AF):Prop:=w.ownsRow base 116 2 v l.length (AV l)
theorem Ax.hts{w:World}{base:Nat}{v:Value}{l:List AF}(h:Ax w base v l)(Y:∀x∈l,I64 x.1/\I64 x.2):∃a c,v=slice a l.length c/\l.length<=c/\Hts w a l.length l:=by obtain⟨a,c,e,Z,h1⟩:=SlK.own h;exact⟨a,c,e,Z,h1,Y⟩
theorem IG:(ZP.info? 116).map (λi=>(i.zero,i.size,i.bytes))=some (some (.agg #[int i64 0,int i64 0]),2,16):=by kernel_rfl
section
open Go.ChangeShapes Go.WideShapes Go.ChangeAt Go.RowKit Go.Joins Go.Deep
theorem aj2:ZP.cellsOf 24=2:=by kernel_rfl
theorem aaL:ZP.cellsOf 4=1:=by kernel_rfl
theorem am9:ZP.cellsOf 5=1:=by kernel_rfl
theorem ajD:ZP.cellsOf 32=1:=by kernel_rfl
theorem adF:ZP.cellsOf 22=1:=by kernel_rfl
theorem ar4{n:Int}(h:(Lit.int .i64 n).wf=true):I64 n:=by simp[Lit.wf,IntKind.min,IntKind.max,IntKind.signed,IntKind.bits]at h;exact⟨by omega,by omega⟩
theorem aoU{n:Int}(h:(Lit.int .u8 n).wf=true):0<=n/\n<=255:=by simp[Lit.wf,IntKind.min,IntKind.max,IntKind.signed,IntKind.bits]at h;omega
section
variable {H:Type}{enc:TypeId×Value->H}{W:World}{r:Reach}{base:Nat}{d:DataW H}{p:List MemPlace}{v:Value}
theorem adU{D:Nat}{v:Value}{x:DataW H×List MemPlace}(h:DataW.trod enc ZP W 0 (λ_=>true) true D 22 [v]=some x):∃(a:Option Addr)(len cap:Nat)(wss:La),v=slice a len cap/\Wds W a len wss/\len<=cap/\cap<=maxLen:=by
 rcases open_int_rows underlying22 underlying32 underlying5 ajD am9 h with⟨X,_⟩|⟨x,len,cap,A,L,C,Z,X,_,hl,hm,_,s⟩
 ·simp at X;exact⟨none,0,0,[],X,⟨[],⟨rfl,.inl rfl⟩,rfl,λi v xs h=>by simp at h⟩,AC _,by unfold maxLen;omega⟩
 ·simp at X;refine⟨some x,len,cap,(List.range len).map λi=>(Z i).take (L i),X,⟨(List.range len).map λi=>(A i,L i,C i),⟨by simp,?_⟩,by simp,λi v xs z hx=>?_⟩,hl,hm⟩
  ·by_cases h0:len=0
   ·exact .inl h0
   ·right
    obtain⟨b,off,Y⟩:=x;have J:=(s 0 om).1;obtain rfl:Y=none:=by simpa[Addr.add]using World.cell?_spot J
    refine⟨b,off,rfl,?_,λi u V=>?_⟩
    ·have:=DO W _ J
     rwa[Cf]at this
    ·have U:i<len:=by have:=(AP.1 V).1;simpa using this
     simp[U]at V;have h1:=(s i om).1;rw[Cf]at h1;rw[h1,<-V]
  ·have U:i<len:=by have:=(AP.1 z).1;simpa using this
   simp[U]at z hx;subst z hx;obtain⟨_,e,a2,hZ,B,a1,hA⟩:=s i om;refine⟨⟨⟨by simp;omega,?_⟩,λn hn=>aoU (B n (EG hn))⟩,e⟩
   by_cases h0:L i=0
   ·exact .inl h0
   ·right
    cases I:A i with
    |none=>have:=a1 I;omega
    |some y=>
     obtain⟨_,J⟩:=hA y I;obtain⟨b,off,Y⟩:=y;have N:=J 0 om;obtain rfl:Y=none:=by simpa[Addr.add]using World.cell?_spot N
     refine⟨b,off,rfl,?_,λj u V=>?_⟩
     ·have:=DO W _ N
      rwa[Cf]at this
     ·have hj:j<L i:=by have:=(AP.1 V).1;simp at this;omega
      have h1:=J j om;rw[Cf]at h1;rw[h1];rw[FT,Lc hj]at V;simp[V]
theorem aqZ(C:Value.okWide ZP W r base 24 v)(h:DataW.Trod enc ZP W 0 (λ_=>true) true 24 v d p) :∃(fold:Bool)(a:Option Addr)(len cap:Nat)(wss:La),v=.agg #[bool fold,slice a len cap]/\Wds W a len wss/\len<=cap/\cap<=maxLen:=by
 obtain⟨cs,rfl,V⟩:=okWide_struct underlying24 C;obtain⟨l⟩:=cs
 match l,V.trans aj2 with
 |[c0,c1],_=>
  obtain⟨J,A⟩:=h;obtain⟨xs,n,_,_,_,Z,N⟩:=DataW.trod_struct underlying24 A;have U:xs.length=2:=Z;obtain⟨j,X⟩:∃y,xs[0]?=some y:=⟨xs[0]'om,by simp⟩;obtain⟨s,Y⟩:∃y,xs[1]?=some y:=⟨xs[1]'om,by simp⟩;have h0:=N 0;simp only[pD,pE,pF,DC,forall_eq',aaL,X]at h0;obtain⟨b,I,_⟩:=DataW.trod_bool underlying4 h0;have h1:=N 1;simp only[pD,pE,pF,DC,forall_eq',adF,Y]at h1;simp[Value.cells]at I h1;obtain⟨a,len,cap,wss,x,D,z,B⟩:=adU h1;exact⟨b,a,len,cap,wss,by rw[I,x],D,z,B⟩
end
end
def Cb(bl:Nat)(W:World):Option Nat:=(W.cell? ⟨bl,0,none⟩).bind Value.ownBlock
def KpL(bl:Nat)(W Z:World):Prop:=
 W.heap.size<=Z.heap.size/\(∀k cs t f,W.heap[k]?=some (.cells cs t f)->k≠bl->Cb bl W≠some k->Z.heap[k]?=some (.cells cs t f))/\(Cb bl Z=Cb bl W∨∃r,Cb bl Z=some r/\W.heap.size<=r/\r<Z.heap.size)
theorem KpL.lt{bl:Nat}{W:World}{k:Nat}{cs:Array Value}{t:TypeId}{f:Nat×Nat}(h:W.heap[k]?=some (.cells cs t f)):k<W.heap.size:=(AD.1 h).1
theorem KpL.b{bl:Nat}{w:World}(X:bl<w.heap.size)(W:World)(l:Nat)(o o':Obj)(Y:w.heap.size<=l)(h:W.heap[l]?=some o)(Z:o.isCells=false)(_:o.isWalk=false):KpL bl W (W.putObj l o'):=by
 refine⟨by simp[World.putObj],λk cs t f hk _ _=>?_,.inl ?_⟩
 ·rw[Cm (λe=>?_)]
  ·exact hk
  ·rw[e,h]at hk
   cases hk
   cases Z
 ·unfold Cb;rw[BC (a:=⟨bl,0,none⟩) (Cm (by show bl≠l;omega))]
section
variable {bl g:Nat}{w W V:World}
end
theorem KpL.of_below{bl:Nat}{W V:World}(Z:Bt W V)(Y:bl<W.heap.size):KpL bl W V:=⟨Z.size,λk cs t f hk _ _=>(Z.block k (KpL.lt (bl:=bl) hk)).trans hk,.inl (by unfold Cb;rw[BC (a:=⟨bl,0,none⟩) (Z.block bl Y)])⟩
theorem DG{α:Type}{enc:α->Value}{w:World}{a:Option Addr}{n:Nat}{xs:List α}(h:Sl1 enc w a n xs){k:Nat}(hk:k<n):∃b off x,a=some ⟨b,off,none⟩/\b<w.heap.size/\w.cell? ⟨b,off+k,none⟩=some (enc x)/\xs[k]?=some x:=by obtain⟨h1,h2⟩:=h;obtain⟨b,off,e,Z,X⟩:=h2.resolve_left om;obtain⟨x,Y⟩:∃x,xs[k]?=some x:=⟨xs[k]'om,by simp⟩;exact⟨b,off,x,e,Z,X k x Y,Y⟩
section
open Go.Shelf
def abg:Go.Shelf.Ren:=⟨fun|6=>182|15=>227|14=>226|28=>265|29=>266|20=>257|21=>258|22=>259|23=>260|24=>261|25=>262|26=>263|27=>264|46=>288|47=>289|48=>290|49=>291|50=>292|57=>296|n=>n,fun|22=>231|24=>9|25=>291|3=>3|39=>324|0=>0|53=>363|55=>365|4=>4|46=>357|45=>356|50=>40|5=>5|9=>9|66=>382|70=>386|76=>400|77=>401|n=>n,fun|n=>n⟩
theorem an5:Go.Proofs.SlLaysF.n6 ZP abg:={
 mixed:=by kernel_rfl
 f6:=⟨f182.name,by decide,func182.trans (congrArg some kr)⟩
 f14:=⟨f226.name,by decide,func226.trans (congrArg some kr)⟩
 f15:=func227.trans (congrArg some kr)
 f20:=⟨f257.name,by decide,func257.trans (congrArg some kr)⟩
 f21:=⟨f258.name,by decide,func258.trans (congrArg some kr)⟩
 f22:=⟨f259.name,by decide,func259.trans (congrArg some kr)⟩
 f23:=⟨f260.name,by decide,func260.trans (congrArg some kr)⟩
 f24:=⟨f261.name,by decide,func261.trans (congrArg some kr)⟩
 f25:=⟨f262.name,by decide,func262.trans (congrArg some kr)⟩
 f26:=⟨f263.name,by decide,func263.trans (congrArg some kr)⟩
 f27:=⟨f264.name,by decide,func264.trans (congrArg some kr)⟩
 f28:=func265.trans (congrArg some kr)
 f29:=func266.trans (congrArg some kr)
 f46:=⟨f288.name,by decide,func288.trans (congrArg some kr)⟩
 f47:=func289.trans (congrArg some kr)
 f48:=func290.trans (congrArg some kr)
 f49:=⟨f291.name,by decide,func291.trans (congrArg some kr)⟩
 f50:=⟨f292.name,by decide,func292.trans (congrArg some kr)⟩
 f57:=⟨f296.name,by decide,func296.trans (congrArg some kr)⟩
 t0:=underlying0
 a0:=Tryz.isAgg0
 z0:=Tryz.sizeOf0
 v0:=Tryz.zeroValue0
 t3:=underlying3
 a3:=Tryz.isAgg3
 z3:=Tryz.sizeOf3
 v3:=Tryz.zeroValue3
 t4:=underlying4
 a4:=Tryz.isAgg4
 z4:=Tryz.sizeOf4
 v4:=Tryz.zeroValue4
 t5:=underlying5
 a5:=Tryz.isAgg5
 z5:=Tryz.sizeOf5
 v5:=Tryz.zeroValue5
 t9:=underlying9
 a9:=Tryz.isAgg9
 z9:=Tryz.sizeOf9
 v9:=Tryz.zeroValue9
 t22:=underlying231
 a22:=Tryz.isAgg231
 z22:=Tryz.sizeOf231
 v22:=Tryz.zeroValue231
 a24:=Tryz.isAgg9
 z24:=Tryz.sizeOf9
 t25:=underlying291
 a25:=Tryz.isAgg291
 z25:=Tryz.sizeOf291
 v25:=Tryz.zeroValue291
 t39:=underlying324
 a39:=Tryz.isAgg324
 z39:=Tryz.sizeOf324
 v39:=Tryz.zeroValue324
 t45:=underlying356
 a45:=Tryz.isAgg356
 z45:=Tryz.sizeOf356
 v45:=Tryz.zeroValue356
 t46:=underlying357
 a46:=Tryz.isAgg357
 z46:=Tryz.sizeOf357
 v46:=Tryz.zeroValue357
 t50:=underlying40
 a50:=Tryz.isAgg40
 z50:=Tryz.sizeOf40
 v50:=Tryz.zeroValue40
 t53:=underlying363
 a53:=Tryz.isAgg363
 z53:=Tryz.sizeOf363
 v53:=Tryz.zeroValue363
 t55:=underlying365
 a55:=Tryz.isAgg365
 z55:=Tryz.sizeOf365
 v55:=Tryz.zeroValue365
 t66:=underlying382
 a66:=Tryz.isAgg382
 z66:=Tryz.sizeOf382
 v66:=Tryz.zeroValue382
 t70:=underlying386
 a70:=Tryz.isAgg386
 z70:=Tryz.sizeOf386
 v70:=Tryz.zeroValue386
 t76:=underlying400
 a76:=Tryz.isAgg400
 z76:=Tryz.sizeOf400
 v76:=Tryz.zeroValue400
 t77:=underlying401
 a77:=Tryz.isAgg401
 z77:=Tryz.sizeOf401
 v77:=Tryz.zeroValue401}
end
def lexB:List Int->List Int->Bool
 |x::xs,y::ys=>if x<y then true else if y<x then false else lexB xs ys
 |_,_=>false
def ltS(x y:List Int):Bool:=if x.length<y.length then true else if y.length<x.length then false else lexB x y
theorem abh:∀x,lexB x x=false
 |[]=>rfl
 |x::xs=>by simp[lexB,abh xs]
theorem acl:∀{x y z:List Int},lexB x y=true->lexB y z=true->lexB x z=true
 |[],_,_,h,_=>by simp[lexB]at h
 |_::_,[],_,h,_=>by simp[lexB]at h
 |_::_,_::_,[],_,h=>by simp[lexB]at h
 |x::xs,y::ys,z::zs,h1,h2=>by
  have Y:=acl (x:=xs) (y:=ys) (z:=zs);unfold lexB at h1 h2⊢
  by_cases a:x<y
  ·by_cases b:y<z
   ·rw[Lc om]
   ·rw[Lb b]at h2
    by_cases c:z<y
    ·rw[Lc c]at h2;cases h2
    ·rw[Lc om]
  ·rw[Lb a]at h1
   by_cases Z:y<x
   ·rw[Lc Z]at h1;cases h1
   ·rw[Lb Z]at h1
    by_cases b:y<z
    ·rw[Lc om]
    ·rw[Lb b]at h2
     by_cases c:z<y
     ·rw[Lc c]at h2;cases h2
     ·rw[Lb c]at h2;rw[Lb om,Lb om];exact Y h1 h2
theorem acg:∀{x y:List Int},x.length=y.length->lexB x y=false->lexB y x=false->x=y
 |[],[],_,_,_=>rfl
 |[],_::_,h,_,_=>by simp at h
 |_::_,[],h,_,_=>by simp at h
 |x::xs,y::ys,h,h1,h2=>by
  unfold lexB at h1 h2
  by_cases a:x<y
  ·rw[Lc a]at h1;cases h1
  ·by_cases b:y<x
   ·rw[Lc b]at h2;cases h2
   ·rw[Lb a,Lb b]at h1;rw[Lb b,Lb a]at h2;have e:x=y:=by omega
    rw[e,acg (by simpa using h) h1 h2]
theorem Ls(x:List Int):ltS x x=false:=by simp[ltS,abh]
theorem Nd{x y z:List Int}(h1:ltS x y=true)(h2:ltS y z=true):ltS x z=true:=by
 unfold ltS at h1 h2⊢
 by_cases a:x.length<y.length
 ·by_cases b:y.length<z.length
  ·rw[Lc om]
  ·rw[Lb b]at h2
   by_cases c:z.length<y.length
   ·rw[Lc c]at h2;cases h2
   ·rw[Lc om]
 ·rw[Lb a]at h1
  by_cases Z:y.length<x.length
  ·rw[Lc Z]at h1;cases h1
  ·rw[Lb Z]at h1
   by_cases b:y.length<z.length
   ·rw[Lc om]
   ·rw[Lb b]at h2
    by_cases c:z.length<y.length
    ·rw[Lc c]at h2;cases h2
    ·rw[Lb c]at h2;rw[Lb om,Lb om];exact acl h1 h2
theorem ajX{x y:List Int}(h:ltS x y=true):ltS y x=false:=by
 cases e:ltS y x with
 |false=>rfl
 |true=>have:=Nd h e;rw[Ls]at this;cases this
theorem Nf{x y:List Int}(h1:ltS x y=false)(h2:ltS y x=false):x=y:=by
 unfold ltS at h1 h2
 by_cases a:x.length<y.length
 ·rw[Lc a]at h1;cases h1
 ·by_cases b:y.length<x.length
  ·rw[Lc b]at h2;cases h2
  ·rw[Lb a,Lb b]at h1;rw[Lb b,Lb a]at h2;exact acg om h1 h2
theorem ag6{x y:List Int}(h:ltS x y=true):x.length<=y.length:=by
 unfold ltS at h
 by_cases a:x.length<y.length
 ·omega
 ·rw[Lb a]at h
  by_cases b:y.length<x.length
  ·rw[Lc b]at h;cases h
  ·omega
abbrev ED(l:La):Prop:=l.Pairwise (λa b=>ltS a b=true)
theorem ED.nodup{l:La}(h:ED l):l.Nodup:=by rw[List.nodup_iff_pairwise_ne];exact h.imp λZ e=>by rw[e,Ls]at Z;cases Z
theorem ac2:∀{l m:La},ED l->ED m->(∀x,x∈l↔x∈m)->l=m
 |[],[],_,_,_=>rfl
 |[],b::m,_,_,h=>by have:=(h b).2 sm;simp at this
 |a::l,[],_,_,h=>by have:=(h a).1 sm;simp at this
 |a::l,b::m,h1,h2,h=>by
  rw[ED,Jn]at h1 h2;have N:a=b:=by
   have ha:=(h a).1 sm;have U:=(h b).2 sm
   rcases CR.1 ha with e|ha
   ·exact e
   ·rcases CR.1 U with e|U
    ·exact e.symm
    ·have I:=h2.1 a ha;have J:=h1.1 b U;rw[ajX I]at J
     cases J
  subst N;have V:a ∉ l:=λZ=>by have:=h1.1 a Z;rw[Ls]at this;cases this
  have X:a ∉ m:=λZ=>by have:=h2.1 a Z;rw[Ls]at this;cases this
  congr 1;refine ac2 h1.2 h2.2 λx=>⟨λY=>?_,λY=>?_⟩
  ·rcases CR.1 ((h x).1 (by simp[Y]))with e|Z
   ·subst e;exact absurd Y V
   ·exact Z
  ·rcases CR.1 ((h x).2 (by simp[Y]))with e|Z
   ·subst e;exact absurd Y X
   ·exact Z
def Hy(l:La)(b:List Int):La:=
 match l with
 |[]=>[b]
 |x::xs=>if ltS x b then x::Hy xs b else if x=b then x::xs else b::x::xs
theorem adw:∀{l:La}{b x:List Int},x∈Hy l b↔x=b∨x∈l
 |[],b,x=>by simp[Hy]
 |y::ys,b,x=>by
  have Z:=adw (l:=ys) (b:=b) (x:=x);unfold Hy
  split
  ·rw[CR,Z,CR]
   constructor
   ·rintro(h|h|h)
    ·exact .inr (.inl h)
    ·exact .inl h
    ·exact .inr (.inr h)
   ·rintro(h|h|h)
    ·exact .inr (.inl h)
    ·exact .inl h
    ·exact .inr (.inr h)
  ·split
   ·rename_i e
    rw[CR]
    constructor
    ·rintro(h|h)
     ·exact .inl (h.trans e)
     ·exact .inr (.inr h)
    ·rintro(h|h|h)
     ·exact .inl (h.trans e.symm)
     ·exact .inl h
     ·exact .inr h
   ·rw[CR,CR]
theorem agh:∀{l:La}{b:List Int},ED l->ED (Hy l b)
 |[],b,_=>by simp[Hy]
 |y::ys,b,h=>by
  have X:=h;rw[ED,Jn]at X;have V:=agh (b:=b) X.2;unfold Hy
  split
  ·rename_i e
   rw[ED,Jn];refine⟨λx Z=>?_,V⟩
   rcases adw.1 Z with rfl|Z
   ·exact e
   ·exact X.1 x Z
  ·split
   ·exact h
   ·rename_i N U
    rw[ED,Jn];have Y:ltS b y=true:=by
     cases e:ltS b y with
     |true=>rfl
     |false=>exact absurd (Nf (by simpa using N) e) U
    refine⟨λx Z=>?_,h⟩
    rcases CR.1 Z with rfl|Z
    ·exact Y
    ·exact Nd Y (X.1 x Z)
def Ei(wss:La)(x:List Int):Prop:=x=[]∨∃w∈wss,∃k,1<=k/\k<=w.length/\x=w.take k
theorem Ei.iff{wss:La}{x:List Int}:Ei wss x↔x=[]∨x≠[]/\∃w∈wss,x <+: w:=by
 constructor
 ·rintro(h|⟨w,hw,k,h1,h2,rfl⟩)
  ·exact .inl h
  ·right
   refine⟨λe=>?_,w,hw,List.take_prefix _ _⟩;have:=congrArg List.length e;rw[Ag,Bw]at this;omega
 ·rintro(h|⟨h0,w,hw,h⟩)
  ·exact .inl h
  ·right
   obtain⟨t,rfl⟩:=h;refine⟨_,hw,x.length,?_,by simp,by simp⟩
   cases x with
   |nil=>exact absurd rfl h0
   |cons a b=>simp
theorem Ei.up{wss:La}{x:List Int}(h:Ei wss x):Ei wss x.dropLast:=by
 rw[Ei.iff]at h⊢
 rcases h with rfl|⟨h0,w,Z,Y⟩
 ·exact .inl rfl
 ·by_cases e:x.dropLast=[]
  ·exact .inl e
  ·exact .inr ⟨e,w,Z,(List.dropLast_prefix x).trans Y⟩
def putW(l:La)(w:List Int)(k:Nat):La:=(List.range k).foldl (λl j=>Hy l (w.take (j+1))) l
theorem adB(l:La)(w:List Int)(k:Nat):putW l w (k+1)=Hy (putW l w k) (w.take (k+1)):=by simp[putW,El,FI]
theorem agt{l:La}{w:List Int}(h:ED l):∀k,ED (putW l w k)
 |0=>by simpa[putW]using h
 |k+1=>by rw[adB];exact agh (agt h k)
theorem agn{l:La}{w x:List Int}:∀{k:Nat},x∈putW l w k↔x∈l∨∃j,1<=j/\j<=k/\x=w.take j
 |0=>by simp[putW];omega
 |k+1=>by
  rw[adB,adw,agn (k:=k)]
  constructor
  ·rintro(h|h|⟨j,h1,h2,h3⟩)
   ·exact .inr ⟨k+1,by omega,by omega,h⟩
   ·exact .inl h
   ·exact .inr ⟨j,h1,by omega,h3⟩
  ·rintro(h|⟨j,h1,h2,h3⟩)
   ·exact .inr (.inl h)
   ·by_cases e:j=k+1
    ·subst e;exact .inl h3
    ·exact .inr (.inr ⟨j,h1,by omega,h3⟩)
def AB(wss:La):La:=wss.foldl (λl w=>putW l w w.length) [[]]
theorem abb(wss:La)(w:List Int):AB (wss++[w])=putW (AB wss) w w.length:=by simp[AB,FI]
theorem CL(wss:La):ED (AB wss):=by refine IT (P:=λwss=>ED (AB wss)) (by simp[AB]) (λl x Z=>?_) wss;rw[abb];exact agt Z _
theorem DT{x:List Int}(wss:La):x∈AB wss↔Ei wss x:=by
 refine IT (P:=λwss=>x∈AB wss↔Ei wss x) (by simp[AB,Ei]) (λl w Y=>?_) wss;rw[abb,agn,Y];unfold Ei
 constructor
 ·rintro((h|⟨v,Z,r⟩)|⟨j,h1,h2,h3⟩)
  ·exact .inl h
  ·exact .inr ⟨v,by simp[Z],r⟩
  ·exact .inr ⟨w,by simp,j,h1,h2,h3⟩
 ·rintro(h|⟨v,Z,r⟩)
  ·exact .inl (.inl h)
  ·rcases Bf.1 Z with Z|Z
   ·exact .inl (.inr ⟨v,Z,r⟩)
   ·simp at Z;subst Z;exact .inr r
theorem adt{wss l:La}(h1:ED l)(h2:∀x,x∈l↔Ei wss x):l=AB wss:=ac2 h1 (CL wss) λx=>(h2 x).trans (DT wss).symm
theorem Lo(wss:La):AB wss≠[]:=λe=>by have:=(DT (x:=[]) wss).2 (.inl rfl);rw[e]at this;cases this
theorem CM(wss:La):(AB wss)[0]?=some []:=by
 have h1:=CL wss;have h2:=(DT (x:=[]) wss).2 (.inl rfl)
 revert h1 h2
 cases AB wss with
 |nil=>intro _ h;cases h
 |cons a l=>
  intro h1 h2;rw[ED,Jn]at h1
  rcases CR.1 h2 with e|h
  ·simp[e]
  ·have:=ag6 (h1.1 _ h);simp at this;simp[this]
def CW(l:La)(b:List Int):Int:=if b∈l then(l.idxOf b:Int) else -1
theorem CV{l:La}(Z:l.Nodup){i:Nat}{b:List Int}(h:l[i]?=some b):CW l b=i:=by have Y:=(AP.1 h).1;unfold CW;rw[Lc (AX h)];have:=List.Nodup.idxOf_getElem Z i Y;rw[(AP.1 h).2]at this;rw[this]
theorem abt{l:La}{b:List Int}(h:b ∉ l):CW l b=-1:=by unfold CW;rw[Lb h]
def DU(x:List Int):Int:=(x.getLast?).getD 0
structure Ay where
 up:List Int
 dep:List Int
 wrd:List Int
 byt:List Int
def AG(wss:La):Ay:=
 ⟨(AB wss).map λx=>CW (AB wss) x.dropLast,(AB wss).map λx=>(x.length:Int),(AB wss).map λx=>CW wss x,(AB wss).map DU⟩
section
open Go.RowKit Go.Sort Go.Shelf
def acL:Go.Shelf.Ren:=⟨fun|106=>186|213=>229|265=>267|n=>n,fun|3=>3|9=>9|n=>n,fun|n=>n⟩
theorem aot:Go.Proofs.Lays.n106 ZP acL:={
 mixed:=by kernel_rfl
 f106:=func186.trans (congrArg some kr)
 f213:=func229.trans (congrArg some kr)
 f265:=func267.trans (congrArg some kr)
 t3:=underlying3
 a3:=Tryz.isAgg3
 z3:=Tryz.sizeOf3
 v3:=Tryz.zeroValue3
 t9:=underlying9
 a9:=Tryz.isAgg9
 z9:=Tryz.sizeOf9
 v9:=Tryz.zeroValue9}
theorem akP(a b:ByteArray)(w:World):Calls ZP 186 #[.string a,.string b] w λe w'=>e=.returned (int i64 (Lib.compareBytes a.data.toList b.data.toList))/\w=w':=(Any.strings_Compare (P:=ZP) (ρ:=acL) aot a b w).mono λe w' ⟨h1,h2⟩=>⟨h1,h2.symm⟩
abbrev Byt:=List UInt8
def Bh(l:Byt):ByteArray:=⟨l.toArray⟩
abbrev Ca(l:Byt):Value:=.string (Bh l)
def toI(l:Byt):List Int:=l.map λb=>(b.toNat:Int)
theorem Ml(l:Byt):(toI l).length=l.length:=by simp[toI]
theorem LS:∀{x y:Byt},toI x=toI y->x=y
 |[],[],_=>rfl
 |[],_::_,h=>by simp[toI]at h
 |_::_,[],h=>by simp[toI]at h
 |a::x,b::y,h=>by simp only[toI,BO,MY]at h;have h1:a=b:=UInt8.toNat_inj.1 om;rw[h1,LS h.2]
def cfS(a b:Byt):Int:=orL [DK a.length b.length,Lib.compareBytes a b]
theorem abT:∀{x y:Byt},x.length=y.length->(decide (Lib.compareBytes x y<0)=lexB (toI x) (toI y))
 |[],[],_=>rfl
 |[],_::_,h=>by simp at h
 |_::_,[],h=>by simp at h
 |a::x,b::y,h=>by
  have X:=abT (x:=x) (y:=y) (by simpa using h);have U:(a<b)=((a.toNat:Int)<b.toNat):=by rw[UInt8.lt_iff_toNat_lt];exact propext om
  have V:(b<a)=((b.toNat:Int)<a.toNat):=by rw[UInt8.lt_iff_toNat_lt];exact propext om
  have h1:toI (a::x)=(a.toNat:Int)::toI x:=rfl;have h2:toI (b::y)=(b.toNat:Int)::toI y:=rfl;rw[h1,h2];unfold Lib.compareBytes lexB;simp only[U,V]
  by_cases Z:(a.toNat:Int)<b.toNat
  ·simp[Z]
  ·by_cases Y:(b.toNat:Int)<a.toNat
   ·simp[Z,Y]
   ·rw[Lb Z,Lb Y,Lb Z,Lb Y];exact X
theorem Lt(x y:Byt):ltOf cfS x y=ltS (toI x) (toI y):=by
 unfold ltOf cfS ltS;rw[Ml,Ml]
 by_cases h1:x.length<y.length
 ·rw[Lc h1];have:DK (x.length:Int) (y.length:Int)=-1:=by unfold DK;rw[Lc om]
  simp[orL,this]
 ·rw[Lb h1]
  by_cases h2:y.length<x.length
  ·rw[Lc h2];have:DK (x.length:Int) (y.length:Int)=1:=by unfold DK;rw[Lb om,Lc om]
   simp[orL,this]
  ·rw[Lb h2,<-abT om];have:DK (x.length:Int) (y.length:Int)=0:=by unfold DK;rw[Lb om,Lb om]
   rw[this]
   by_cases e:Lib.compareBytes x y=0
   ·simp[orL,e]
   ·simp[orL,e]
theorem Ns:SWO (ltOf cfS) where
 irrefl x:=by rw[Lt,Ls]
 trans x y z h1 h2:=by rw[Lt]at h1 h2⊢;exact Nd h1 h2
 ntrans x y z h1 h2:=by
  rw[Lt]at h1 h2⊢
  cases e:ltS (toI x) (toI z)with
  |false=>rfl
  |true=>
   exfalso
   cases Z:ltS (toI y) (toI x)with
   |true=>rw[Nd Z e]at h2;cases h2
   |false=>rw[Nf h1 Z]at e;rw[e]at h2;cases h2
theorem ajS(x y:Byt)(h1:ltOf cfS x y=false)(h2:ltOf cfS y x=false):x=y:=by rw[Lt]at h1 h2;exact LS (Nf h1 h2)
theorem ahr(a b:Byt)(w:World) :Calls ZP 183 #[Ca a,Ca b] w λe w'=>e=.returned (int i64 (cfS a b))/\∃q os,w'=grow (w.drewN q) os:=by
 have H:Hid (cfS a b=orL [DK a.length b.length,Lib.compareBytes a b]):=rfl;have Y:(Bh a).size=a.length:=by simp[Bh,ByteArray.size]
 have Z:(Bh b).size=b.length:=by simp[Bh,ByteArray.size]
 have U:=akP (Bh a) (Bh b);have J:(Bh a).data.toList=a:=by simp[Bh]
 have N:(Bh b).data.toList=b:=by simp[Bh]
 rw[J,N]at U;obtain⟨y,V⟩:∃s,Bh a=s:=⟨_,rfl⟩;obtain⟨z,X⟩:∃s,Bh b=s:=⟨_,rfl⟩;unfold Ca;rw[V]at Y U⊢;rw[X]at Z U⊢;have D:=AA U;have B:=AA Y;have C:=AA Z;clear U Y Z J N V X;go_enter func183,ntmps183
 go_wp2_with fail
 refine(afN _ _ _).mono ?_;rintro e I ⟨rfl,rfl⟩
 go_wp2_with fail
 refine(D.out _).mono ?_;rintro e I ⟨rfl,rfl⟩
 go_wp2_with fail
 rw[B.out,C.out];refine(aoO _ _ _ [DK a.length b.length,Lib.compareBytes a b] _ (Sl1.lay _ _ [DK a.length b.length,Lib.compareBytes a b] _ _ sm) sm).mono ?_;rintro e A ⟨rfl,rfl⟩;go_wp2;go_ret;exact⟨by rw[H.out];rfl,0,#[_],rfl⟩
end
end Go.Proofs.YtaamacoicojhnaaGreat
