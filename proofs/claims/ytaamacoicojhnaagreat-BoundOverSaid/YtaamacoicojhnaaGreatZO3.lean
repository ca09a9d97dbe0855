/- Proofs over the given program, part 3. -/
import Derived.Test.YtaamacoicojhnaaGreatZO2
set_option linter.unusedVariables false
set_option linter.unusedSimpArgs false
set_option maxRecDepth 100000
set_option maxHeartbeats 16000000
open Go.Proofs.Tryz
open Go.Proofs.Tryz renaming prog→ZP
open Go.World(cell? frozen?)
open Go.Value(int slice pointer bool)
open Go.IntKind(i64)
namespace Go.Proofs.YtaamacoicojhnaaGreat
open Go.RowKit Go.Sort
abbrev AM(fold:Bool)(a:Option Addr)(Z Y:Nat):Array Value:=#[bool fold,slice a Z Y]
theorem ahu(fold:Bool)(a b:Option Addr)(H B Z Y:Nat)(xs:List Int)(wss:Lq)(w:World)(v:Bys w a H xs)(hB:Wds w b Z wss)(V:Z<=1000000)(A:∀x∈wss,x.length<=1000000) :Calls ZP 224 #[.agg (AM fold b Z Y),slice a H B] w λe w'=>e=.returned (.tuple #[int i64 (if BV fold xs wss<0 then 0 else BV fold xs wss),bool (decide (0<=BV fold xs wss))])/\Br w w':=by
 have C:=ajV fold xs wss;have I:=v.below ((AH _ _).alloc (AC _) (.cells (AM fold b Z Y) 24));have J:=hB.below ((AH _ _).alloc (AC _) (.cells (AM fold b Z Y) 24));obtain⟨n,D⟩:∃n,BV fold xs wss=n:=⟨_,rfl⟩;have y:Hid (BV fold xs wss=n):=D;rw[D]at C⊢;clear D;have N:∀X,Below (w.alloc (.cells (AM fold b Z Y) 24)).heap.size (w.alloc (.cells (AM fold b Z Y) 24)) X->Br w X:=λX U=>((AH _ _).alloc (AC _) _).trans (U.mono sm)
 by_cases h:n<0
 ·rw[Vb h,decide_eq_false om];go_enter func224,ntmps224
  go_wp2_with fail
  refine(aeb fold a b H B Z Y xs wss _ I J V A).mono ?_;rintro e X ⟨rfl,U⟩;rw[y.out];go_wp2;go_ret2;exact⟨rfl,N _ U⟩
 ·rw[Va h,Ve om];go_enter func224,ntmps224
  go_wp2_with fail
  refine(aeb fold a b H B Z Y xs wss _ I J V A).mono ?_;rintro e X ⟨rfl,U⟩;rw[y.out];go_wp2;go_ret2;exact⟨rfl,N _ U⟩
theorem aky(a b:Option Addr)(Y U Z V:Nat)(xs ys:List Int)(w:World)(X:Bys w a Y xs)(hB:Bys w b Z ys) :Calls ZP 225 #[slice a Y U,slice b Z V] w λe w'=>e=.returned (bool (decide (xs=ys)))/\w=w':=by have c1:=Gh X;have c2:=Gh hB;go_enter func225,ntmps225;go_wp2;go_ret;refine⟨?_,rfl⟩;show Ending.returned (bool ((strOfNums xs).toList==(strOfNums ys).toList))=_;rw[Ms X.2 hB.2]
def DH(f g:Bool)(wss Z:Lq):Bool:=f==g&&decide (wss=Z)
theorem Mz{f g:Bool}{wss Z:Lq}(h:f≠g∨wss.length≠Z.length):DH f g wss Z=false:=by
 rcases h with h|h
 ·cases f<;>cases g<;>simp_all [DH]
 ·have:wss≠Z:=λe=>h (by rw[e]);simp[DH,this]
theorem ajv(f g:Bool)(a b:Option Addr)(X ca N cb:Nat)(wss Z:Lq)(w:World)(A:Wds w a X wss)(hB:Wds w b N Z)(a7:X<=1000000) :Calls ZP 181 #[.agg (AM f a X ca),.agg (AM g b N cb)] w λe w'=>e=.returned (bool (DH f g wss Z))/\Br w w':=by
 have Y:Br w ((w.alloc (.cells (AM f a X ca) 24)).alloc (.cells (AM g b N cb) 24)):=((AH _ _).alloc (AC _) _).alloc sm _;have HA:=AA A.len;have HB:=AA hB.len
 by_cases U:f=g
 ·subst U
  by_cases hl:X=N
  ·subst hl;have B:=A.below Y;have C:=hB.below Y;clear A hB;go_enter func181,ntmps181;go_wp2
   go_loop[24] (λi=>∃k:Nat,k<=X/\i=int i64 k/\Hid (wss.take k=Z.take k)) (λi=>X-(intOf i).toNat)
   case atStart=>exact⟨0,AR _,rfl,by simp[Hid]⟩
   case round=>
    obtain⟨k,hk,rfl,HK⟩:=hrel
    by_cases J:k<X
    ·obtain⟨bb,off,a',l,c,x,rfl,a8,D,o,hX,a6⟩:=B.at_ J;obtain⟨aa,v,a2,l2,c2,y,rfl,a1,I,s,hY,j⟩:=C.at_ J
     go_wp2_with fail
     refine(aky a' a2 l c l2 c2 x y _ hX hY).mono ?_;rintro e w1 ⟨rfl,rfl⟩;have HX:=AA o;have HY:=AA s;clear o s
     by_cases h:x=y
     ·rw[Ve h];have V:Hid (wss.take (k+1)=Z.take (k+1)):=by rw[As HX.out,As HY.out,HK.out,h];rfl
      clear h;go_wp2
      go_round
      case rel=>exact⟨k+1,by omega,by go_num,V⟩
      case measure=>simp[intOf];omega
     ·rw[decide_eq_false h];have V:Hid (DH f f wss Z=false):=by
       have:wss≠Z:=λe=>by have h1:=HX.out;rw[e,HY.out]at h1;exact h (AK h1).symm
       simp[Hid,DH,this]
      clear h;go_wp2;go_ret;exact⟨by rw[V.out];rfl,Y⟩
    ·obtain rfl:k=X:=by omega
     have V:Hid (DH f f wss Z=true):=by have h:=HK.out;rw[Ap (by rw[HA.out];exact AC _),Ap (by rw[HB.out];exact AC _)]at h;simp[Hid,DH,h]
     go_wp2;go_ret;exact⟨by rw[V.out];rfl,Y⟩
  ·have V:Hid (DH f f wss Z=false):=Mz (.inr (by rw[HA.out,HB.out];exact hl));have H:((X:Int) != (N:Int))=true:=by simp;omega
   go_enter func181,ntmps181;go_wp2
   all_goals
    go_ret;exact⟨by rw[V.out];rfl,Y⟩
 ·have V:Hid (DH f g wss Z=false):=Mz (.inl U);have H:(f != g)=true:=by simp[U]
  go_enter func181,ntmps181;go_wp2
  all_goals
   go_ret;exact⟨by rw[V.out];rfl,Y⟩
theorem Gz{w:World}{B size n g:Nat}{e t:TypeId}{v:Value}{xs:List Value}{cs:Array Value}{U:Nat×Nat}(h:w.ownsRow B e size v n xs)(Z:w.heap[g]?=some (.cells cs t U))(Y:t≠e):v.ownBlock≠some g:=by
 intro X;obtain⟨c,f,V⟩:=Lib.ownsRow_kind h g X;rw[V]at Z
 injection Z with Z
 injection Z with _ ht
 exact Y ht.symm
theorem DJ{w w':World}{B size n:Nat}{e:TypeId}{v:Value}{xs:List Value}(h:w.ownsRow B e size v n xs)(Z:Br w w'):w'.ownsRow B e size v n xs:=h.kept (row:=none) (Km Z) (by cases v.ownBlock<;>simp)
def BI(w:World)(base:Nat)(v:Value)(wss:Lq):Prop:=
 ∃es:List Value,w.ownsRow base 32 1 v wss.length es/\es.length=wss.length/\∀(i:Nat)(e:Value)(xs:List Int),es[i]?=some e->wss[i]?=some xs->Ch w base e xs.length xs/\∀x∈xs,0<=x/\x<=255
theorem BI.nil(w:World)(base:Nat):BI w base (slice none 0 0) []:=⟨[],BN _ _ _ _,rfl,λi e xs h=>by simp at h⟩
theorem BI.below{w w':World}{base:Nat}{v:Value}{wss:Lq}(h:BI w base v wss)(X:Br w w'):BI w' base v wss:=by obtain⟨es,h1,h2,h3⟩:=h;exact⟨es,DJ h1 X,h2,λi e xs Y Z=>⟨DJ (h3 i e xs Y Z).1 X,(h3 i e xs Y Z).2⟩⟩
theorem BI.turned{w w':World}{base g:Nat}{v:Value}{wss:Lq}{cs:Array Value}{t:TypeId}{J:Nat×Nat}(h:BI w base v wss)(U:w.grownBy w' (some g))(V:w.heap[g]?=some (.cells cs t J))(h1:t≠32)(h2:t≠5):BI w' base v wss:=by obtain⟨es,N,e2,X⟩:=h;exact⟨es,N.kept U (.inr (Gz N V h1)),e2,λi e xs Y Z=>⟨(X i e xs Y Z).1.kept U (.inr (Gz (X i e xs Y Z).1 V h2)),(X i e xs Y Z).2⟩⟩
theorem BI.wds{w:World}{base:Nat}{v:Value}{wss:Lq}(h:BI w base v wss):∃a c,v=slice a wss.length c/\wss.length<=c/\Wds w a wss.length wss:=by
 obtain⟨es,h1,h2,h3⟩:=h;have I:∀(i:Nat)(e:Value),es[i]?=some e->∃a l c xs,e=slice a l c/\wss[i]?=some xs/\Bys w a l xs/\l<=c:=by intro i e Z;have B:=(AP.1 Z).1;obtain⟨xs,U⟩:∃xs,wss[i]?=some xs:=⟨wss[i]'om,by simp⟩;obtain⟨ho,C⟩:=h3 i e xs Z U;obtain⟨a,c,J,N,hB⟩:=KL ho C;exact⟨a,_,c,xs,J,U,hB,N⟩
 let f:Value->Option Addr×Nat×Nat:=λe=>match e with|slice a l c=>(a,l,c)|_=>(none,0,0)
 have V:(es.map f).map (λv=>slice v.1 v.2.1 v.2.2)=es:=by
  apply Hn
  intro i;rw[List.map_map,BU]
  cases Z:es[i]? with
  |none=>rfl
  |some e=>
   obtain⟨a,l,c,xs,rfl,_⟩:=I i e Z
   rfl
 obtain⟨a,c,J,N,H⟩:=Co (enc:=λv:Option Addr×Nat×Nat=>slice v.1 v.2.1 v.2.2) (xs:=es.map f) (by rw[V];exact h1);refine⟨a,c,J,N,es.map f,H,by rw[BP,h2],λi v xs X U=>?_⟩;rw[BU,Fo]at X;obtain⟨e,Z,rfl⟩:=X;obtain⟨y,l,A,xs',rfl,Y,hB,D⟩:=I i e Z;rw[U]at Y;obtain rfl:=AK Y;exact⟨hB,D⟩
theorem BI.step{W w':World}{base:Nat}{v v' e:Value}{wss:Lq}{xs:List Int}{es:List Value}(h1:W.ownsRow base 32 1 v wss.length es)(h2:es.length=wss.length)
  (h3:∀(i:Nat)(e:Value)(xs:List Int),es[i]?=some e->wss[i]?=some xs->Ch W base e xs.length xs/\∀x∈xs,0<=x/\x<=255)
  (I:Ch W base e xs.length xs) (H:∀x∈xs,0<=x/\x<=255) (X:w'.ownsRow base 32 1 v' (wss.length+1) (es++[e])) (J:W.grownBy w' v.ownBlock):BI w' base v' (wss++[xs]):=by
 have V:∀{e:Value}{n:Nat}{xs:List Int},Ch W base e n xs->e.ownBlock=none∨e.ownBlock≠v.ownBlock:=by
  intro e n xs ho
  cases D:v.ownBlock with
  |none=>cases e.ownBlock<;>simp
  |some g=>
   right
   obtain⟨c,y,C⟩:=Lib.ownsRow_kind h1 g D;exact Gz ho C (Vc kr)
 refine⟨es++[e],by rw[List.length_append];exact X,by simp[h2],λi A ys Z Y=>?_⟩;rw[List.getElem?_append]at Z Y
 by_cases N:i<es.length
 ·rw[Vb N]at Z;rw[Vb om]at Y;obtain⟨ho,B⟩:=h3 i A ys Z Y;exact⟨ho.kept J (V ho),B⟩
 ·rw[Va N]at Z;rw[Va om]at Y;have U:i-es.length=0:=by
   have:=(AP.1 Z).1;simp at this;omega
  rw[U]at Z;rw[show i-wss.length=0 by omega]at Y;simp at Z Y;subst Z Y;exact⟨I.kept J (V I),H⟩
def GK(fold:Bool)(Z:Lq)(x:List Int):Lq:=if BV fold x Z<0 then Z++[AO fold x] else Z
def AZ(fold:Bool)(wss:Lq):Lq:=wss.foldl (GK fold) []
theorem Ka(fold:Bool)(l:Lq)(x:List Int):AZ fold (l++[x])=GK fold (AZ fold l) x:=by simp[AZ,FI]
theorem Nb(fold:Bool)(l:Lq):(AZ fold l).length<=l.length:=by
 obtain⟨n,Y⟩:∃n,l.length=n:=⟨_,rfl⟩
 induction n generalizing l with
 |zero=>obtain rfl:=Bz Y;simp[AZ]
 |succ n ih=>
  obtain⟨Z,x,rfl⟩:∃Z x,l=Z++[x]:=⟨l.dropLast,l.getLast (by intro h;simp[h]at Y),(Em _).symm⟩;have:=ih Z (by simpa using Y);rw[Ka];unfold GK
  split<;>simp<;>omega
theorem aei{fold:Bool}{M:Nat}(l:Lq)(h:∀x∈l,x.length<=M):∀x∈AZ fold l,x.length<=M:=by
 obtain⟨n,V⟩:∃n,l.length=n:=⟨_,rfl⟩
 induction n generalizing l with
 |zero=>obtain rfl:=Bz V;simp[AZ]
 |succ n ih=>
  obtain⟨X,x,rfl⟩:∃X x,l=X++[x]:=⟨l.dropLast,l.getLast (by intro h;simp[h]at V),(Em _).symm⟩;have Y:=ih X (λy Z=>h y (by simp[Z])) (by simpa using V);rw[Ka];unfold GK
  split
  ·intro y Z
   rcases Bf.1 Z with Z|Z
   ·exact Y y Z
   ·simp at Z;rw[Z,Ew];exact h x sm
  ·exact Y
theorem NH{fn:Func}{p u:Tmp}{tmps:Array Value}{W:World}{B:Nat}{x y:Value}(h:fn.results=#[.cell p 24,.tmp u])(Z:tmps.getD p undef=pointer (some ⟨B,0,none⟩))(hB:W.heap[B]?=some (.cells #[x,y] 24 (0,0))) :(results fn tmps).run ZP W=.ok (.tuple #[.agg #[x,y],tmps.getD u undef]) W:=by have Y:(loadVar 24 ⟨B,0,none⟩).run ZP W=.ok (.agg #[x,y]) W:=run_loadVar_row W B 24 24 #[x,y] (0,0) _ hB underlying24 rfl kr;rw[results_cell_tmp h,Z];simp[asAddr,Y,Result.andThen]
theorem anQ(fold:Bool)(a:Option Addr)(X D:Nat)(wss:Lq)(w:World)(y:Wds w a X wss)(N:X<=1000000)(A:∀x∈wss,x.length<=1000000)(B:(Ad fold wss).length<=1000000)(C:Ey fold wss≠0) :Calls ZP 180 #[bool fold,slice a X D] w λe w'=>e=.returned (.tuple #[.agg (AM false none 0 0),int i64 (Ey fold wss)])/\Br w w':=by
 have I:=y.below ((AH _ _).alloc (AC _) (.cells (AM false none 0 0) 24));obtain⟨n,U⟩:∃n,Ey fold wss=n:=⟨_,rfl⟩;have v:Hid (Ey fold wss=n):=U;rw[U]at C⊢;clear U;go_enter func180,ntmps180
 go_wp2_with fail
 refine(ae7 fold a X D wss _ I N A B).mono ?_;rintro e Z ⟨rfl,H⟩;rw[v.out];have Y:Z.heap[w.heap.size]?=some (.cells (AM false none 0 0) 24 (0,0)):=(H.block _ sm).trans (AT _ _);have J:Br w Z:=((AH _ _).alloc (AC _) _).trans (H.mono sm);have z0:Z.cell? ⟨w.heap.size,0,none⟩=some (bool false):=by simp[cell?,Y]
 have s:Z.cell? ⟨w.heap.size,1,none⟩=some (slice none 0 0):=by simp[cell?,Y]
 have j:Z.frozen? ⟨w.heap.size,0,none⟩=false:=by simp[frozen?,Y]
 have o:Z.frozen? ⟨w.heap.size,1,none⟩=false:=by simp[frozen?,Y]
 go_wp2;have V:=AJ (i:=1) (AJ (i:=0) Y (bool false)) (slice none 0 0);refine Vl (NH rfl rfl (by simpa using V)) rfl ?_;exact⟨rfl,(J.setCell (AC _) _).setCell (AC _) _⟩
theorem agG(fold:Bool)(a:Option Addr)(Y N:Nat)(xs:List Int)(w:World)(U:Bys w a Y xs)(V:Y<=1000000) :Calls ZP 134 #[bool fold,slice a Y N] w λe w'=>∃X c1,e=.returned (slice X Y c1)/\Ch w' w.heap.size (slice X Y c1) Y (AO fold xs)/\Br w w':=
 (ai8 fold a Y N xs w U V).mono λe w' ⟨v,J,Z,I⟩=>by obtain⟨X,c1,rfl,_,h⟩:=KL Z (MD U.2);exact⟨X,c1,J,Z,I⟩
theorem abR{w:World}{b b' n:Nat}{v:Value}{xs:List Int}(h:Ch w b v n xs)(Z:b'<=b):Ch w b' v n xs:=Go.Joins.ownsRow_le h Z
theorem OT:(ZP.info? 32).map (λi=>(i.zero,i.size,i.bytes))=some (some (slice none 0 0),1,24):=by kernel_rfl
theorem alL(fold:Bool)(a:Option Addr)(la ca:Nat)(wss:Lq)(w:World)(hA:Wds w a la wss)(ap:la<=1000000)(hM:∀x∈wss,x.length<=1000000)(hT:(Ad fold wss).length<=1000000)(hc:Ey fold wss=0) :Calls ZP 180 #[bool fold,slice a la ca] w λe w'=>∃v,e=.returned (.tuple #[.agg #[bool fold,v],int i64 0])/\BI w' w.heap.size v (AZ fold wss)/\Br w w':=by
  have aE:=hA.below ((AH _ _).alloc (AC _) (.cells (AM false none 0 0) 24));have HN:Hid (Ey fold wss=0):=hc;have HL:=AA hA.len;clear hc;go_enter func180,ntmps180
  go_wp2_with fail
  refine(ae7 fold a la ca wss _ aE ap hM hT).mono ?_;rintro e Z ⟨rfl,hb⟩;rw[HN.out];have hz:Z.heap[w.heap.size]?=some (.cells (AM false none 0 0) 24 (0,0)):=(hb.block _ sm).trans (AT _ _);have aD:Br w Z:=((AH _ _).alloc (AC _) _).trans (hb.mono sm);have ag:w.heap.size<Z.heap.size:=(AD.1 hz).1;go_wp2
  go_loopw[23] (λi wr=>∃(k:Nat)(v:Value),k<=la/\i=int i64 k/\Br w wr/\wr.heap[w.heap.size]?=some (.cells (AM false none 0 0) 24 (0,0))/\wr.heap[Z.heap.size]?=some (.cells #[bool fold,v] 24 (0,0))/\BI wr w.heap.size v (AZ fold (wss.take k))) (λi _=>la-(intOf i).toNat)
  case atStart=>exact⟨0,slice none 0 0,AR _,rfl,aD.alloc om _,(Bg _ _ _ ag).trans hz,AT _ _,by simpa[AZ]using BI.nil _ _⟩
  case round=>
    obtain⟨k,v,hk,rfl,a6,Y,N,V⟩:=hrel
    by_cases ao:k<la
    ·
      obtain⟨bb,off,a',l,c,x,rfl,aK,ab,hx,hX,aI⟩:=(hA.below a6).at_ ao;have ak:l<=1000000:=by have:=Ff hM hx;rw[hX.len]at this;exact this
      obtain⟨H,I,rfl,ay,hW⟩:=V.wds;have s0:wr.cell? ⟨Z.heap.size,0,none⟩=some (bool fold):=by simp[cell?,N]
      have s1:wr.cell? ⟨Z.heap.size,1,none⟩=some (slice H (AZ fold (wss.take k)).length I):=by simp[cell?,N]
      have af:(AZ fold (wss.take k)).length<=1000000:=by have:=Nb fold (wss.take k);have:=MU k wss;omega
      have HX:=AA hx;clear hx
      go_wp2_with fail
      refine(ahu fold a' H l c _ I x (AZ fold (wss.take k)) wr hX hW af (aei _ (λy hy=>hM y (EG hy)))).mono ?_;rintro e U ⟨rfl,s⟩;have a7:Br w U:=a6.trans (s.mono a6.size);have C:U.heap[w.heap.size]?=_:=(s.block _ (AD.1 Y).1).trans Y;have B:U.heap[Z.heap.size]?=_:=(s.block _ (AD.1 N).1).trans N;have A:=V.below s;clear V hW N Y s0 s1 ab;have HM:Hid (AZ fold (wss.take (k+1))=GK fold (AZ fold (wss.take k)) x):=by rw[As HX.out,Ka];rfl
      obtain⟨q,hq⟩:∃q,BV fold x (AZ fold (wss.take k))=q:=⟨_,rfl⟩;have HQ:Hid (BV fold x (AZ fold (wss.take k))=q):=hq;rw[hq];clear hq
      by_cases ae:0<=q
      ·
        rw[Va om,Ve ae];have HF:Hid (AZ fold (wss.take (k+1))=AZ fold (wss.take k)):=by
          rw[HM.out];unfold GK;rw[HQ.out,Va om]
          rfl
        go_wp2
        go_roundw
        case rel=>exact⟨k+1,_,by omega,by go_num,a7,C,B,by rw[HF.out];exact A⟩
        case measure=>simp[intOf];omega
      ·
        rw[Vb om,decide_eq_false ae];have HF:Hid (AZ fold (wss.take (k+1))=AZ fold (wss.take k)++[AO fold x]):=by
          rw[HM.out];unfold GK;rw[HQ.out,Vb om]
          rfl
        obtain⟨i0,hi,aw,au,ar⟩:=Vk OT;have s1:U.cell? ⟨Z.heap.size,1,none⟩=some (slice H (AZ fold (wss.take k)).length I):=by simp[cell?,B]
        obtain⟨es,e1,e2,e3⟩:=A;have aB:∀n,Bys (U.drewN n) a' l x:=λn=>(hX.below s).below ⟨rfl,rfl,rfl,AC _,λ_ _=>rfl⟩;have hd:∀n,Br U (U.drewN n):=λn=>⟨rfl,rfl,rfl,AC _,λ_ _=>rfl⟩;obtain⟨m,hm⟩:∃m,(AZ fold (wss.take k)).length=m:=⟨_,rfl⟩;rw[hm]at s1 B e1 e2 af⊢;have ac:=AA hm;clear hm;go_wp2;have aA:Bys U.drew a' l x:=aB 1;have ax:Br U U.drew:=hd 1
        go_region_law (first
          | (go_simp;go_at_call 134;refine (agG fold a' l c x U.drew aA ak).mono ?_;rintro e w3 ⟨a3,c3,rfl,a8,az⟩
             have o:Br U w3:=ax.trans az;have a1:=DJ e1 o;have D:w3.heap[Z.heap.size]?=some (.cells #[bool fold,slice H m I] 24 (0,0)):=(o.block _ (AD.1 B).1).trans B;have ai:w3.cell? ⟨Z.heap.size,1,none⟩=some (slice H m I):=by simp[cell?,D]
             have aq:Z.heap.size<w3.heap.size:=(AD.1 D).1;have aG:Z.heap.size≠w3.heap.size:=by omega
             have aF:w3.heap.size≠Z.heap.size:=by omega
             have aH:(w3.alloc (.cells #[slice a3 l c3] 32)).cell? ⟨Z.heap.size,1,none⟩=some (slice H m I):=by rw[OH _ _ _ aq];exact ai
             have am:=Gz a1 D (Vc kr);have J:Br w w3:=a7.trans (o.mono a7.size);dsimp only)
          | (refine step_append_lies _ (by rfl) _ _ 22 (by rfl) w.heap.size 32 i0 (.slice none 0 0) 1 24 underlying22 hi aw au ar rfl (by decide) (.slice H m I) m es (by rfl) (a1.alloc _) ⟨w3.heap.size,0,none⟩ 1 1 [.slice a3 l c3] (by rfl) rfl (cell_one_new _ _ _) (by simp [Value.oneCell']) (by decide) (by unfold maxLen;omega) om (by have:=J.size;simp;omega) _ rfl ?_
             intro g5 c5 w5 aa X aL aJ;have a2:w5.heap[Z.heap.size]?=some (.cells #[bool fold,slice H m I] 24 (0,0)):=(X.block _ (by simp;have:=(AD.1 D).1;omega) (Ne.symm am)).trans ((Bg _ _ _ (AD.1 D).1).trans D);have q0:w5.cell? ⟨Z.heap.size,1,none⟩=some (slice H m I):=by simp[cell?,a2]
             have q1:w5.frozen? ⟨Z.heap.size,1,none⟩=false:=by simp[frozen?,a2]))
        all_goals
          go_wp2;have aC:Br w w5:=(J.alloc (by have:=J.size;omega) _).grown X (by simp;have:=J.size;omega) (λj hj=>(a1.lt j hj).1);have aj:w5.heap[w.heap.size]?=some (.cells (AM false none 0 0) 24 (0,0)):=by have h3:w3.heap[w.heap.size]?=_:=(o.block _ (AD.1 C).1).trans C;exact(X.block _ (by simp;have:=(AD.1 h3).1;omega) (Ne.symm (Gz a1 h3 (Vc kr)))).trans ((Bg _ _ _ (AD.1 h3).1).trans h3)
          go_roundw
          case rel=>
            refine⟨k+1,_,by omega,by go_num,aC.setCell (by show w.heap.size<=Z.heap.size;omega) _,(AQ w5 ⟨Z.heap.size,1,none⟩ _ _ (by simp;omega)).trans aj,by simpa using AJ (i:=1) a2 (.slice (some ⟨g5,0,none⟩) (m+1) c5),?_⟩;rw [HF.out];have al:=BI.step (wss:=AZ fold (wss.take k)) (xs:=AO fold x) (e:=.slice a3 l c3) (es:=es) (v:=.slice H m I) (by rw [ac.out];exact a1.alloc _) (by rw [ac.out];exact e2)
              (λi e xs he hx=>⟨DJ (DJ (e3 i e xs he hx).1 o) ((AH _ _).alloc (AC _) _),(e3 i e xs he hx).2⟩) (by rw[Ew,hX.len];exact(abR (a8.alloc _) (by have:=a7.size;simpa using this))) (MD hX.2) (by rw[ac.out];exact aa) X
            exact al.turned (BH w5 Z.heap.size 1 _) a2 (Vc kr) (Vc kr)
          case measure=>simp[intOf];omega
    ·
      obtain rfl:k=la:=by omega
      have HF:Hid (wss.take k=wss):=Ap (by have:=HL.out;omega);have s0:wr.cell? ⟨Z.heap.size,0,none⟩=some (bool fold):=by simp[cell?,N]
      obtain⟨H,I,rfl,ay,hW⟩:=V.wds;have s1:wr.cell? ⟨Z.heap.size,1,none⟩=some (slice H (AZ fold (wss.take k)).length I):=by simp[cell?,N]
      have z0:wr.cell? ⟨w.heap.size,0,none⟩=some (bool false):=by simp[cell?,Y]
      have z1:wr.cell? ⟨w.heap.size,1,none⟩=some (slice none 0 0):=by simp[cell?,Y]
      have y0:wr.frozen? ⟨w.heap.size,0,none⟩=false:=by simp[frozen?,Y]
      have y1:wr.frozen? ⟨w.heap.size,1,none⟩=false:=by simp[frozen?,Y]
      go_wp2;have C:=AJ (i:=1) (AJ (i:=0) Y (bool fold)) (slice H (AZ fold (wss.take k)).length I);refine Vl (NH rfl rfl (by simpa using C)) rfl ?_;refine⟨_,rfl,?_,(a6.setCell (AC _) _).setCell (AC _) _⟩;have ho:=(V.turned (BH wr w.heap.size 0 (bool fold)) Y (Vc kr) (Vc kr)).turned (BH _ w.heap.size 1 (slice H (AZ fold (wss.take k)).length I)) (AJ (i:=0) Y (bool fold)) (Vc kr) (Vc kr);rw[HF.out]at ho⊢;exact ho
def An(fold:Bool)(wss:Lq):Bool:=decide (Ey fold wss=0)&&decide (AZ fold wss=wss)
theorem aaM(fold:Bool)(a:Option Addr)(X J:Nat)(wss:Lq)(w:World)(hA:Wds w a X wss)(C:X<=1000000)(hM:∀x∈wss,x.length<=1000000)(hT:(Ad fold wss).length<=1000000) :Calls ZP 130 #[.agg (AM fold a X J)] w λe w'=>e=.returned (bool (An fold wss))/\Br w w':=by
 have N:Br w (w.alloc (.cells (AM fold a X J) 24)):=(AH _ _).alloc (AC _) _;have B:=hA.below N;have H:=AT w (.cells (AM fold a X J) 24)
 by_cases V:Ey fold wss=0
 ·have HR:Hid (An fold wss=DH fold fold (AZ fold wss) wss):=by simp[Hid,An,DH,V]
  go_enter func130,ntmps130
  go_wp2_with fail
  refine(alL fold a X J wss _ B C hM hT V).mono ?_;rintro e Y ⟨v,rfl,I,A⟩;have Z:Br w Y:=N.trans (A.mono sm);obtain⟨av,cv,rfl,a7,hW⟩:=I.wds;have h1:Y.heap[w.heap.size]?=_:=(A.block _ sm).trans H;have a1:w.heap.size<Y.heap.size:=(AD.1 h1).1;have c0:Y.cell? ⟨w.heap.size,0,none⟩=some (bool fold):=by simp[cell?,h1]
  have c1:Y.cell? ⟨w.heap.size,1,none⟩=some (slice a X J):=by simp[cell?,h1]
  have D:(AZ fold wss).length<=1000000:=by have:=Nb fold wss;have:=hA.len;omega
  have a2:w.heap.size≠Y.heap.size:=by omega
  have U:Br Y (Y.alloc (.cells (AM fold av (AZ fold wss).length cv) 24)):=(AH _ _).alloc (AC _) _;have o:=hW.below U;have j:=(hA.below Z).below U;clear V
  go_wp2_with fail
  refine(ajv fold fold av a _ cv X J (AZ fold wss) wss _ o j D).mono ?_;rintro e w3 ⟨rfl,s⟩;go_wp2;go_ret;exact⟨by rw[HR.out];rfl,Z.trans ((U.trans (s.mono sm)).mono Z.size)⟩
 ·have HR:Hid (An fold wss=false):=by simp[Hid,An,V]
  obtain⟨n,y⟩:∃n,Ey fold wss=n:=⟨_,rfl⟩;have HC:=AA V;have HN:Hid (Ey fold wss=n):=y;rw[y]at V;clear y;have a6:(n==0)=false:=by simp[V]
  go_enter func130,ntmps130
  go_wp2_with fail
  refine(anQ fold a X J wss _ B C hM hT HC.out).mono ?_;rintro e Y ⟨rfl,A⟩;rw[HN.out];have Z:Br w Y:=N.trans (A.mono sm);go_wp2;go_ret;exact⟨by rw[HR.out];rfl,Z.alloc Z.size _⟩
def Cs(wss:Lq):Int:=(wss.map λw=>min (w.length:Int) 4000).sum
def Ev(wss:Lq):Bool:=decide (wss.length > 80∨Cs wss > 3000)
theorem aku(l:Lq)(x:List Int):Cs (l++[x])=Cs l+min (x.length:Int) 4000:=by simp[Cs]
theorem aax:∀(l:Lq),0<=Cs l
 |[]=>by simp[Cs]
 |x::l=>by have:=aax l;simp only[Cs,BO,List.sum_cons]at this⊢;omega
theorem afM(l m:Lq):Cs (l++m)=Cs l+Cs m:=by simp[Cs]
theorem ajs(l:Lq)(k:Nat):Cs (l.take k)<=Cs l:=by have h:=afM (l.take k) (l.drop k);rw[Dx]at h;have:=aax (l.drop k);omega
theorem acB(a:Option Addr)(Z ca:Nat)(wss:Lq)(w:World)(v:Wds w a Z wss) :Calls ZP 47 #[slice a Z ca] w λe w'=>e=.returned (bool (Ev wss))/\w=w':=by
 have o:=AA v.len;obtain⟨G,I⟩:∃G,Ev wss=G:=⟨_,rfl⟩;have j:Hid (Ev wss=G):=I;rw[I];clear I;go_enter func47,ntmps47;go_wp2
 go_loop[3,4] (λs i=>∃(k:Nat)(n:Int),k<=Z/\k<=81/\i=int i64 k/\s=int i64 n/\0<=n/\n<=7000/\Hid (n=Cs (wss.take k))) (λ_ i=>Z-(intOf i).toNat)
 case atStart=>exact⟨0,0,AR _,by omega,rfl,rfl,by omega,by omega,by simp[Hid,Cs]⟩
 case round=>
  obtain⟨k,n,hk,A,rfl,rfl,a6,a2,H⟩:=hrel;have U:¬(k<Z/\k<=80/\n<=3000)->Z<=80->Hid (G=decide (n > 3000)):=by
   intro h1 h2;have B:=o.out;have ht:=ajs wss k;rw[Hid,<-j.out];unfold Ev
   by_cases C:n > 3000
   ·rw[Ve C,Ve]
    right
    have:=H.out;omega
   ·have ab:k=Z:=by omega
    rw[decide_eq_false C,decide_eq_false];rintro(h|h)
    ·omega
    ·have h3:=H.out;rw[Ap om]at h3;omega
  have X:80<Z->Hid (G=true):=by intro h;rw[Hid,<-j.out];exact Ve (.inl (by have:=o.out;omega))
  have HF:=AA U;have V:=AA X;clear U X
  by_cases N:k<Z
  ·by_cases ae:k<=80
   ·by_cases a1:n<=3000
    ·obtain⟨bb,off,a',l,c,x,rfl,ac,J,D,y,aa⟩:=v.at_ N;have HS:Hid (n+min (l:Int) 4000=Cs (wss.take (k+1))):=by rw[Hid,As D,aku,y.len,H.out]
     clear D y;have a8:0<=min (l:Int) 4000:=by omega
     have a7:min (l:Int) 4000<=4000:=by omega
     go_wp2
     go_round
     case rel=>exact⟨k+1,_,by omega,by omega,by go_num,rfl,by omega,by omega,HS⟩
     case measure=>simp[intOf];omega
    ·by_cases h8:Z<=80
     ·have Y:=HF.out om h8;go_wp2;go_ret;exact⟨by rw[Y.out];simp;try omega,rfl⟩
     ·have Y:=V.out om;go_wp2;go_ret;exact⟨by rw[Y.out];simp;try omega,rfl⟩
   ·have Y:=V.out om;go_wp2;go_ret;exact⟨by rw[Y.out];simp;try omega,rfl⟩
  ·by_cases h8:Z<=80
   ·have Y:=HF.out om h8;go_wp2;go_ret;exact⟨by rw[Y.out];simp;try omega,rfl⟩
   ·have Y:=V.out om;go_wp2;go_ret;exact⟨by rw[Y.out];simp;try omega,rfl⟩
theorem ai3(fold:Bool)(a:Option Addr)(Y V:Nat)(wss:Lq)(w:World)(U:Wds w a Y wss) :Calls ZP 45 #[.agg (AM fold a Y V)] w λe w'=>e=.returned (bool (Ev wss))/\Br w w':=by
 have Z:Br w (w.alloc (.cells (AM fold a Y V) 24)):=(AH _ _).alloc (AC _) _;have X:=U.below Z;go_enter func45,ntmps45
 go_wp2_with fail
 refine(acB a Y V wss _ X).mono ?_;rintro e N ⟨rfl,rfl⟩;go_wp2;go_ret;exact⟨rfl,Z⟩
theorem aga(fold:Bool)(a:Option Addr)(Z H:Nat)(wss:Lq)(w:World)(N:Wds w a Z wss)(B:Z<=1000000) :Calls ZP 57 #[.agg (AM fold a Z H)] w λe w'=>e=.returned (int i64 (Au wss))/\Br w w':=by
 have Y:Br w (w.alloc (.cells (AM fold a Z H) 24)):=(AH _ _).alloc (AC _) _;have U:=N.below Y;have v:=AA N.len;clear N;go_enter func57,ntmps57;go_wp2
 go_loop[3,4] (λs i=>∃(k:Nat)(n:Int),k<=Z/\i=int i64 k/\s=int i64 n/\Hid (n=Au (wss.take k))) (λ_ i=>Z-(intOf i).toNat)
 case atStart=>exact⟨0,0,AR _,rfl,rfl,by simp[Hid,Au]⟩
 case round=>
  obtain⟨k,n,hk,rfl,rfl,D⟩:=hrel
  by_cases X:k<Z
  ·obtain⟨j,off,a',l,c,x,rfl,A,V,J,I,C⟩:=U.at_ X;have y:Hid (max n (l:Int)=Au (wss.take (k+1))):=by rw[Hid,As J,acO,I.len,D.out]
   clear J I;go_wp2
   go_round
   case rel=>exact⟨k+1,_,by omega,by go_num,rfl,y⟩
   case measure=>simp[intOf];omega
  ·obtain rfl:k=Z:=by omega
   have o:Hid (n=Au wss):=by
    have h:=D.out
    rwa[Ap (by have:=v.out;omega)]at h
   go_wp2;go_ret;exact⟨by rw[<-o.out];rfl,Y⟩
def Dq:List Int->List Int->Nat
 |x::xs,y::ys=>if x=y then Dq xs ys+1 else 0
 |_,_=>0
theorem ab1:∀{k:Nat}{xs ys:List Int},k<=xs.length->k<=ys.length->xs.take k=ys.take k->(k=xs.length∨k=ys.length∨∃x y,xs[k]?=some x/\ys[k]?=some y/\x≠y)->Dq xs ys=k
 |0,[],ys,_,_,_,_=>by simp[Dq]
 |0,x::xs,[],_,_,_,_=>by simp[Dq]
 |0,x::xs,y::ys,_,_,_,h=>by
  rcases h with h|h|⟨a,b,ha,Y,Z⟩
  ·simp at h
  ·simp at h
  ·simp at ha Y;subst ha Y;simp[Dq,Z]
 |k+1,[],ys,h,_,_,_=>by simp at h
 |k+1,x::xs,[],_,h,_,_=>by simp at h
 |k+1,x::xs,y::ys,h1,h2,h3,h4=>by simp only[List.take_succ_cons,MY]at h3;have X:=ab1 (k:=k) (xs:=xs) (ys:=ys) (by simpa using h1) (by simpa using h2) h3.2 (by simpa using h4);simp[Dq,h3.1,X]
theorem ail(a b:Option Addr)(X ca V cb:Nat)(xs ys:List Int)(w:World)(hA:Bys w a X xs)(hB:Bys w b V ys)(a2:X<=1000000)(a1:V<=1000000) :Calls ZP 213 #[slice a X ca,slice b V cb] w λe w'=>e=.returned (int i64 (Dq xs ys))/\Br w w':=by
 have s:=AA hA.len;have v:=AA hB.len;go_enter func213,ntmps213;go_wp2
 go_loopw[5] (λi wr=>∃k:Nat,k<=X/\k<=V/\i=int i64 k/\Hid (xs.take k=ys.take k)/\Br w wr) (λi _=>X-(intOf i).toNat)
 case atStart=>exact⟨0,AR _,AR _,rfl,by simp[Hid],AH _ _⟩
 case round=>
  obtain⟨k,a7,a6,rfl,HK,U⟩:=hrel;have Z:∀n,Br w (wr.drewN n):=λn=>U.trans ⟨rfl,rfl,rfl,AC _,λ_ _=>rfl⟩;have Y:(k=X∨k=V∨∃x y,xs[k]?=some x/\ys[k]?=some y/\x≠y)->Hid (Dq xs ys=k):=λh=>ab1 (by have:=s.out;omega) (by have:=v.out;omega) HK (by rw[s.out,v.out];exact h);have o:=AA Y;clear Y
  by_cases h1:k<X
  ·by_cases h2:k<V
   ·obtain⟨x,A⟩:∃x,xs[k]?=some x:=⟨xs[k]'(by rw[s.out];exact h1),by simp⟩;obtain⟨y,B⟩:∃y,ys[k]?=some y:=⟨ys[k]'(by rw[v.out];exact h2),by simp⟩;obtain⟨ba,oa,rfl,aa,I⟩:=(hA.below U).1.2.resolve_left om;obtain⟨bb,ob,rfl,a8,J⟩:=(hB.below U).1.2.resolve_left om;have cx:=I k x A;have cy:=J k y B;have D:=AA A;have H:=AA B;clear A B I J
    by_cases N:x=y
    ·subst N;have j:Hid (xs.take (k+1)=ys.take (k+1)):=by rw[As D.out,As H.out,HK.out];rfl
     go_wp2
     go_quiet (fail)
     go_wp2
     go_roundw
     case rel=>exact⟨k+1,by omega,by omega,by go_num,j,Z _⟩
     case measure=>simp[intOf];omega
    ·have C:=o.out (.inr (.inr ⟨x,y,D.out,H.out,N⟩));go_wp2
     go_quiet (fail)
     go_wp2;go_ret;exact⟨by rw[C.out];rfl,Z _⟩
   ·obtain rfl:k=V:=by omega
    have C:=o.out (.inr (.inl rfl));go_wp2
    go_quiet (fail)
    go_wp2;go_ret;exact⟨by rw[C.out];rfl,Z _⟩
  ·obtain rfl:k=X:=by omega
   have C:=o.out (.inl rfl);go_wp2
   go_quiet (fail)
   go_wp2;go_ret;exact⟨by rw[C.out];rfl,Z _⟩
def Dk(fold:Bool)(Z:Lq)(x:List Int):Int:=Z.foldl (λm y=>max m (Dq (AO fold x) (AO fold y):Int)) 0
def IB(fold:Bool):Lq->Lq->Int->Int
 |_,[],n=>n
 |pre,x::rest,n=>IB fold (pre++[x]) rest (n+x.length-Dk fold pre x)
def Cl(fold:Bool)(wss:Lq):Int:=IB fold [] wss 1
theorem abp(fold:Bool)(Z:Lq)(x y:List Int):Dk fold (Z++[y]) x=max (Dk fold Z x) (Dq (AO fold x) (AO fold y):Int):=by simp[Dk,FI]
theorem abO(fold:Bool):∀(rest Z:Lq)(x:List Int)(n:Int),IB fold Z (rest++[x]) n=IB fold Z rest n+x.length-Dk fold (Z++rest) x
 |[],Z,x,n=>by simp[IB]
 |y::rest,Z,x,n=>by rw[CT,IB,IB,abO fold rest (Z++[y]) x];simp
theorem aar(fold:Bool)(l:Lq)(x:List Int):Cl fold (l++[x])=Cl fold l+x.length-Dk fold l x:=by unfold Cl;rw[abO,Av]
theorem acp:∀(xs ys:List Int),Dq xs ys<=xs.length
 |[],_=>by simp[Dq]
 |_::_,[]=>by simp[Dq]
 |x::xs,y::ys=>by
  have:=acp xs ys;unfold Dq
  split<;>simp<;>omega
theorem afp(fold:Bool)(x:List Int)(Z:Lq):0<=Dk fold Z x/\Dk fold Z x<=x.length:=by
 obtain⟨n,X⟩:∃n,Z.length=n:=⟨_,rfl⟩
 induction n generalizing Z with
 |zero=>obtain rfl:=Bz X;simp[Dk]
 |succ n ih=>
  obtain⟨Y,y,rfl⟩:∃Y y,Z=Y++[y]:=⟨Z.dropLast,Z.getLast (by intro h;simp[h]at X),(Em _).symm⟩;have h1:=ih Y (by simpa using X);have h2:=acp (AO fold x) (AO fold y);rw[Ew]at h2;rw[abp];omega
theorem ajH{fold:Bool}{M:Nat}(l:Lq)(h:∀x∈l,x.length<=M):1<=Cl fold l/\Cl fold l<=1+l.length*(M:Int):=by
 obtain⟨n,Y⟩:∃n,l.length=n:=⟨_,rfl⟩
 induction n generalizing l with
 |zero=>obtain rfl:=Bz Y;simp[Cl,IB]
 |succ n ih=>
  obtain⟨Z,x,rfl⟩:∃Z x,l=Z++[x]:=⟨l.dropLast,l.getLast (by intro h;simp[h]at Y),(Em _).symm⟩;have h1:=ih Z (λy X=>h y (by simp[X])) (by simpa using Y);have h2:=afp fold x Z;have V:=h x sm;rw[aar];have e:((Z++[x]).length:Int)*(M:Int)=Z.length*(M:Int)+M:=by rw[List.length_append,Ao,Bw,LK,Jr];simp
  rw[e];omega
theorem amU(fold:Bool)(a:Option Addr)(Z N:Nat)(xs:List Int)(w:World)(U:Bys w a Z xs)(V:Z<=1000000) :Calls ZP 124 #[bool fold,slice a Z N] w λe w'=>∃X c1,e=.returned (slice X Z c1)/\Bys w' X Z (AO fold xs)/\Br w w':=
 (ags fold a Z N xs w U V).mono λe w' ⟨v,J,Y,I⟩=>by obtain⟨X,c1,rfl,_,h⟩:=KL Y (MD U.2);exact⟨X,c1,J,h,I⟩
theorem ahl(fold:Bool)(a:Option Addr)(D ca:Nat)(wss:Lq)(w:World)(hA:Wds w a D wss)(ax:D<=1000000)(hM:∀x∈wss,x.length<=1000000) :Calls ZP 174 #[bool fold,slice a D ca] w λe w'=>e=.returned (int i64 (Cl fold wss))/\Br w w':=by
  have HL:=AA hA.len;have HM:=AA hM;have HA:=AA hA;clear hA hM;go_enter func174,ntmps174;go_wp2
  go_loopw[5,6] (λs i wr=>∃(k:Nat)(n:Int),k<=D/\i=int i64 k/\s=int i64 n/\Hid (n=Cl fold (wss.take k))/\Br w wr) (λ_ i _=>D-(intOf i).toNat)
  case atStart=>exact⟨0,1,AR _,rfl,rfl,by simp[Hid,Cl,IB],AH _ _⟩
  case round=>
    obtain⟨k,n,hk,rfl,rfl,HN,Z⟩:=hrel
    by_cases ai:k<D
    ·
      obtain⟨A,off,a',l,c,x,rfl,aj,V,hx,hX,aw⟩:=HA.out.at_ ai;have a7:l<=1000000:=by have:=Ff HM.out hx;rw[hX.len]at this;exact this
      have HX:=AA hx;have B:=AA hX;have J:∀v:World,Br w v->v.cell? ⟨A,off+k,none⟩=some (slice a' l c):=λv hv=>(hv.cell (p:=⟨A,off+k,none⟩) aj).trans V;have H:=AA J;clear hx hX J V;go_wp2
      go_loopw[7,8] (λo i wr=>∃(j:Nat)(m:Int),j<=k/\i=int i64 j/\o=int i64 m/\Hid (m=Dk fold (wss.take j) x)/\Br w wr) (λ_ i _=>k-(intOf i).toNat)
      case atStart=>exact⟨0,0,AR _,rfl,rfl,by simp[Hid,Dk],Z⟩
      case round=>
        clear Z;obtain⟨j,m,hj,rfl,rfl,HO,Z⟩:=hrel
        by_cases ay:j<k
        ·
          obtain⟨b2,aq,a2,l2,c2,y,e2,a8,X,hy,hY,au⟩:=HA.out.at_ (show j<D by omega);simp only[DC,Addr.mk.injEq,and_true]at e2;obtain⟨rfl,rfl⟩:=e2;have a6:l2<=1000000:=by have:=Ff HM.out hy;rw[hY.len]at this;exact this
          have N:Hid (∀v:World,Br w v->v.cell? ⟨A,off+j,none⟩=some (slice a2 l2 c2)):=λv hv=>(hv.cell (p:=⟨A,off+j,none⟩) a8).trans X;have HS:Hid (max m (Dq (AO fold x) (AO fold y):Int)=Dk fold (wss.take (j+1)) x):=by rw[Hid,HO.out,As (show wss[j]?=some y from hy),abp]
          have ap:=AA hY;clear X hy hY;have ac:Bys wr.drew a' l x:=B.out.below (Z.trans ⟨rfl,rfl,rfl,AC _,λ_ _=>rfl⟩);have ae:Br w wr.drew:=Z.trans ⟨rfl,rfl,rfl,AC _,λ_ _=>rfl⟩;have k1:=H.out wr Z;have k2:=N.out wr Z;have i1:(0:Int)<=(j:Int):=by omega
          have i2:(j:Int)<(D:Int):=by omega
          have i3:(0:Int)<=(k:Int):=by omega
          have i4:(k:Int)<(D:Int):=by omega
          go_wp2
          go_region_held3 (λw'=>w'.cell? ⟨A,off+k,none⟩=some (.slice a' l c)/\w'.cell? ⟨A,off+j,none⟩=some (.slice a2 l2 c2)) (go_keep) (first
            | (go_at_call 124;refine (amU fold a' l c x wr.drew ac a7).mono ?_;rintro e w1 ⟨a1,c1,rfl,ao,al⟩
               have Y:Br w w1:=ae.trans (al.mono ae.size);have d1:=H.out w1 Y;have d2:=N.out w1 Y;have ab:=ap.out.below Y;clear ac)
            | (go_at_call 124;refine (amU fold a2 l2 c2 y w1 ab a6).mono ?_;rintro e w2 ⟨a3,c3,rfl,am,aa⟩
               have U:Br w w2:=Y.trans (aa.mono Y.size);have d3:=H.out w2 U;have d4:=N.out w2 U;have af:=ao.below aa;clear ab)
            | (go_at_call 213;refine (ail a1 a3 l c1 l2 c3 _ _ w2 af am a7 a6).mono ?_;rintro e w3 ⟨rfl,ak⟩
               have I:Br w w3:=U.trans (ak.mono U.size);have d5:=H.out w3 I;have d6:=N.out w3 I))
          all_goals
            go_wp2
            go_roundw
            case rel=>exact⟨j+1,_,by omega,by go_num,rfl,HS,I⟩
            case measure=>simp[intOf];omega
        ·
          obtain rfl:j=k:=by omega
          have ag:=afp fold x (wss.take j);have C:=ajH (fold:=fold) (M:=1000000) (wss.take j) (λy hy=>HM.out y (EG hy));rw[<-HO.out,B.out.len]at ag;rw[<-HN.out,Ag]at C;have ar:n<=1+1000000*1000000:=by omega
          have HS:Hid (n+(l:Int)-m=Cl fold (wss.take (j+1))):=by rw[Hid,As HX.out,aar,B.out.len,<-HN.out,<-HO.out]
          have k1:=H.out wr Z;have av:=C.1;clear C;go_wp2
          go_roundw
          case rel=>exact⟨j+1,_,by omega,by go_num,rfl,HS,Z⟩
          case measure=>simp[intOf];omega
    ·
      obtain rfl:k=D:=by omega
      have HF:Hid (n=Cl fold wss):=by
        have h:=HN.out
        rwa[Ap (by have:=HL.out;omega)]at h
      go_wp2;go_ret;exact⟨by rw[<-HF.out];rfl,Z⟩
def Fa(s:Lq×List Int)(p:Bool×Int):Lq×List Int:=
 let q:=(if p.1 then [] else s.2)++[p.2]
 (if q∈s.1 then s.1 else s.1++[q],q)
def Di(l:List (Bool×Int)):Lq×List Int:=l.foldl Fa ([[]],[])
theorem aj1(l:List (Bool×Int))(p:Bool×Int):Di (l++[p])=Fa (Di l) p:=by simp[Di,FI]
structure Rep(s:NSt)(ps:Lq)(p:List Int):Prop where
 many:s.many=ps.length
 nodup:ps.Nodup
 root:ps[0]?=some []
 closed:∀(q:List Int)(c:Int),q++[c]∈ps->q∈ps
 at_:∃n:Nat,s.node=n/\ps[n]?=some p
 down:∀(i c m:Int),s.f (i,c)=some m->∃(a b:Nat)(q:List Int),i=a/\m=b/\ps[a]?=some q/\ps[b]?=some (q++[c])
 up:∀(a b:Nat)(q:List Int)(c:Int),ps[a]?=some q->ps[b]?=some (q++[c])->s.f ((a:Int),c)=some (b:Int)
theorem Ln{Z:Lq}(h:Z.Nodup){a b:Nat}{q:List Int}(ha:Z[a]?=some q)(Y:Z[b]?=some q):a=b:=by have h1:=(AP.1 ha);have h2:=(AP.1 Y);obtain⟨U,X⟩:=h1;obtain⟨V,e2⟩:=h2;exact(List.getElem_inj h).1 (X.trans e2.symm)
theorem amv{s:NSt}{Z:Lq}{p:List Int}(h:Rep s Z p)(x:Bool×Int):Rep (IA s x) (Fa (Z,p) x).1 (Fa (Z,p) x).2:=by
 obtain⟨j,y,A⟩:=h.at_;obtain⟨n,r,v,H,N⟩:∃(n:Nat)(r:List Int),(if x.1 then 0 else s.node)=(n:Int)/\Z[n]?=some r/\(if x.1 then [] else p)=r:=by
  cases x.1 with
  |true=>exact⟨0,[],rfl,h.root,rfl⟩
  |false=>exact⟨j,p,y,A,rfl⟩
 have B:Fa (Z,p) x=(if r++[x.2]∈Z then Z else Z++[r++[x.2]],r++[x.2]):=by unfold Fa;simp only[N]
 rw[B]
 by_cases I:r++[x.2]∈Z
 ·obtain⟨b,Y⟩:=DR I;have o:=h.up n b r x.2 H Y;have C:IA s x={s with node:=(b:Int)}:=aas (by rw[v];exact o);rw[C,Vb I];exact⟨h.many,h.nodup,h.root,h.closed,⟨b,rfl,Y⟩,h.down,h.up⟩
 ·have o:s.f ((n:Int),x.2)=none:=by
   cases e:s.f ((n:Int),x.2)with
   |none=>rfl
   |some m=>
    obtain⟨a,b,q,h1,h2,h3,h4⟩:=h.down _ _ _ e;have:n=a:=by omega
    subst this;rw[H]at h3;obtain rfl:=AK h3;exact absurd (AX h4) I
  have C:=abu (s:=s) (p:=x) (by rw[v];exact o);rw[C,Va I,v];have U:∀{i:Nat}{q:List Int},Z[i]?=some q->(Z++[r++[x.2]])[i]?=some q:=by intro i q J;rw[By (AP.1 J).1,J]
  have X:(Z++[r++[x.2]])[Z.length]?=some (r++[x.2]):=by simp
  refine⟨?_,?_,U h.root,?_,⟨Z.length,h.many,X⟩,?_,?_⟩
  ·simp[h.many]
  ·rw[List.nodup_append];refine⟨h.nodup,by simp,?_⟩;intro a ha b Y;simp at Y;rw[Y];exact λe=>I (e ▸ ha)
  ·intro q c N
   rcases Bf.1 N with N|N
   ·exact List.mem_append_left _ (h.closed q c N)
   ·simp at N;rw[N.1];exact List.mem_append_left _ (AX H)
  ·intro i c m J;dsimp only at J
   by_cases e:(i,c)=((n:Int),x.2)
   ·rw[Vb e]at J;simp only[Jk]at e;obtain⟨rfl,rfl⟩:=e;refine⟨n,Z.length,r,rfl,?_,U H,X⟩;rw[<-AK J,h.many]
   ·rw[Va e]at J;obtain⟨a,b,q,h1,h2,h3,h4⟩:=h.down i c m J;exact⟨a,b,q,h1,h2,U h3,U h4⟩
  ·intro a b q c ha Y;dsimp only;rw[List.getElem?_append]at ha Y
   by_cases D:b<Z.length
   ·rw[Vb D]at Y
    by_cases V:a<Z.length
    ·rw[Vb V]at ha;rw[Va]
     ·exact h.up a b q c ha Y
     ·intro e;simp only[Jk]at e;obtain⟨e1,rfl⟩:=e;have:a=n:=by omega
      subst this;rw[H]at ha;obtain rfl:=AK ha;exact I (AX Y)
    ·exfalso
     rw[Va V]at ha;have h0:a-Z.length=0:=by have:=(AP.1 ha).1;simp at this;omega
     rw[h0]at ha;simp at ha;subst ha;exact I (h.closed _ _ (AX Y))
   ·rw[Va D]at Y;have h0:b-Z.length=0:=by have:=(AP.1 Y).1;simp at this;omega
    rw[h0]at Y;simp at Y;obtain⟨h1,h2⟩:=Y;subst h1 h2
    by_cases V:a<Z.length
    ·rw[Vb V]at ha;have:=Ln h.nodup ha H;subst this;rw[Vb rfl,h.many,show b=Z.length by omega]
    ·exfalso
     rw[Va V]at ha;have h0:a-Z.length=0:=by have:=(AP.1 ha).1;simp at this;omega
     rw[h0]at ha;simp at ha
theorem ajx(l:List (Bool×Int)):Rep (Ae l) (Di l).1 (Di l).2:=by
 obtain⟨n,Y⟩:∃n,l.length=n:=⟨_,rfl⟩
 induction n generalizing l with
 |zero=>
  obtain rfl:=Bz Y;refine⟨rfl,by simp[Di],rfl,?_,⟨0,rfl,rfl⟩,λi c m h=>by simp[Ae]at h,?_⟩
  ·intro q c h;simp[Di]at h
  ·intro a b q c ha X;have:=AX X;simp[Di]at this
 |succ n ih=>
  obtain⟨Z,x,rfl⟩:∃Z x,l=Z++[x]:=⟨l.dropLast,l.getLast (by intro h;simp[h]at Y),(Em _).symm⟩;rw[NV,aj1];exact amv (ih Z (by simpa using Y)) x
def OC(fold:Bool)(wss:Lq)(q:List Int):Prop:=q=[]∨∃w∈wss,q <+: AO fold w
theorem aa6:∀{j:Nat}{ys zs:List Int},j<=ys.length->(ys.take j <+: zs↔j<=Dq ys zs)
 |0,ys,zs,_=>by simp
 |j+1,[],zs,h=>by simp at h
 |j+1,y::ys,[],h=>by simp[Dq]
 |j+1,y::ys,z::zs,h=>by
  have Z:=aa6 (j:=j) (ys:=ys) (zs:=zs) (by simpa using h);rw[List.take_succ_cons,List.cons_prefix_cons];unfold Dq
  by_cases e:y=z
  ·simp[e,Z]
  ·simp[e]
theorem ana(fold:Bool)(x:List Int){j:Nat}(N:1<=j)(Z:Lq):(j:Int)<=Dk fold Z x↔∃w∈Z,j<=Dq (AO fold x) (AO fold w):=by
 obtain⟨n,V⟩:∃n,Z.length=n:=⟨_,rfl⟩
 induction n generalizing Z with
 |zero=>obtain rfl:=Bz V;simp[Dk];omega
 |succ n ih=>
  obtain⟨X,y,rfl⟩:∃X y,Z=X++[y]:=⟨Z.dropLast,Z.getLast (by intro h;simp[h]at V),(Em _).symm⟩;have h1:=ih X (by simpa using V);rw[abp]
  constructor
  ·intro h
   by_cases h2:(j:Int)<=Dk fold X x
   ·obtain⟨w,Y,U⟩:=h1.1 h2;exact⟨w,by simp[Y],U⟩
   ·exact⟨y,by simp,by omega⟩
  ·rintro⟨w,Y,U⟩
   rcases Bf.1 Y with Y|Y
   ·have:=h1.2 ⟨w,Y,U⟩;omega
   ·simp at Y;subst Y;omega
theorem akd(s:Lq×List Int)(p:Bool×Int):Fa s p=(if((if p.1=true then [] else s.2)++[p.2])∈s.1 then s.1 else s.1++[(if p.1=true then [] else s.2)++[p.2]],(if p.1=true then [] else s.2)++[p.2]):=rfl
theorem agU(ys:List Int)(Y:Nat)(V:Lq)(p:List Int)(X:∀j,1<=j->j<=ys.length->(ys.take j∈V↔j<=Y)) :∀i,i<=ys.length->∃Z,(((Dt ys).take i).foldl Fa (V,p)).1=Z/\Z.length=V.length+(i-min i Y)/\(1<=i->(((Dt ys).take i).foldl Fa (V,p)).2=ys.take i)/\
   ∀q,q∈Z↔q∈V∨∃j,1<=j/\j<=i/\q=ys.take j
 |0,_=>⟨V,by simp,by simp,by simp,λq=>by simp;intro j h1 h2;omega⟩
 |i+1,hi=>by
  obtain⟨Z,h1,h2,h3,h4⟩:=agU ys Y V p X i om;obtain⟨c,D⟩:∃c,ys[i]?=some c:=⟨ys[i]'om,by simp⟩;have B:=aja D;rw[As B,FI,List.foldl_cons,List.foldl_nil];have C:(if((i:Int)==0)=true then [] else(((Dt ys).take i).foldl Fa (V,p)).2)++[c]=ys.take (i+1):=by
   rw[As D]
   by_cases h0:i=0
   ·subst h0;simp
   ·have I:((i:Int)==0)=false:=by simp;omega
    rw[I,h3 om];simp
  have N:Fa (((Dt ys).take i).foldl Fa (V,p)) (((i:Int)==0),c)=(if ys.take (i+1)∈Z then Z else Z++[ys.take (i+1)],ys.take (i+1)):=by rw[akd];dsimp only;rw[C,h1]
  rw[N];have U:ys.take (i+1)∈Z↔i+1<=Y:=by
   rw[h4,X (i+1) om hi]
   constructor
   ·rintro(h|⟨j,hj1,hj2,e⟩)
    ·exact h
    ·have:=congrArg List.length e;simp at this;omega
   ·exact λh=>.inl h
  by_cases J:ys.take (i+1)∈Z
  ·have ho:=U.1 J;refine⟨Z,by simp[J],by rw[h2];omega,λ_=>rfl,λq=>?_⟩;rw[h4]
   constructor
   ·rintro(h|⟨j,hj1,hj2,e⟩)
    ·exact .inl h
    ·exact .inr ⟨j,hj1,by omega,e⟩
   ·rintro(h|⟨j,hj1,hj2,e⟩)
    ·exact .inl h
    ·by_cases H:j=i+1
     ·subst H;rw[e];exact .inl ((X _ hj1 hi).2 ho)
     ·exact .inr ⟨j,hj1,by omega,e⟩
  ·have ho:¬i+1<=Y:=λh=>J (U.2 h);refine⟨Z++[ys.take (i+1)],by simp[J],by rw[List.length_append,h2];simp;omega,λ_=>rfl,λq=>?_⟩;rw[Bf,h4]
   constructor
   ·rintro((h|⟨j,hj1,hj2,e⟩)|h)
    ·exact .inl h
    ·exact .inr ⟨j,hj1,by omega,e⟩
    ·exact .inr ⟨i+1,by omega,by omega,by simpa using h⟩
   ·rintro(h|⟨j,hj1,hj2,e⟩)
    ·exact .inl (.inl h)
    ·by_cases H:j=i+1
     ·subst H;exact .inr (by simp[e])
     ·exact .inl (.inr ⟨j,hj1,by omega,e⟩)
theorem count_eq(fold:Bool)(wss:Lq):((Di (Ad fold wss)).1.length:Int)=Cl fold wss/\∀q,q∈(Di (Ad fold wss)).1↔OC fold wss q:=by
 obtain⟨n,J⟩:∃n,wss.length=n:=⟨_,rfl⟩
 induction n generalizing wss with
 |zero=>
  obtain rfl:=Bz J;refine⟨rfl,λq=>?_⟩;simp[Ad,Di,OC]
 |succ n ih=>
  obtain⟨Z,x,rfl⟩:∃Z x,wss=Z++[x]:=⟨wss.dropLast,wss.getLast (by intro h;simp[h]at J),(Em _).symm⟩;obtain⟨h1,h2⟩:=ih Z (by simpa using J);have I:=afp fold x Z;have U:∀j,1<=j->j<=(AO fold x).length->((AO fold x).take j∈(Di (Ad fold Z)).1↔j<=(Dk fold Z x).toNat):=by
   intro j N X;rw[h2];have B:j<=(Dk fold Z x).toNat↔(j:Int)<=Dk fold Z x:=by omega
   rw[B,ana fold x N]
   constructor
   ·rintro(h|⟨w,Y,h⟩)
    ·have:=congrArg List.length h;rw[Ag,Bw]at this;omega
    ·exact⟨w,Y,(aa6 X).1 h⟩
   ·rintro⟨w,Y,h⟩;exact .inr ⟨w,Y,(aa6 X).2 h⟩
  obtain⟨A,C,D,y,H⟩:=agU (AO fold x) (Dk fold Z x).toNat (Di (Ad fold Z)).1 (Di (Ad fold Z)).2 U (AO fold x).length (AC _);have V:Di (Ad fold (Z++[x]))=((Dt (AO fold x)).take (AO fold x).length).foldl Fa ((Di (Ad fold Z)).1,(Di (Ad fold Z)).2):=by rw[abQ,Ap (by rw[Ks];exact AC _)];unfold Di;rw[FI]
  rw[V,C];refine⟨?_,λq=>?_⟩
  ·rw[aar,D,Ew,<-h1];omega
  ·rw[H,h2];unfold OC
   constructor
   ·rintro((h|⟨w,Y,h⟩)|⟨j,N,X,rfl⟩)
    ·exact .inl h
    ·exact .inr ⟨w,by simp[Y],h⟩
    ·exact .inr ⟨x,by simp,List.take_prefix _ _⟩
   ·rintro(h|⟨w,Y,h⟩)
    ·exact .inl (.inl h)
    ·rcases Bf.1 Y with Y|Y
     ·exact .inl (.inr ⟨w,Y,h⟩)
     ·simp at Y;subst Y
      by_cases h0:q=[]
      ·exact .inl (.inl h0)
      ·refine .inr ⟨q.length,?_,h.length_le,List.prefix_iff_eq_take.1 h⟩;exact apG.2 h0
theorem amE(fold:Bool)(wss:Lq):(Ae (Ad fold wss)).many=Cl fold wss:=by rw[(ajx (Ad fold wss)).many,(count_eq fold wss).1]
def Ds(wss:Lq):Int:=(wss.map λw=>(w.length:Int)).sum
theorem aeX(l:Lq)(x:List Int):Ds (l++[x])=Ds l+x.length:=by simp[Ds]
theorem akB:∀(l:Lq),(∀x∈l,x.length<=1000000)->0<=Ds l/\Ds l<=l.length*1000000
 |[],_=>by simp[Ds]
 |x::l,h=>by have h1:=akB l (λy Z=>h y (by simp[Z]));have h2:=h x sm;simp only[Ds,BO,List.sum_cons,Ao]at h1⊢;omega
def DL(fold:Bool)(wss:Lq):Int:=
 if wss.length=0 then 50 else if wss.length > 64 then 51 else if(∃x∈wss,x.length=0) then 52 else if(∃x∈wss,x.length > 32) then 53 else if Ds wss > 600 then 54 else if Cl fold wss > 400 then 55 else 0
theorem acJ(fold:Bool)(a:Option Addr)(J ca:Nat)(wss:Lq)(w:World)(hA:Wds w a J wss)(aa:J<=1000000)(hM:∀x∈wss,x.length<=1000000) :Calls ZP 122 #[bool fold,slice a J ca] w λe w'=>e=.returned (int i64 (DL fold wss))/\Br w w':=by
 have B:=AA hA.len;have HM:=AA hM;obtain⟨G,hG⟩:∃G,DL fold wss=G:=⟨_,rfl⟩;have HG:Hid (DL fold wss=G):=hG;rw[hG];clear hG hM
 by_cases h0:J=0
 ·have U:Hid (G=50):=by rw[Hid,<-HG.out,DL,Vb (by rw[B.out,h0])]
  go_enter func122,ntmps122;go_wp2;go_ret;exact⟨by rw[U.out];rfl,AH _ _⟩
 ·by_cases a2:64<J
  ·have U:Hid (G=51):=by rw[Hid,<-HG.out,DL,Va (by rw[B.out];exact h0),Vb (by rw[B.out];exact a2)]
   go_enter func122,ntmps122;go_wp2;go_ret;exact⟨by rw[U.out];rfl,AH _ _⟩
  ·have o:Hid (G=if(∃x∈wss,x.length=0) then 52 else if(∃x∈wss,x.length > 32) then 53 else if Ds wss > 600 then 54 else if Cl fold wss > 400 then 55 else 0):=by
    rw[Hid,<-HG.out,DL,Va (by rw[B.out];exact h0),Va (by rw[B.out];exact a2)]
   go_enter func122,ntmps122;go_wp2
   go_loop[6] (λi=>∃k:Nat,k<=J/\i=int i64 k/\Hid (∀x∈wss.take k,x.length≠0)) (λi=>J-(intOf i).toNat)
   case atStart=>exact⟨0,AR _,rfl,λx X=>by simp at X⟩
   case round=>
    obtain⟨k,hk,rfl,HK⟩:=hrel
    by_cases a7:k<J
    ·obtain⟨bb,off,a',l,c,x,rfl,ac,D,X,hX,a8⟩:=hA.at_ a7;have HX:=AA X;have V:=AA hX.len;clear X hX
     by_cases a1:l=0
     ·have U:Hid (G=52):=by rw[Hid,o.out,Vb ⟨x,AX HX.out,by rw[V.out,a1]⟩]
      go_wp2;go_ret;exact⟨by rw[U.out];rfl,AH _ _⟩
     ·have ae:Hid (∀x∈wss.take (k+1),x.length≠0):=by
       rw[As HX.out];intro y Z
       rcases Bf.1 Z with Z|Z
       ·exact HK.out y Z
       ·simp at Z;rw[Z,V.out];exact a1
      go_wp2
      go_round
      case rel=>exact⟨k+1,by omega,by go_num,ae⟩
      case measure=>simp[intOf];omega
    ·obtain rfl:k=J:=by omega
     have af:Hid (∀x∈wss,x.length≠0):=by
      have h:=HK.out
      rwa[Ap (by rw[B.out];exact AC _)]at h
     have v:Hid (G=if(∃x∈wss,x.length > 32) then 53 else if Ds wss > 600 then 54 else if Cl fold wss > 400 then 55 else 0):=by rw[Hid,o.out,Va (by rintro⟨x,X,h⟩;exact af.out x X h)]
     clear o HK;go_wp2
     go_loop[5,7] (λs i=>∃(j:Nat)(n:Int),j<=k/\i=int i64 j/\s=int i64 n/\Hid (n=Ds (wss.take j))/\Hid (∀x∈wss.take j,¬x.length > 32)) (λ_ i=>k-(intOf i).toNat)
     case atStart=>exact⟨0,0,AR _,rfl,rfl,by simp[Hid,Ds],λx X=>by simp at X⟩
     case round=>
      obtain⟨j,n,hj,rfl,rfl,C,HJ⟩:=hrel;have H:=akB (wss.take j) (λy Z=>HM.out y (EG Z));rw[<-C.out]at H;have a6:((wss.take j).length:Int)<=64:=by have:=MU j wss;omega
      have ak:=H.1;have aj:n<=64000000:=by omega
      clear H a6
      by_cases ab:j<k
      ·obtain⟨bb,off,a',l,c,x,rfl,ac,D,X,hX,a8⟩:=hA.at_ ab;have ai:l<=1000000:=by have:=Ff HM.out X;rw[hX.len]at this;exact this
       have HX:=AA X;have V:=AA hX.len;clear X hX
       by_cases I:32<l
       ·have U:Hid (G=53):=by rw[Hid,v.out,Vb ⟨x,AX HX.out,by rw[V.out];exact I⟩]
        go_wp2;go_ret;exact⟨by rw[U.out];rfl,AH _ _⟩
       ·have ag:Hid (∀x∈wss.take (j+1),¬x.length > 32):=by
         rw[As HX.out];intro y Z
         rcases Bf.1 Z with Z|Z
         ·exact HJ.out y Z
         ·simp at Z;rw[Z,V.out];exact I
        have HS:Hid (n+(l:Int)=Ds (wss.take (j+1))):=by rw[Hid,As HX.out,aeX,V.out,C.out]
        go_wp2
        go_round
        case rel=>exact⟨j+1,_,by omega,by go_num,rfl,HS,ag⟩
        case measure=>simp[intOf];omega
      ·obtain rfl:j=k:=by omega
       have Y:wss.take j=wss:=Ap (by rw[B.out];exact AC _);have A:Hid (G=if n > 600 then 54 else if Cl fold wss > 400 then 55 else 0):=by have h2:=C.out;rw[Y]at h2;rw[Hid,v.out,Va (by rintro⟨x,X,h⟩;exact HJ.out x (by rw[Y];exact X) h),h2]
       clear Y v C HJ
       by_cases h6:600<n
       ·have U:Hid (G=54):=by rw[Hid,A.out,Vb h6]
        go_wp2;go_ret;exact⟨by rw[U.out];rfl,AH _ _⟩
       ·go_wp2_with fail
        refine(ahl fold a j ca wss w hA aa HM.out).mono ?_;rintro e w1 ⟨rfl,hb⟩;obtain⟨N,hN⟩:∃N,Cl fold wss=N:=⟨_,rfl⟩;rw[hN];have C:Hid (Cl fold wss=N):=hN;clear hN
        by_cases h4:400<N
        ·have U:Hid (G=55):=by rw[Hid,A.out,Va om,C.out,Vb h4]
         go_wp2;go_ret;exact⟨by rw[U.out];rfl,hb⟩
        ·have U:Hid (G=0):=by rw[Hid,A.out,Va om,C.out,Va om]
         go_wp2;go_ret;exact⟨by rw[U.out];rfl,hb⟩
theorem ahh(f g:Bool)(a b:Option Addr)(Y D I H:Nat)(wss Z:Lq)(w:World)(hA:Wds w a Y wss)(hB:Wds w b I Z)(aj:Y<=1000000) :Calls ZP 80 #[.agg (AM f a Y D),.agg (AM g b I H)] w λe w'=>e=.returned (bool (DH f g wss Z))/\Br w w':=by
 obtain⟨W,hW⟩:∃W,W=(w.alloc (.cells (AM f a Y D) 24)).alloc (.cells (AM g b I H) 24):=⟨_,rfl⟩;have V:Br w ((w.alloc (.cells (AM f a Y D) 24)).alloc (.cells (AM g b I H) 24)):=((AH _ _).alloc (AC _) _).alloc sm _;have HA:=AA hA.len;have HB:=AA hB.len
 by_cases J:f=g
 ·subst J
  by_cases hl:Y=I
  ·subst hl;have a7:W.heap[w.heap.size]?=some (.cells (AM f a Y D) 24 (0,0)):=by
    rw[hW];exact(Bg _ _ _ sm).trans (AT _ _)
   have a6:W.heap[w.heap.size+1]?=some (.cells (AM f b Y H) 24 (0,0)):=by
    rw[hW];have:=AT (w.alloc (.cells (AM f a Y D) 24)) (.cells (AM f b Y H) 24)
    rwa[DN]at this
   have ab:Wds W a Y wss:=by rw[hW];exact hA.below V
   have aa:Wds W b Y Z:=by rw[hW];exact hB.below V
   have v:Br w W:=by rw[hW];exact V
   have hz:W.heap.size=w.heap.size+2:=by rw[hW];simp
   have ac:=AA hW;clear hA hB hW;go_enter func80,ntmps80;go_wp2;rw[<-ac.out]
   go_loopw[5] (λi wr=>∃k:Nat,k<=Y/\i=int i64 k/\Hid (wss.take k=Z.take k)/\Br W wr) (λi _=>Y-(intOf i).toNat)
   case atStart=>exact⟨0,AR _,rfl,by simp[Hid],AH _ _⟩
   case round=>
    obtain⟨k,hk,rfl,HK,X⟩:=hrel;have hw:Br w wr:=v.trans (X.mono v.size);have h1:wr.heap[w.heap.size]?=_:=(X.block _ om).trans a7;have h2:wr.heap[w.heap.size+1]?=_:=(X.block _ om).trans a6;have c1:wr.cell? ⟨w.heap.size,1,none⟩=some (slice a Y D):=by simp[cell?,h1]
    have c2:wr.cell? ⟨w.heap.size+1,1,none⟩=some (slice b Y H):=by simp[cell?,h2]
    have a8:∀n,Br W (wr.drewN n):=λn=>X.trans ⟨rfl,rfl,rfl,AC _,λ_ _=>rfl⟩;have o:∀n,Br w (wr.drewN n):=λn=>hw.trans ⟨rfl,rfl,rfl,AC _,λ_ _=>rfl⟩
    by_cases C:k<Y
    ·obtain⟨bb,off,a',l,c,x,rfl,ak,a1,hx,hX,ai⟩:=(ab.below X).at_ C;obtain⟨al,ae,a2,l2,c2,y,rfl,ag,s,hy,hY,af⟩:=(aa.below X).at_ C;have hd:∀n,Br wr (wr.drewN n):=λn=>⟨rfl,rfl,rfl,AC _,λ_ _=>rfl⟩;have A:∀n,Bys (wr.drewN n) a' l x:=λn=>hX.below (hd n);have B:∀n,Bys (wr.drewN n) a2 l2 y:=λn=>hY.below (hd n);have v1:∀n cap,Sem.run ZP (convert 32 9 (slice a' l cap)) (wr.drewN n)=.ok (.string (strOfNums x)) (wr.drewN n):=λn cap=>Gh (A n) cap;have v2:∀n cap,Sem.run ZP (convert 32 9 (slice a2 l2 cap)) (wr.drewN n)=.ok (.string (strOfNums y)) (wr.drewN n):=λn cap=>Gh (B n) cap;have N:=Ms hX.2 hY.2;have HX:=AA hx;have HY:=AA hy;clear hx hy hX hY A B hd
     by_cases h:x=y
     ·rw[Ve h]at N;have U:Hid (wss.take (k+1)=Z.take (k+1)):=by rw[As HX.out,As HY.out,HK.out,h];rfl
      clear h;go_wp2
      go_quiet (fail)
      go_wp2
      go_roundw
      case rel=>exact⟨k+1,by omega,by go_num,U,a8 _⟩
      case measure=>simp[intOf];omega
     ·rw[decide_eq_false h]at N;have U:Hid (DH f f wss Z=false):=by
       have:wss≠Z:=λe=>by have h1:=HX.out;rw[e,HY.out]at h1;exact h (AK h1).symm
       simp[Hid,DH,this]
      clear h;go_wp2
      go_quiet (fail)
      go_wp2;go_ret;exact⟨by rw[U.out];rfl,o _⟩
    ·obtain rfl:k=Y:=by omega
     have U:Hid (DH f f wss Z=true):=by have h:=HK.out;rw[Ap (by rw[HA.out];exact AC _),Ap (by rw[HB.out];exact AC _)]at h;simp[Hid,DH,h]
     go_wp2;go_ret;exact⟨by rw[U.out];rfl,hw⟩
  ·have U:Hid (DH f f wss Z=false):=Mz (.inr (by rw[HA.out,HB.out];exact hl));have j:((Y:Int) != (I:Int))=true:=by simp;omega
   clear hW;go_enter func80,ntmps80;go_wp2
   all_goals
    go_ret;exact⟨by rw[U.out];rfl,V⟩
 ·have U:Hid (DH f g wss Z=false):=Mz (.inl J);have j:(f != g)=true:=by simp[J]
  clear hW;go_enter func80,ntmps80;go_wp2
  all_goals
   go_ret;exact⟨by rw[U.out];rfl,V⟩
theorem akZ(fold:Bool)(a:Option Addr)(X D:Nat)(wss:Lq)(w:World)(A:Wds w a X wss)(N:X<=1000000)(B:∀x∈wss,x.length<=1000000)(C:DL fold wss≠0) :Calls ZP 79 #[bool fold,slice a X D] w λe w'=>e=.returned (.tuple #[.agg (AM false none 0 0),int i64 (DL fold wss)])/\Br w w':=by
 have I:=A.below ((AH _ _).alloc (AC _) (.cells (AM false none 0 0) 24));obtain⟨n,U⟩:∃n,DL fold wss=n:=⟨_,rfl⟩;have y:Hid (DL fold wss=n):=U;rw[U]at C⊢;clear U;go_enter func79,ntmps79
 go_wp2_with fail
 refine(acJ fold a X D wss _ I N B).mono ?_;rintro e Z ⟨rfl,H⟩;rw[y.out];have Y:Z.heap[w.heap.size]?=some (.cells (AM false none 0 0) 24 (0,0)):=(H.block _ sm).trans (AT _ _);have J:Br w Z:=((AH _ _).alloc (AC _) _).trans (H.mono sm);have z0:Z.cell? ⟨w.heap.size,0,none⟩=some (bool false):=by simp[cell?,Y]
 have v:Z.cell? ⟨w.heap.size,1,none⟩=some (slice none 0 0):=by simp[cell?,Y]
 have o:Z.frozen? ⟨w.heap.size,0,none⟩=false:=by simp[frozen?,Y]
 have s:Z.frozen? ⟨w.heap.size,1,none⟩=false:=by simp[frozen?,Y]
 go_wp2;have V:=AJ (i:=1) (AJ (i:=0) Y (bool false)) (slice none 0 0);refine Vl (NH rfl rfl (by simpa using V)) rfl ?_;exact⟨rfl,(J.setCell (AC _) _).setCell (AC _) _⟩
theorem aoo(fold:Bool)(a:Option Addr)(Y N:Nat)(xs:List Int)(w:World)(U:Bys w a Y xs)(V:Y<=1000000) :Calls ZP 124 #[bool fold,slice a Y N] w λe w'=>∃X c1,e=.returned (slice X Y c1)/\Ch w' w.heap.size (slice X Y c1) Y (AO fold xs)/\Br w w':=
 (ags fold a Y N xs w U V).mono λe w' ⟨v,J,Z,I⟩=>by obtain⟨X,c1,rfl,_,h⟩:=KL Z (MD U.2);exact⟨X,c1,J,Z,I⟩
theorem aiA(fold:Bool)(a:Option Addr)(la ca:Nat)(wss:Lq)(w:World)(hA:Wds w a la wss)(aq:la<=1000000)(hM:∀x∈wss,x.length<=1000000)(hc:DL fold wss=0) :Calls ZP 79 #[bool fold,slice a la ca] w λe w'=>∃v,e=.returned (.tuple #[.agg #[bool fold,v],int i64 0])/\BI w' w.heap.size v (AZ fold wss)/\Br w w':=by
  have aG:=hA.below ((AH _ _).alloc (AC _) (.cells (AM false none 0 0) 24));have HN:Hid (DL fold wss=0):=hc;have HL:=AA hA.len;clear hc;go_enter func79,ntmps79
  go_wp2_with fail
  refine(acJ fold a la ca wss _ aG aq hM).mono ?_;rintro e Z ⟨rfl,hb⟩;rw[HN.out];have hz:Z.heap[w.heap.size]?=some (.cells (AM false none 0 0) 24 (0,0)):=(hb.block _ sm).trans (AT _ _);have aF:Br w Z:=((AH _ _).alloc (AC _) _).trans (hb.mono sm);have aj:w.heap.size<Z.heap.size:=(AD.1 hz).1;go_wp2
  go_loopw[8] (λi wr=>∃(k:Nat)(v:Value),k<=la/\i=int i64 k/\Br w wr/\wr.heap[w.heap.size]?=some (.cells (AM false none 0 0) 24 (0,0))/\wr.heap[Z.heap.size]?=some (.cells #[bool fold,v] 24 (0,0))/\BI wr w.heap.size v (AZ fold (wss.take k))) (λi _=>la-(intOf i).toNat)
  case atStart=>exact⟨0,slice none 0 0,AR _,rfl,aF.alloc om _,(Bg _ _ _ aj).trans hz,AT _ _,by simpa[AZ]using BI.nil _ _⟩
  case round=>
    obtain⟨k,v,hk,rfl,a7,Y,N,U⟩:=hrel
    by_cases ap:k<la
    ·
      obtain⟨bb,off,a',l,c,x,rfl,aA,J,hx,hX,aM⟩:=(hA.below a7).at_ ap;have ag:l<=1000000:=by have:=Ff hM hx;rw[hX.len]at this;exact this
      obtain⟨H,I,rfl,az,hW⟩:=U.wds;have s0:wr.cell? ⟨Z.heap.size,0,none⟩=some (bool fold):=by simp[cell?,N]
      have s1:wr.cell? ⟨Z.heap.size,1,none⟩=some (slice H (AZ fold (wss.take k)).length I):=by simp[cell?,N]
      have ai:(AZ fold (wss.take k)).length<=1000000:=by have:=Nb fold (wss.take k);have:=MU k wss;omega
      have HX:=AA hx;clear hx;have kc:=Vi J;have ks:=Vi s1;have cW:∀d os,Calls ZP 123 #[bool fold,slice a' l c,slice H (AZ fold (wss.take k)).length I] (grow (redrawn wr d) os) λe w''=>e=.returned (int i64 (BV fold x (AZ fold (wss.take k))))/\∃p:Regrown,w''=grow (redrawn wr p.d) p.os:=
        λd os=>Calls.regrown_of (ahF fold a' H l c _ I x (AZ fold (wss.take k)) _ (hX.below (Vf wr d os)) ag (hW.below (Vf wr d os)) ai (aei _ (λy hy=>hM y (EG hy))))
      go_wp2;refine wp_region_quiet_below mixed kr ?_
      repeat (go_big_quiet_step (exact cW _ _))
      refine wpQuiet_nil ?_;rintro _ ⟨⟨dq,af⟩,rfl⟩;obtain⟨X,aa⟩:∃X,grow (redrawn wr dq) af=X:=⟨_,rfl⟩;rw[aa];have B:Br wr X:=aa ▸ Vf wr dq af;clear aa kc ks cW;have a8:Br w X:=a7.trans (B.mono a7.size);have A:X.heap[w.heap.size]?=_:=(B.block _ (AD.1 Y).1).trans Y;have s:X.heap[Z.heap.size]?=_:=(B.block _ (AD.1 N).1).trans N;have o:=U.below B;have aJ:X.cell? ⟨bb,off+k,none⟩=some (slice a' l c):=(B.cell (p:=⟨bb,off+k,none⟩) aA).trans J;clear U hW N Y s0 s1 J;have HM:Hid (AZ fold (wss.take (k+1))=GK fold (AZ fold (wss.take k)) x):=by rw[As HX.out,Ka];rfl
      obtain⟨q,hq⟩:∃q,BV fold x (AZ fold (wss.take k))=q:=⟨_,rfl⟩;have HQ:Hid (BV fold x (AZ fold (wss.take k))=q):=hq;rw[hq];clear hq
      by_cases aL:0<=q
      ·
        have HF:Hid (AZ fold (wss.take (k+1))=AZ fold (wss.take k)):=by
          rw[HM.out];unfold GK;rw[HQ.out,Va om]
          rfl
        go_wp2
        go_roundw
        case rel=>exact⟨k+1,_,by omega,by go_num,a8,A,s,by rw[HF.out];exact o⟩
        case measure=>simp[intOf];omega
      ·
        have HF:Hid (AZ fold (wss.take (k+1))=AZ fold (wss.take k)++[AO fold x]):=by
          rw[HM.out];unfold GK;rw[HQ.out,Vb om]
          rfl
        obtain⟨i0,hi,ax,aw,au⟩:=Vk OT;have s1:X.cell? ⟨Z.heap.size,1,none⟩=some (slice H (AZ fold (wss.take k)).length I):=by simp[cell?,s]
        obtain⟨es,e1,e2,e3⟩:=o;have aD:∀n,Bys (X.drewN n) a' l x:=λn=>(hX.below B).below ⟨rfl,rfl,rfl,AC _,λ_ _=>rfl⟩;have hd:∀n,Br X (X.drewN n):=λn=>⟨rfl,rfl,rfl,AC _,λ_ _=>rfl⟩;obtain⟨m,hm⟩:∃m,(AZ fold (wss.take k)).length=m:=⟨_,rfl⟩;rw[hm]at s1 s e1 e2 ai⊢;have ae:=AA hm;clear hm;go_wp2;have aC:Bys X.drew a' l x:=aD 1;have ay:Br X X.drew:=hd 1
        go_region_law (first
          | (go_simp;go_at_call 124;refine (aoo fold a' l c x X.drew aC ag).mono ?_;rintro e w3 ⟨a3,c3,rfl,ab,aB⟩
             have a1:Br X w3:=ay.trans aB;have a2:=DJ e1 a1;have C:w3.heap[Z.heap.size]?=some (.cells #[bool fold,slice H m I] 24 (0,0)):=(a1.block _ (AD.1 s).1).trans s;have ak:w3.cell? ⟨Z.heap.size,1,none⟩=some (slice H m I):=by simp[cell?,C]
             have ar:Z.heap.size<w3.heap.size:=(AD.1 C).1;have aI:Z.heap.size≠w3.heap.size:=by omega
             have aH:w3.heap.size≠Z.heap.size:=by omega
             have aK:(w3.alloc (.cells #[slice a3 l c3] 32)).cell? ⟨Z.heap.size,1,none⟩=some (slice H m I):=by rw[OH _ _ _ ar];exact ak
             have ao:=Gz a2 C (Vc kr);have D:Br w w3:=a8.trans (a1.mono a8.size);dsimp only)
          | (refine step_append_lies _ (by rfl) _ _ 22 (by rfl) w.heap.size 32 i0 (.slice none 0 0) 1 24 underlying22 hi ax aw au rfl (by decide) (.slice H m I) m es (by rfl) (a2.alloc _) ⟨w3.heap.size,0,none⟩ 1 1 [.slice a3 l c3] (by rfl) rfl (cell_one_new _ _ _) (by simp [Value.oneCell']) (by decide) (by unfold maxLen;omega) om (by have:=D.size;simp;omega) _ rfl ?_
             intro g5 c5 w5 ac V aO aN;have a6:w5.heap[Z.heap.size]?=some (.cells #[bool fold,slice H m I] 24 (0,0)):=(V.block _ (by simp;have:=(AD.1 C).1;omega) (Ne.symm ao)).trans ((Bg _ _ _ (AD.1 C).1).trans C);have q0:w5.cell? ⟨Z.heap.size,1,none⟩=some (slice H m I):=by simp[cell?,a6]
             have q1:w5.frozen? ⟨Z.heap.size,1,none⟩=false:=by simp[frozen?,a6]))
        all_goals
          go_wp2;have aE:Br w w5:=(D.alloc (by have:=D.size;omega) _).grown V (by simp;have:=D.size;omega) (λj hj=>(a2.lt j hj).1);have al:w5.heap[w.heap.size]?=some (.cells (AM false none 0 0) 24 (0,0)):=by have h3:w3.heap[w.heap.size]?=_:=(a1.block _ (AD.1 A).1).trans A;exact(V.block _ (by simp;have:=(AD.1 h3).1;omega) (Ne.symm (Gz a2 h3 (Vc kr)))).trans ((Bg _ _ _ (AD.1 h3).1).trans h3)
          go_roundw
          case rel=>
            refine⟨k+1,_,by omega,by go_num,aE.setCell (by show w.heap.size<=Z.heap.size;omega) _,(AQ w5 ⟨Z.heap.size,1,none⟩ _ _ (by simp;omega)).trans al,by simpa using AJ (i:=1) a6 (.slice (some ⟨g5,0,none⟩) (m+1) c5),?_⟩;rw [HF.out];have am:=BI.step (wss:=AZ fold (wss.take k)) (xs:=AO fold x) (e:=.slice a3 l c3) (es:=es) (v:=.slice H m I) (by rw [ae.out];exact a2.alloc _) (by rw [ae.out];exact e2)
              (λi e xs he hx=>⟨DJ (DJ (e3 i e xs he hx).1 a1) ((AH _ _).alloc (AC _) _),(e3 i e xs he hx).2⟩) (by rw[Ew,hX.len];exact(abR (ab.alloc _) (by have:=a8.size;simpa using this))) (MD hX.2) (by rw[ae.out];exact ac) V
            exact am.turned (BH w5 Z.heap.size 1 _) a6 (Vc kr) (Vc kr)
          case measure=>simp[intOf];omega
    ·
      obtain rfl:k=la:=by omega
      have HF:Hid (wss.take k=wss):=Ap (by have:=HL.out;omega);have s0:wr.cell? ⟨Z.heap.size,0,none⟩=some (bool fold):=by simp[cell?,N]
      obtain⟨H,I,rfl,az,hW⟩:=U.wds;have s1:wr.cell? ⟨Z.heap.size,1,none⟩=some (slice H (AZ fold (wss.take k)).length I):=by simp[cell?,N]
      have z0:wr.cell? ⟨w.heap.size,0,none⟩=some (bool false):=by simp[cell?,Y]
      have z1:wr.cell? ⟨w.heap.size,1,none⟩=some (slice none 0 0):=by simp[cell?,Y]
      have y0:wr.frozen? ⟨w.heap.size,0,none⟩=false:=by simp[frozen?,Y]
      have y1:wr.frozen? ⟨w.heap.size,1,none⟩=false:=by simp[frozen?,Y]
      go_wp2;have A:=AJ (i:=1) (AJ (i:=0) Y (bool fold)) (slice H (AZ fold (wss.take k)).length I);refine Vl (NH rfl rfl (by simpa using A)) rfl ?_;refine⟨_,rfl,?_,(a7.setCell (AC _) _).setCell (AC _) _⟩;have ho:=(U.turned (BH wr w.heap.size 0 (bool fold)) Y (Vc kr) (Vc kr)).turned (BH _ w.heap.size 1 (slice H (AZ fold (wss.take k)).length I)) (AJ (i:=0) Y (bool fold)) (Vc kr) (Vc kr);rw[HF.out]at ho⊢;exact ho
def Fw(fold:Bool)(wss:Lq):Bool:=decide (DL fold wss=0)&&decide (AZ fold wss=wss)
theorem acH(fold:Bool)(a:Option Addr)(X J:Nat)(wss:Lq)(w:World)(hA:Wds w a X wss)(C:X<=1000000)(hM:∀x∈wss,x.length<=1000000) :Calls ZP 46 #[.agg (AM fold a X J)] w λe w'=>e=.returned (bool (Fw fold wss))/\Br w w':=by
 have N:Br w (w.alloc (.cells (AM fold a X J) 24)):=(AH _ _).alloc (AC _) _;have B:=hA.below N;have H:=AT w (.cells (AM fold a X J) 24)
 by_cases V:DL fold wss=0
 ·have HR:Hid (Fw fold wss=DH fold fold (AZ fold wss) wss):=by simp[Hid,Fw,DH,V]
  go_enter func46,ntmps46
  go_wp2_with fail
  refine(aiA fold a X J wss _ B C hM V).mono ?_;rintro e Y ⟨v,rfl,I,A⟩;have Z:Br w Y:=N.trans (A.mono sm);obtain⟨av,cv,rfl,a7,hW⟩:=I.wds;have h1:Y.heap[w.heap.size]?=_:=(A.block _ sm).trans H;have a1:w.heap.size<Y.heap.size:=(AD.1 h1).1;have c0:Y.cell? ⟨w.heap.size,0,none⟩=some (bool fold):=by simp[cell?,h1]
  have c1:Y.cell? ⟨w.heap.size,1,none⟩=some (slice a X J):=by simp[cell?,h1]
  have D:(AZ fold wss).length<=1000000:=by have:=Nb fold wss;have:=hA.len;omega
  have a2:w.heap.size≠Y.heap.size:=by omega
  have U:Br Y (Y.alloc (.cells (AM fold av (AZ fold wss).length cv) 24)):=(AH _ _).alloc (AC _) _;have o:=hW.below U;have j:=(hA.below Z).below U;clear V
  go_wp2_with fail
  refine(ahh fold fold av a _ cv X J (AZ fold wss) wss _ o j D).mono ?_;rintro e w3 ⟨rfl,s⟩;go_wp2;go_ret;exact⟨by rw[HR.out];rfl,Z.trans ((U.trans (s.mono sm)).mono Z.size)⟩
 ·have HR:Hid (Fw fold wss=false):=by simp[Hid,Fw,V]
  obtain⟨n,y⟩:∃n,DL fold wss=n:=⟨_,rfl⟩;have HC:=AA V;have HN:Hid (DL fold wss=n):=y;rw[y]at V;clear y;have a6:(n==0)=false:=by simp[V]
  go_enter func46,ntmps46
  go_wp2_with fail
  refine(akZ fold a X J wss _ B C hM HC.out).mono ?_;rintro e Y ⟨rfl,A⟩;rw[HN.out];have Z:Br w Y:=N.trans (A.mono sm);go_wp2;go_ret;exact⟨by rw[HR.out];rfl,Z.alloc Z.size _⟩
theorem IT{α:Type}{P:List α->Prop}(h0:P [])(h1:∀l x,P l->P (l++[x])):∀l,P l:=by
 intro l;obtain⟨n,Y⟩:∃n,l.length=n:=⟨_,rfl⟩
 induction n generalizing l with
 |zero=>obtain rfl:=Bz Y;exact h0
 |succ n ih=>
  obtain⟨Z,x,rfl⟩:∃Z x,l=Z++[x]:=⟨l.dropLast,l.getLast (by intro h;simp[h]at Y),(Em _).symm⟩;exact h1 Z x (ih Z (by simpa using Y))
theorem amI:∀(l:Lq),(cnt l).1=l.length/\(cnt l).2.1=Ds l/\((cnt l).2.2.1 > 32↔∃x∈l,x.length > 32)/\0<=(cnt l).2.2.2/\(l≠[]->((cnt l).2.2.2=0↔∃x∈l,x.length=0)):=by
 apply IT
 ·simp[cnt,Ds]
 ·intro l x ⟨h1,h2,h3,h4,h5⟩;rw[ad5,aeX];simp only[Kq];refine⟨by rw[h1];simp,by rw[h2],?_,by split<;>omega,λ_=>?_⟩
  ·constructor
   ·intro h
    by_cases X:x.length > 32
    ·exact⟨x,by simp,X⟩
    ·obtain⟨y,Z,Y⟩:=h3.1 om;exact⟨y,by simp[Z],Y⟩
   ·rintro⟨y,Z,Y⟩
    rcases Bf.1 Z with Z|Z
    ·have:=h3.2 ⟨y,Z,Y⟩;omega
    ·simp at Z;subst Z;omega
  ·by_cases V:l=[]
   ·subst V;simp[cnt]
   ·have U:l.length≠0:=λe=>V (Bz e);have h6:=h5 V
    constructor
    ·intro h
     by_cases X:x.length=0
     ·exact⟨x,by simp,X⟩
     ·split at h
      ·omega
      ·obtain⟨y,Z,Y⟩:=h6.1 h;exact⟨y,by simp[Z],Y⟩
    ·rintro⟨y,Z,Y⟩
     rcases Bf.1 Z with Z|Z
     ·have:=h6.2 ⟨y,Z,Y⟩;rw[Va om];exact this
     ·simp at Z;subst Z
      split<;>omega
theorem afR(f:Nat->Bool):JX f=if f 0 then 50 else if f 1 then 51 else if f 2 then 52 else if f 3 then 53 else if f 4 then 54 else if f 5 then 55 else 0:=by
 unfold JX;simp only[List.range,List.range.loop,List.find?]
 cases f 0<;>cases f 1<;>cases f 2<;>cases f 3<;>cases f 4<;>cases f 5<;>rfl
theorem amB(fold:Bool)(wss:Lq):Ey fold wss=DL fold wss:=by
 obtain⟨h1,h2,h3,h4,h5⟩:=amI wss;unfold Ey DL;rw[afR];simp only[Ku,h1,h2,amE,decide_eq_true_eq,h3]
 by_cases h0:wss.length=0
 ·rw[Vb om,Vb h0]
 ·rw[Va om,Va h0];have X:wss≠[]:=λe=>h0 (by rw[e];rfl)
  by_cases Z:wss.length > 64
  ·rw[Vb om,Vb Z]
  ·rw[Va om,Va Z]
   by_cases Y:∃x∈wss,x.length=0
   ·rw[Vb ((h5 X).2 Y),Vb Y]
   ·rw[Va (λh=>Y ((h5 X).1 h)),Va Y]
theorem NF(fold:Bool)(wss:Lq):An fold wss=Fw fold wss:=by unfold An Fw;rw[amB]
abbrev AF:=Int×Int
def Bt(wss:Lq)(k:Int):Int:=if 0<=k/\k<wss.length then(((wss[k.toNat]?).getD []).length:Int) else 0
def DK(a b:Int):Int:=if a<b then -1 else if b<a then 1 else 0
def orI(a b c:Int):Int:=if a≠0 then a else if b≠0 then b else c
def apj(wss:Lq)(a b:AF):Int:=orI (DK a.1 b.1) (DK (Bt wss b.2) (Bt wss a.2)) (DK a.2 b.2)
def BD(wss:Lq)(a b:AF):Bool:=decide (apj wss a b<0)
theorem Gd{wss:Lq}{a b:AF}:BD wss a b=true↔a.1<b.1∨a.1=b.1/\(Bt wss b.2<Bt wss a.2∨Bt wss b.2=Bt wss a.2/\a.2<b.2):=by
 unfold BD apj orI DK;simp only[decide_eq_true_eq]
 by_cases h1:a.1<b.1
 ·simp[h1]
 ·by_cases h2:b.1<a.1
  ·simp[h1,h2];try omega
  ·by_cases h3:Bt wss b.2<Bt wss a.2
   ·simp[h1,h2,h3];try omega
   ·by_cases h4:Bt wss a.2<Bt wss b.2
    ·simp[h1,h2,h3,h4];try omega
    ·by_cases h5:a.2<b.2
     ·simp[h1,h2,h3,h4,h5];try omega
     ·by_cases h6:b.2<a.2
      ·simp[h1,h2,h3,h4,h5,h6];try omega
      ·simp[h1,h2,h3,h4,h5,h6]
theorem ab2(wss:Lq)(a:AF):BD wss a a=false:=by
 cases e:BD wss a a with
 |false=>rfl
 |true=>have:=Gd.1 e;omega
theorem abG{wss:Lq}{a b c:AF}(h1:BD wss a b=true)(h2:BD wss b c=true):BD wss a c=true:=by have h1:=Gd.1 h1;have h2:=Gd.1 h2;exact Gd.2 om
theorem afx{wss:Lq}{a b:AF}(h1:BD wss a b=true):BD wss b a=false:=by
 cases e:BD wss b a with
 |false=>rfl
 |true=>
  have h1:=Gd.1 h1;have h2:=Gd.1 e;omega
theorem afz{wss:Lq}{a b:AF}(h1:BD wss a b=false)(h2:BD wss b a=false):a=b:=by
 have h1:¬BD wss a b=true:=by rw[h1];simp
 have h2:¬BD wss b a=true:=by rw[h2];simp
 rw[Gd]at h1 h2;obtain⟨x,y⟩:=a;obtain⟨u,v⟩:=b;dsimp only at h1 h2;simp only[Jk]
 by_cases Z:y=v
 ·subst Z;omega
 ·omega
theorem abV{wss:Lq}:∀{l m:List AF},l.Pairwise (λa b=>BD wss a b=true)->m.Pairwise (λa b=>BD wss a b=true)->(∀x,x∈l↔x∈m)->l=m
 |[],[],_,_,_=>rfl
 |[],b::m,_,_,h=>by have:=(h b).2 sm;simp at this
 |a::l,[],_,_,h=>by have:=(h a).1 sm;simp at this
 |a::l,b::m,h1,h2,h=>by
  rw[Jn]at h1 h2;have N:a=b:=by
   have ha:=(h a).1 sm;have U:=(h b).2 sm
   rcases CR.1 ha with e|ha
   ·exact e
   ·rcases CR.1 U with e|U
    ·exact e.symm
    ·have I:=h2.1 a ha;have J:=h1.1 b U;rw[afx I]at J
     cases J
  subst N;have V:a ∉ l:=λZ=>by have:=h1.1 a Z;rw[ab2]at this;cases this
  have X:a ∉ m:=λZ=>by have:=h2.1 a Z;rw[ab2]at this;cases this
  congr 1;refine abV h1.2 h2.2 λx=>⟨λY=>?_,λY=>?_⟩
  ·rcases CR.1 ((h x).1 (by simp[Y]))with e|Z
   ·subst e;exact absurd Y V
   ·exact Z
  ·rcases CR.1 ((h x).2 (by simp[Y]))with e|Z
   ·subst e;exact absurd Y X
   ·exact Z
def putN(wss:Lq)(l:List AF)(h:AF):Nat:=l.length-(l.reverse.takeWhile (λx=>BD wss h x)).length
def Es(wss:Lq)(l:List AF)(h:AF):List AF:=l.take (putN wss l h)++h::l.drop (putN wss l h)
theorem aaD{α:Type}{p:α->Bool}:∀{xs ys:List α},(∀x∈xs,p x=true)->(∀y,ys[0]?=some y->p y=false)->(xs++ys).takeWhile p=xs
 |[],[],_,_=>rfl
 |[],y::ys,_,h=>by have:=h y rfl;simp[this]
 |x::xs,ys,h1,h2=>by rw[CT,List.takeWhile_cons,h1 x sm];simp only[if_true];rw[aaD (λz Z=>h1 z (by simp[Z])) h2]
theorem afK{wss:Lq}{l:List AF}{h:AF}{k:Nat}(hk:k<=l.length)(h1:∀x∈l.drop k,BD wss h x=true)(h2:∀x,0<k->l[k-1]?=some x->BD wss h x=false):putN wss l h=k:=by
 unfold putN;have e:l.reverse=(l.drop k).reverse++(l.take k).reverse:=by rw[<-List.reverse_append,Dx]
 rw[e,aaD]
 ·simp;omega
 ·intro x Y;exact h1 x (by simpa using Y)
 ·intro y Z
  by_cases h0:k=0
  ·subst h0;simp at Z
  ·refine h2 y om ?_;rw[List.getElem?_reverse (by rw[Ag];omega),Ag,FT]at Z;rw[Vb om]at Z;rw[<-Z];congr 1;omega
theorem anZ(wss:Lq)(l:List AF)(h:AF):putN wss l h<=l.length:=by unfold putN;omega
theorem am5{wss:Lq}{l:List AF}{h x:AF}:x∈Es wss l h↔x=h∨x∈l:=by
 unfold Es;rw[Bf,CR]
 constructor
 ·rintro(h1|h1|h1)
  ·exact .inr (EG h1)
  ·exact .inl h1
  ·exact .inr (Iq h1)
 ·rintro(h1|h1)
  ·exact .inr (.inl h1)
  ·rw[<-Dx (putN wss l h) l,Bf]at h1
   rcases h1 with h1|h1
   ·exact .inl h1
   ·exact .inr (.inr h1)
theorem ahD{wss:Lq}{l:List AF}{h:AF}(B:l.Pairwise (λa b=>BD wss a b=true))(v:h ∉ l):(Es wss l h).Pairwise (λa b=>BD wss a b=true):=by
 obtain⟨k,hk,h1,h2⟩:∃k,k<=l.length/\(∀x∈l.drop k,BD wss h x=true)/\(∀x,0<k->l[k-1]?=some x->BD wss h x=false):=by
  have H:∀n,n<=l.length->(∀x∈l.drop n,BD wss h x=true)->∃k,k<=l.length/\(∀x∈l.drop k,BD wss h x=true)/\(∀x,0<k->l[k-1]?=some x->BD wss h x=false):=by
   intro n
   induction n with
   |zero=>intro h1 h2;exact⟨0,h1,h2,λx h0=>by omega⟩
   |succ n ih=>
    intro h1 h2;obtain⟨x,X⟩:∃x,l[n]?=some x:=⟨l[n]'om,by simp⟩
    cases e:BD wss h x with
    |false=>exact⟨n+1,h1,h2,λy _ Y=>by simp at Y;rw[X]at Y;rw[<-AK Y];exact e⟩
    |true=>
     refine ih om λy Y=>?_;rw[List.drop_eq_getElem_cons (show n<l.length by omega)]at Y;have:l[n]'om=x:=by have:=X;rw[Ar om]at this;exact AK this
     rw[this]at Y
     rcases CR.1 Y with rfl|Y
     ·exact e
     ·exact h2 y Y
  exact H l.length (AC _) sm
 have A:=afK hk h1 h2;unfold Es;rw[A];rw[List.pairwise_append,Jn];have Z:=B;rw[<-Dx k l,List.pairwise_append]at Z;refine⟨Z.1,⟨h1,Z.2.1⟩,λa ha b C=>?_⟩;have I:BD wss a h=true:=by
  have D:0<k:=by
   by_cases h0:k=0
   ·subst h0;simp at ha
   ·omega
  obtain⟨x,X⟩:∃x,l[k-1]?=some x:=⟨l[k-1]'om,by simp⟩;have N:BD wss x h=true:=by
   cases e:BD wss x h with
   |true=>rfl
   |false=>exact absurd (by rw[afz e (h2 x D X)]at X;exact AX X) v
  obtain⟨i,J⟩:=DR ha;have U:l[i]?=some a:=by rw[FT]at J;split at J;exact J;cases J
  have s:i<k:=by have:=(AP.1 J).1;simp at this;omega
  by_cases V:i=k-1
  ·subst V;rw[X]at U;rw[<-AK U];exact N
  ·have:=List.pairwise_iff_getElem.1 B i (k-1) om om om;rw[(AP.1 U).2,(AP.1 X).2]at this;exact abG this N
 rcases CR.1 C with rfl|C
 ·exact I
 ·exact abG I (h1 b C)
def FP(fold:Bool)(wss:Lq)(text:List Int)(place:Nat)(k:Nat):Bool:=atL fold text place ((wss[k]?).getD [])
def Do(fold:Bool)(wss:Lq)(frm:Int)(text:List Int)(place:Nat)(n:Nat):List AF:=
 (List.range n).foldl (λl k=>if FP fold wss text place k then Es wss l (frm+place,(k:Int)) else l) []
theorem Lz(fold:Bool)(wss:Lq)(frm:Int)(text:List Int)(place n:Nat) :Do fold wss frm text place (n+1)=if FP fold wss text place n then Es wss (Do fold wss frm text place n) (frm+place,(n:Int)) else Do fold wss frm text place n:=by simp[Do,El,FI]
theorem Na{fold:Bool}{wss:Lq}{frm:Int}{text:List Int}{place:Nat}{h:AF}:∀{n:Nat},h∈Do fold wss frm text place n↔∃k,k<n/\FP fold wss text place k=true/\h=(frm+place,(k:Int))
 |0=>by simp[Do]
 |n+1=>by
  have Z:=Na (fold:=fold) (wss:=wss) (frm:=frm) (text:=text) (place:=place) (h:=h) (n:=n);rw[Lz]
  cases e:FP fold wss text place n with
  |false=>
   simp only[Bool.false_eq_true,if_false,Z]
   constructor
   ·rintro⟨k,h1,h2,h3⟩;exact⟨k,by omega,h2,h3⟩
   ·rintro⟨k,h1,h2,h3⟩
    by_cases hk:k=n
    ·subst hk;rw[e]at h2;cases h2
    ·exact⟨k,by omega,h2,h3⟩
  |true=>
   simp only[if_true,am5,Z]
   constructor
   ·rintro(h1|⟨k,h1,h2,h3⟩)
    ·exact⟨n,by omega,e,h1⟩
    ·exact⟨k,by omega,h2,h3⟩
   ·rintro⟨k,h1,h2,h3⟩
    by_cases hk:k=n
    ·subst hk;exact .inl h3
    ·exact .inr ⟨k,by omega,h2,h3⟩
theorem abx(fold:Bool)(wss:Lq)(frm:Int)(text:List Int)(place:Nat):∀n,(Do fold wss frm text place n).Pairwise (λa b=>BD wss a b=true)
 |0=>by simp[Do]
 |n+1=>by
  have Z:=abx fold wss frm text place n;rw[Lz]
  split
  ·refine ahD Z λY=>?_;obtain⟨k,h1,h2,h3⟩:=Na.1 Y;simp at h3;omega
  ·exact Z
def Et(fold:Bool)(wss:Lq)(frm:Int)(text:List Int)(n:Nat):List AF:=(List.range n).flatMap λplace=>Do fold wss frm text place wss.length
def EL(fold:Bool)(wss:Lq)(frm:Int)(text:List Int):List AF:=Et fold wss frm text (text.length+1)
theorem NU(fold:Bool)(wss:Lq)(frm:Int)(text:List Int)(n:Nat):Et fold wss frm text (n+1)=Et fold wss frm text n++Do fold wss frm text n wss.length:=by simp[Et,El]
def Gj(Y Z:Int)(l:List AF):List AF:=l.filter λh=>decide (Y<h.1)&&decide (h.1<=Z)
theorem afN(x y:Int)(w:World) :Calls ZP 185 #[int i64 x,int i64 y] w λe w'=>e=.returned (int i64 (DK x y))/\w=w':=by
 by_cases h1:x<y
 ·have Z:Hid (DK x y=-1):=by simp[Hid,DK,h1]
  go_enter func185,ntmps185;go_wp2;go_ret;exact⟨by rw[Z.out];rfl,rfl⟩
 ·by_cases h2:y<x
  ·have Z:Hid (DK x y=1):=by simp[Hid,DK,h1,h2]
   go_enter func185,ntmps185;go_wp2;go_ret;exact⟨by rw[Z.out];rfl,rfl⟩
  ·have Z:Hid (DK x y=0):=by simp[Hid,DK,h1,h2]
   go_enter func185,ntmps185;go_wp2;go_ret;exact⟨by rw[Z.out];rfl,rfl⟩
def orL(zs:List Int):Int:=(zs.find? (λz=>z != 0)).getD 0
theorem ant{Z rest:List Int}{z:Int}(h:∀x∈Z,x=0)(Y:z≠0):orL (Z++z::rest)=z:=by unfold orL;rw[List.find?_append,List.find?_eq_none.2 (λx X=>by simp[h x X])];simp[Y]
theorem akV{zs:List Int}(h:∀x∈zs,x=0):orL zs=0:=by
 unfold orL;rw[List.find?_eq_none.2 (λx Z=>by simp[h x Z])]
 rfl
theorem aoO(a:Option Addr)(Z s:Nat)(zs:List Int)(w:World)(v:Sl1 (int i64) w a Z zs)(y:Z<=1000000) :Calls ZP 184 #[slice a Z s] w λe w'=>e=.returned (int i64 (orL zs))/\w=w':=by
 obtain⟨H,I⟩:=v;have B:=AA H;clear H;go_enter func184,ntmps184;go_wp2
 go_loop[8] (λi=>∃k:Nat,k<=Z/\i=int i64 k/\Hid (∀x∈zs.take k,x=0)) (λi=>Z-(intOf i).toNat)
 case atStart=>exact⟨0,AR _,rfl,λx Y=>by simp at Y⟩
 case round=>
  obtain⟨k,hk,rfl,J⟩:=hrel
  by_cases U:k<Z
  ·obtain⟨b,off,rfl,o,D⟩:=I.resolve_left om;obtain⟨z,V⟩:∃z,zs[k]?=some z:=⟨zs[k]'(by rw[B.out];exact U),by simp⟩;have N:w.cell? ⟨b,off+k,none⟩=some (int i64 z):=D k z V;have C:=AA V;clear V D I
   by_cases h0:z=0
   ·subst h0;have X:Hid (∀x∈zs.take (k+1),x=0):=by
     rw[As C.out];intro x Y
     rcases Bf.1 Y with Y|Y
     ·exact J.out x Y
     ·simpa using Y
    go_wp2
    go_round
    case rel=>exact⟨k+1,by omega,by go_num,X⟩
    case measure=>simp[intOf];omega
   ·have X:Hid (orL zs=z):=by
     have h:=ant (rest:=zs.drop (k+1)) J.out h0
     rwa[<-Mu C.out]at h
    have A:(z != 0)=true:=by simp[h0]
    clear h0;go_wp2;go_ret;exact⟨by rw[X.out];rfl,rfl⟩
  ·obtain rfl:k=Z:=by omega
   have X:Hid (orL zs=0):=by have h:=J.out;rw[Ap (by rw[B.out];exact AC _)]at h;exact akV h
   go_wp2;go_ret;exact⟨by rw[X.out];rfl,rfl⟩
theorem Sl1.lay{α:Type}(enc:α->Value)(w:World)(zs:List α)(t:TypeId)(n:Nat)(h:w.heap.size=n):Sl1 enc (w.alloc (.cells (zs.map enc).toArray t)) (some ⟨n,0,none⟩) zs.length zs:=by subst h;refine⟨rfl,.inr ⟨w.heap.size,0,rfl,by simp,λi x Z=>?_⟩⟩;have Y:=AT w (.cells (zs.map enc).toArray t);unfold cell?;dsimp only;rw[Y];simp[Z]
end Go.Proofs.YtaamacoicojhnaaGreat
