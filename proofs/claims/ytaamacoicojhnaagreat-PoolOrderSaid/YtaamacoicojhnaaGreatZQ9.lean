/- Proofs over the given program, part 9. -/
import Derived.Test.YtaamacoicojhnaaGreatZQ8
set_option linter.unusedVariables false
set_option linter.unusedSimpArgs false
set_option maxRecDepth 100000
set_option maxHeartbeats 16000000
open Go.Proofs.Tryz
open Go.Proofs.Tryz renaming prog→ZP
open Go.World(cell? frozen?)
open Option renaming some→E,none→O
open Go.Value renaming int→R,slice→T,pointer→L,bool→i6,tuple→ta,agg→i8
open Go.IntKind renaming i64→K
open Bool renaming false→M,true→G
open Go renaming World→Wa,Value→Vk
open Go.Ending renaming returned→ra
open Go.Obj renaming cells→i7
open List renaming length→lc
namespace Go.Proofs.YtaamacoicojhnaaGreat
open Go.RowKit Go.Sort
section
attribute[local go_sem] Oper.semAt_some
attribute[local simp] Ak Al
attribute[local go_sem] Ak Al
theorem ag1{α:Type}{B b base:Nat}{Pb:Nat->Wa->Wa->Prop}(hB:base<=B)(C:b<B)(H:∀r W N,Pb r W N->r≠b/\r<base)(f:α->List AF):BT B Pb (λs W=>amS b base (f s) W):=by
 rintro s W N row ⟨v,Y,ho⟩ U J;have Z:∀{k:Nat}{cs:Array Vk}{t:TypeId},W.heap[k]?=E (i7 cs t (0,0))->k=b∨base<=k->row≠E k:=λ{k cs t} hk I e=>by
  rcases J k e with⟨_,o,h1,h2⟩|h
  ·rw[hk]at h1;cases h1;cases h2
  ·have:=H k _ _ h;omega
 refine⟨v,(U.block b Y.lt (λe=>Z Y (.inl rfl) e.symm)).trans Y,ho.kept U ?_⟩
 rcases ho.2 with⟨rfl,_⟩|⟨g,cap,D,rfl,V,X,_⟩
 ·exact .inl rfl
 ·exact .inr λe=>Z X (.inr V) (by rw[<-e];rfl)
theorem SbX.owns{α:Type}{B g q:Nat}{nu st wm:Int}{b:Option Addr}{n c:Nat}(Y:g≠q)(f:α->Int):BT B (PbN g q) (λs W=>∃d,SbX g nu st wm b n c (f s) d W):=by
 rintro s W U row ⟨d,Z⟩ V X
 by_cases e:row=E g
 ·rcases X g e with⟨_,o,h1,h2⟩|h
  ·unfold SbX at Z;rw[Z]at h1;cases h1;cases h2
  ·rcases h with h|⟨_,h⟩
   ·exact absurd h Y
   ·exact h nu st wm b n c (f s) d Z
 ·exact⟨d,(V.block g Z.lt (Ne.symm e)).trans Z⟩
theorem KpN.node{bl g:Nat}(Z:bl≠g)(W:Wa)(y:Int):KpN bl g W (W.setCell ⟨g,4,O⟩ (R K y)):=by refine⟨by simp[World.setCell],λk cs t f hk _ Y _=>(AQ W ⟨g,4,O⟩ _ k Y).trans hk,.inl ?_,λnu st wm b n c z d X=>⟨y,X.node y⟩⟩;unfold Cb;rw[BC (a:=⟨bl,0,O⟩) (AQ W ⟨g,4,O⟩ _ bl Z)]
theorem acC{V Z:Wa}{bl g base n m:Nat}{v v':Vk}{xs ys:List Vk}(H:Boxed V bl 69 v)(X:V.ownsRow base 116 2 v m ys)(C:V.grownBy Z v.ownBlock)(a7:v'.ownBlock=v.ownBlock∨v'.ownBlock=E V.heap.size)
  (Y:Z.ownsRow base 116 2 v' n xs) (a2:bl<base) (a1:g<base) (a6:bl≠g) (a8:base<=V.heap.size) :
  KpN bl g V (Z.setCell ⟨bl,0,O⟩ v')/\Boxed Z bl 69 v/\Boxed (Z.setCell ⟨bl,0,O⟩ v') bl 69 v'/\(Z.setCell ⟨bl,0,O⟩ v').ownsRow base 116 2 v' n xs/\KeepsOthers V (Z.setCell ⟨bl,0,O⟩ v')/\(∀k,k<base->k≠bl->(Z.setCell ⟨bl,0,O⟩ v').heap[k]?=V.heap[k]?)/\base<=Z.heap.size:=by
 have B:∀k,k<base->v.ownBlock≠E k:=λk hk e=>by have:=(BA X k e).1;omega
 have N:Boxed Z bl 69 v:=(C.block bl H.lt (λe=>B bl a2 e.symm)).trans H;have hs:V.heap.size<=Z.heap.size:=C.size;have J:(Z.setCell ⟨bl,0,O⟩ v').heap.size=Z.heap.size:=by simp[World.setCell]
 have e1:Cb bl V=v.ownBlock:=by unfold Cb;rw[H.cell];rfl
 have e2:Cb bl (Z.setCell ⟨bl,0,O⟩ v')=v'.ownBlock:=by unfold Cb;rw[(N.set v').cell];rfl
 have U:∀k,k<base->k≠bl->(Z.setCell ⟨bl,0,O⟩ v').heap[k]?=V.heap[k]?:=λk hk I=>(AQ Z ⟨bl,0,O⟩ v' k I).trans (C.block k om (λe=>B k hk e.symm));have j:=BH Z bl 0 v';refine⟨⟨by rw[J];exact hs,λk cs t f hk hb _ hr=>?_,?_,λnu st wm b n c z d A=>⟨z,(U g a1 (Ne.symm a6)).trans A⟩⟩,N,N.set v',Y.kept j (.inr λe=>by have:=(BA Y bl e).1;omega),⟨by rw[J];exact hs,λk o ho hc=>?_⟩,U,by omega⟩
 ·rw[e1]at hr;rw[AQ Z ⟨bl,0,O⟩ v' k hb,C.block k (KpL.lt (bl:=bl) hk) (λe=>hr e.symm)];exact hk
 ·rw[e1,e2,J]
  rcases a7 with h|h
  ·exact .inl h
  ·refine .inr ⟨_,h,AC _,?_⟩;have:=(BA Y _ h).2;exact this
 ·have I:k≠bl:=λe=>by rw[e]at ho;unfold Boxed at H;rw[H]at ho;cases ho;cases hc
  have s:=(AD.1 ho).1;rw[AQ Z ⟨bl,0,O⟩ v' k I];refine(C.block k s (λe=>?_)).trans ho
  rcases X.2 with⟨h0,_⟩|⟨g',cap,aa,h0,_,D,_⟩
  ·rw[h0]at e;cases e
  ·rw[h0]at e;have e':k=g':=by simpa[Value.ownBlock]using e
   rw[e',D]at ho
   cases ho
   cases hc
theorem afi{W0:Wa}{B:Nat}{fold:Bool}{wss:Lb}(nu st wm:Int)(b:Option Addr)(n c z d:Nat)(m:Int)(bs:List Int)(w:Wa)(h:ET W0 B fold wss w)(hD:Bys w b n bs)(hn:n<=900000)(hr:An fold wss=G)(hm:-9223372036854775808<=m/\m<=9223372036854775807)(ap:KK (AB wss).length (Au wss) st wm n z d=G) :Calls ZP 200 #[L (E ⟨B,0,O⟩),i8 (blV nu st wm b n c),prV (z:Int) (d:Int),R K m] w λe w'=>∃v,e=ra (ta #[prV (Bp fold wss z (CU bs d m):Nat) (d+(Am n d m:Nat)),v,i6 (decide ((d:Int)+(Am n d m:Nat)=(n:Int)))])/\Ax w' w.heap.size v (Fs fold wss st wm bs z d m)/\La w w':=by
 obtain⟨i0,hi,bS,bR,bQ⟩:=Vh IG;obtain⟨W,hW⟩:∃W,W=((((w.alloc (i7 #[L (E ⟨B,0,O⟩)] 88)).alloc (i7 (blV nu st wm b n c) 120)).alloc (i7 #[R K (z:Int),R K (d:Int)] 247)).alloc (i7 #[R K 0,R K 0] 247)).alloc (i7 #[T O 0 0] 69):=⟨_,rfl⟩;have hB:La w W:=by rw[hW];exact(((((AH _ _).alloc (AC _) _).alloc sm _).alloc (by simp;omega) _).alloc (by simp;omega) _).alloc (by simp;omega) _
 have cB:W.heap.size=w.heap.size+1+1+1+1+1:=by rw[hW];simp
 have hO:Bx w.heap.size [i7 #[L (E ⟨B,0,O⟩)] 88,i7 (blV nu st wm b n c) 120,i7 #[R K (z:Int),R K (d:Int)] 247,i7 #[R K 0,R K 0] 247,i7 #[T O 0 0] 69] W:=by rw[hW];exact(((((Bx.nil _ w).snoc _ rfl).snoc _ sm).snoc _ sm).snoc _ sm).snoc _ sm
 have HC:Hid (∀V,RowKit.Below W.heap.size W V->V.cell? ⟨w.heap.size,0,O⟩=E (.pointer (E ⟨B,0,O⟩))/\(V.cell? ⟨w.heap.size+1,0,O⟩=E (.int .i64 nu)/\V.cell? ⟨w.heap.size+1,1,O⟩=E (.int .i64 st)/\V.cell? ⟨w.heap.size+1,2,O⟩=E (.int .i64 wm)/\V.cell? ⟨w.heap.size+1,3,O⟩=E (.slice b n c))/\(V.cell? ⟨w.heap.size+1+1,0,O⟩=E (.int .i64 (z:Int))/\V.cell? ⟨w.heap.size+1+1,1,O⟩=E (.int .i64 (d:Int)))/\
   V.heap[w.heap.size]?=E (i7 #[L (E ⟨B,0,O⟩)] 88 (0,0))/\V.heap[w.heap.size+1+1+1]?=E (i7 #[R K 0,R K 0] 247 (0,0))/\V.heap[w.heap.size+1+1+1+1]?=E (i7 #[T O 0 0] 69 (0,0))/\La w V):=λV N=>by
  have h:=hO.below N;exact⟨h.cell (i:=0) rfl rfl,⟨h.cell (i:=1) rfl rfl,h.cell (i:=1) rfl rfl,h.cell (i:=1) rfl rfl,h.cell (i:=1) rfl rfl⟩,⟨h.cell (i:=2) rfl rfl,h.cell (i:=2) rfl rfl⟩,h 0 _ rfl,h 3 _ rfl,h 4 _ rfl,hB.trans (N.mono hB.size)⟩
 have HR:=AA (aao nu st wm b n c z d W (h.below hB) om);rw[ap]at HR;unfold KK at ap;rw[Bq]at ap;obtain⟨b9,ca⟩:=ap;have cz:=Kf ca;have cy:z<(AB wss).length:=by omega
 have cE:d<=n:=by omega
 obtain⟨s1,s2,s3,s4,s5,s6,s7⟩:=Kf b9;have cI:=(agK h.len).2;have bU:wm<=1000000:=by omega
 have cf:lc bs=n:=hD.len;have am:(CU bs (d:Int) m).length=Am n d m:=by rw[agu bs d m om,cf]
 have hT:=Jw (n:=n) (d:=(d:Int)) (m:=m) om om;rw[Aa]at hT;have bH:∀x∈CU bs (d:Int) m,0<=x/\x<256:=λx hx=>by have:=hD.2 x (Iq (EG hx));omega
 obtain⟨F,hF⟩:∃F,CU bs (d:Int) m=F:=⟨_,rfl⟩;obtain⟨Ta,bD⟩:∃Ta,Am n (d:Int) m=Ta:=⟨_,rfl⟩;rw[hF]at am bH;rw[bD]at am hT;rw[hF,bD];have HF:=AA hF;have HU:=AA h;have HD:=AA hD;have HB:=AA hB;clear hF bD;obtain⟨q1,⟨q2,q3,q4,q5⟩,⟨q6,q7⟩,_⟩:=HC.out W (AH _ _);clear hO h hD hB b9 ca cz s6 s7 cI cf;refine Hc func200 rfl ?_;simp only[ntmps200,Cw,Ao,Bw,Nat.reduceAdd,Nat.reduceSub,Dd,Dc,DX,Da,Av,CT];go_upto_region 1 with fail
 rw[<-hW];clear hW;go_upto_region 3 with(go_at_call 241;refine HR.out.mono ?_;rintro e w1 ⟨rfl,bB⟩)
 clear q1 q2 q3 q4 q5 q6 q7 HR;obtain⟨q1,⟨q2,q3,q4,q5⟩,⟨q6,q7⟩,q8,q9,bP,bO⟩:=HC.out w1 bB;have bw:=hm.1;have c6:=hm.2;have cn:=AA q8;have cm:=AA q9;have bo:=AA bP;have aP:=AA bO;clear q8 q9 bP bO;go_upto_region 4 with fail
 go_wp2_with (go_at_call 242;refine(aid _ _ _).mono ?_;rintro e w' ⟨rfl,rfl⟩)
 obtain⟨J,aI⟩:∃X,X=((w1.alloc (i7 (sbQ nu st wm b n c z d) 329)).alloc (i7 #[L (E ⟨w1.heap.size,0,O⟩)] 368)).alloc (i7 #[R K m] 3):=⟨_,rfl⟩;have b1:Bx w1.heap.size [i7 (sbQ nu st wm b n c z d) 329,i7 #[L (E ⟨w1.heap.size,0,O⟩)] 368,i7 #[R K m] 3] J:=by rw[aI];exact(((Bx.nil _ w1).snoc _ rfl).snoc _ sm).snoc _ sm
 have aG:La w1 J:=by rw[aI];exact((AL w1 _).alloc sm _).alloc (by simp;omega) _
 have cC:J.heap.size=w1.heap.size+1+1+1:=by rw[aI];simp
 rw[show((w1.alloc (i7 #[R K nu,R K st,R K wm,T b n c,R K (z:Int),R K (d:Int)] 329)).alloc (i7 #[L (E ⟨w1.heap.size,0,O⟩)] 368)).alloc (i7 #[R K m] 3)=J from aI.symm];clear aI q1 q2 q3 q4 q5 q6 q7;have g4:SbX w1.heap.size nu st wm b n c z d J:=b1 0 _ rfl;have b2:Boxed J (w1.heap.size+1) 368 (L (E ⟨w1.heap.size,0,O⟩)):=b1 1 _ rfl;have b3:Boxed J (w1.heap.size+1+1) 3 (R K m):=b1 2 _ rfl;have bZ:w.heap.size+1+1+1+1<w1.heap.size:=by have:=bB.size;omega
 have aF:La w J:=aP.out.trans (aG.mono aP.out.size);have cc:Jh w J:=⟨aF.size,λk cs t f hk=>(aF.block k (KpL.lt (bl:=0) hk)).trans hk⟩;have b5:Boxed J (w.heap.size+1+1+1+1) 69 (T O 0 0):=(aG.block _ om).trans bo.out;have cL:J.heap[w.heap.size]?=E (i7 #[L (E ⟨B,0,O⟩)] 88 (0,0)):=(aG.block _ om).trans cn.out;have cK:J.heap[w.heap.size+1+1+1]?=E (i7 #[R K 0,R K 0] 247 (0,0)):=(aG.block _ om).trans cm.out;have bd:∀r,Cb (w.heap.size+1+1+1+1) J≠E r:=λr e=>by
  unfold Cb at e;rw[b5.cell]at e
  cases e
 have aD:=aew (g:=w1.heap.size) (q:=w1.heap.size+1+1) (p2:=w1.heap.size+1) (bl:=w.heap.size+1+1+1+1) nu st wm z b n c d m bs 8 w J HD.out cc om om om ⟨⟨by omega,by omega,by omega⟩,by omega,by omega,by omega⟩ b5.lt b3 b2 g4 bd cE om ⟨s1,s2⟩ ⟨s3,bU⟩ hm;rw[HF.out,am]at aD;have cM:Hid (ndN fold wss z F (List.range Ta)=Bp fold wss z F):=by rw[Hid,<-am,abB z (lc F) (AC _),Hl]
 have cr:Hid (hsN fold wss st (st-wm+d) F z (List.range Ta)=Fs fold wss st wm bs z d m):=by rw[Hid,<-am,aeT st _ z (lc F) (AC _),Hl];unfold Fs;rw[HF.out,Aa]
 have cP:=AA bH;have ct:Hid (∀j,enN (st-wm+d) F j<=4611686020574871551+900000+1/\-1000000<enN (st-wm+d) F j):=λj=>by have:=aor (F:=F) (st-wm+d) j;rw[am]at this;omega
 have ci:=AA cy;have cp:Hid ((AB wss).length<=1000):=(abE hr).1;have cO:=AA (abE hr).2;obtain⟨p,hp⟩:∃p:Int,st-wm+d=p:=⟨_,rfl⟩;rw[hp]at aD cr ct;obtain⟨g,hg⟩:∃g,w1.heap.size=g:=⟨_,rfl⟩;rw[hg]at aD cC g4 bZ⊢;obtain⟨bl,bA⟩:∃k,w.heap.size+1+1+1+1=k:=⟨_,rfl⟩;rw[bA]at aD b5 bZ⊢;have d6:Ta<=900000:=by omega
 clear b1 aG b2 b3 cc bd cn cm bo aP HC hg hp bH am bB cB hm;have cV:w.heap.size+1+1+1<bl:=by omega
 have df:=AA bA;clear bA
 apply NL rfl (enters_of func270 kr rfl) aD (PbN.lt om om) ?hSk KpN.t (KpN.b om om) (λ_=>rfl)
  (λs V=>amS bl J.heap.size (hsN fold wss st p F z s) V/\(∃d',SbX g nu st wm b n c ((ndN fold wss z F s:Nat):Int) d' V)/\La w V/\(J.heap.size<=V.heap.size/\V.heap[w.heap.size]?=E (i7 #[L (E ⟨B,0,O⟩)] 88 (0,0))/\V.heap[w.heap.size+1+1+1]?=E (i7 #[R K 0,R K 0] 247 (0,0))))
  (λ_ _ _=>False)
 case wA=>exact λ_ W=>W
 case hwA=>exact λx W=>AH _ _
 case hSk=>
  rintro xs V l o o' hl ho hc ⟨e,z',hG⟩;refine⟨e,z',?_⟩;unfold SbX at hG⊢;rw[Cm om];exact hG
 case hKg=>exact λx W hW=>KpN.of_below (AH _ _) om
 case hI=>exact BT.and (ag1 (AC _) om (λr W W' hr=>by rcases hr with rfl|⟨rfl,_⟩<;>omega) (hsN fold wss st p F z)) (BT.and (SbX.owns om (λs=>((ndN fold wss z F s:Nat):Int))) (BT.and (BT.below om om (λr W W' hr=>by rcases hr with rfl|⟨rfl,_⟩<;>omega)) (BT.and (BT.size _ _ _) (BT.and (BT.block _ _ _ _ _ _ (λW W' hr=>by rcases hr with h|⟨h,_⟩<;>omega)) (BT.block _ _ _ _ _ _ (λW W' hr=>by rcases hr with h|⟨h,_⟩<;>omega))))))
 case hIx=>exact λ_ _ _ _ _ hs _ _=>hs
 case h0=>exact⟨⟨_,b5,BN _ _ _ _⟩,⟨_,g4⟩,aF,AC _,cL,cK⟩
 case hassign=>
  intro l x W KB H;unfold an4
  gi_wp2
  exact H
 case hbody=>
  rintro l s j Wb V d9 ⟨⟨v,hv,Y⟩,⟨d',a2⟩,aJ,cA,ax,aw⟩ cU
  try dsimp only
  obtain⟨zc,aA⟩:∃zc,ndN fold wss z F s=zc:=⟨_,rfl⟩;have b7:zc<(AB wss).length:=by rw[<-aA];exact aoR ci.out s
  rw[aA]at a2;obtain⟨cG,cF⟩:=alM cP.out j;obtain⟨cb,aZ⟩:∃cb:Nat,byN F j=(cb:Int):=⟨(byN F j).toNat,by omega⟩;have bi:cb<256:=by omega
  obtain⟨d5,d0⟩:=ct.out j;obtain⟨Eo,hE⟩:∃Eo,enN p F j=Eo:=⟨_,rfl⟩;obtain⟨y,hy⟩:∃y,EN fold wss zc (cb:Int)=y:=⟨_,rfl⟩;have bL:Hid (ndN fold wss z F (s++[j])=y):=by rw[Hid,agY,aA,aZ,hy]
  have ao:Hid (hsN fold wss st p F z (s++[j])=hsN fold wss st p F z s++(if st<Eo then(CA wss y).map (λv=>((Eo,v):AF)) else [])):=by rw[Hid,acW,aA,aZ,hy,hE]
  have bw:=aj7 (fold:=fold) (ws:=wss) (F:=F) st p s z ci.out;have c6:(AB wss).length*lc s<=1000*900000:=GR cp.out om;obtain⟨Hp,bG⟩:∃X,hsN fold wss st p F z s=X:=⟨_,rfl⟩;rw[bG]at Y bw ao;obtain⟨m0,bx⟩:∃X,lc Hp=X:=⟨_,rfl⟩;have cY:m0<=900000000:=by omega
  obtain⟨x,hx⟩:∃x,(AB wss)[zc]?=E x:=⟨_,Ar b7⟩;have bv:=(KU (fold:=fold) hx (cb:Int));have bT:=(AP.1 bv.1).1;rw[hy]at bT;have b8:Dz wss (y:Int)=CA wss y:=by unfold Dz;rw[Lq ⟨by omega,by omega⟩,Aa]
  have KS:Hid (∀X,La w X->Calls ZP 243 #[L (E ⟨B,0,O⟩),R K (zc:Int),.int .u8 (cb:Int)] X λe w'=>e=ra (ta #[R K (y:Int),i6 G])/\La X w'):=λX hX=>by have h:=(HU.out.below hX).step (zc:Int) cb bi;rw[aju (HU.out.below hX).ok hx bi,bv.2,hy]at h;exact h
  obtain⟨nw,aX⟩:∃X,(CA wss y).length=X:=⟨_,rfl⟩;have cT:nw<=1000:=by rw[<-aX];exact AS (LL wss y) (by have:=cp.out;omega)
  obtain⟨D,b4⟩:∃X,(CA wss y).map (λv=>((Eo,v):AF))=X:=⟨_,rfl⟩;rw[b4]at ao;have KH:Hid (∀X,La w X->Calls ZP 244 #[L (E ⟨B,0,O⟩),R K (y:Int),R K Eo] X λe w'=>∃(a:Option Addr)(c:Nat),e=ra (T a nw c)/\Hts w' a nw D/\La X w'):=λX hX=>by have h:=(HU.out.below hX).hits (y:Int) Eo (by unfold I64;omega) (cO.out _);rw[b8,b4,aX]at h;exact h.mono λe w' ⟨a,c,h1,h2,h4,h3⟩=>⟨a,c,h1,h2,h3⟩
  have cu:Hid (lc D=nw):=by rw[Hid,<-b4,BP,aX]
  have KC:Hid (∀X,La V X->X.cell? ⟨w.heap.size,0,O⟩=E (L (E ⟨B,0,O⟩))):=λX hX=>by have h:=(hX.block _ (AD.1 ax).1).trans ax;simp[cell?,h]
  have bM:=AA bx;have dd:=AA bG;unfold Ax at Y;rw[bx]at Y;obtain⟨av,cv,rfl,_,_⟩:=SlK.own Y;have HV:=AA hv;have az:=AA Y;have b6:=AA a2;have ai:=AA aJ;have cq:=AA ax;have aO:=AA aw;have bj:=hv.lt;rw[hE,aZ];obtain⟨⟨g0,g1,g2,g3,g4,g5⟩,f4,f5⟩:=a2.cells;have c0:=KC.out V (AH _ _);clear aA b7 cG cF hE aZ hy bw c6 bG bx hx bv bT b8 aX b4 hv Y a2 aJ ax aw
  gi_wp2_with fail
  refine(callsIn_wide.2 (KS.out V ai.out)).mono ?_;rintro e w2 ⟨rfl,a1⟩;clear g0 g1 g2 g3 g4 g5 f4 f5 c0;have aC:=b6.out.below a1;obtain⟨⟨g0,g1,g2,g3,g4,g5⟩,f4,f5⟩:=aC.cells;obtain⟨W5,ak⟩:∃X,X=w2.setCell ⟨g,4,O⟩ (R K (y:Int)):=⟨_,rfl⟩;have cZ:g<V.heap.size:=b6.out.lt;have a7:=BH w2 g 4 (R K (y:Int));rw[<-ak]at a7;have bb:SbX g nu st wm b n c (y:Int) d' W5:=by rw[ak];exact aC.node _
  have bg:KpN bl g V W5:=by rw[ak];exact(KpN.of_below a1 bj).t (KpN.node om w2 _)
  have bW:Boxed W5 bl 69 (T av m0 cv):=(a7.block bl (by have:=a1.size;omega) (λe=>by have:=AK e;omega)).trans ((a1.block bl bj).trans HV.out);have aE:W5.ownsRow J.heap.size 116 2 (T av m0 cv) m0 (AV Hp):=(DJ az.out a1).kept a7 (.inr λe=>by have:=(BA az.out g e).1;omega);have bk:La w W5:=by rw[ak];exact(ai.out.trans (a1.mono ai.out.size)).setCell (by show w.heap.size<=g;omega) _
  have bf:W5.heap[w.heap.size]?=E (i7 #[L (E ⟨B,0,O⟩)] 88 (0,0)):=(a7.block _ (by have:=a1.size;omega) (λe=>by have:=AK e;omega)).trans ((a1.block _ om).trans cq.out);have be:W5.heap[w.heap.size+1+1+1]?=E (i7 #[R K 0,R K 0] 247 (0,0)):=(a7.block _ (by have:=a1.size;omega) (λe=>by have:=AK e;omega)).trans ((a1.block _ om).trans aO.out);have bY:V.heap.size<=W5.heap.size:=by rw[ak];have:=a1.size;simpa[World.setCell]using this
  have bh:KeepsOthers V W5:=⟨bY,λk o ho hc=>by
   have hk:=(AD.1 ho).1;refine(a7.block k (by have:=a1.size;omega) (λe=>?_)).trans ((a1.block k hk).trans ho);have e':k=g:=AK e;have h:=b6.out;unfold SbX at h;rw[e',h]at ho
   cases ho
   cases hc⟩
  have aq:=AA bb;have aT:=AA bg;have ab:=AA bW;have aQ:=AA aE;have A:=AA bk;have ar:=AA bf;have aN:=AA be;have aV:=AA bh;clear a7 bb bg bW aE bk bf be bh b6 HV az ai cq aO KC KS aC
  by_cases aY:st<Eo
  case neg=>
   have d1:decide (st<Eo)=M:=by simpa using aY
   rw[Lc aY,Cx]at ao
   gi_wp2
   rw[<-ak];refine⟨aV.out.from _,aT.out,⟨_,ab.out,?_⟩,⟨d',by rw[bL.out];exact aq.out⟩,A.out,by omega,ar.out,aN.out⟩;rw[ao.out];unfold Ax;rw[bM.out];exact aQ.out
  case pos=>
   have d1:decide (st<Eo)=G:=by simpa using aY
   rw[Lq aY]at ao
   gi_wp2
   rw[<-ak];clear g0 g1 g2 g3 g4 g5 f4 f5;refine aa4 (S:=DW J.heap.size bl W5) mixed kr ⟨λ_ _ _=>rfl,(by show J.heap.size<=W5.heap.size;omega)⟩ (λce=>?_);obtain⟨W6,bC⟩:∃X,X=W5.drew:=⟨_,rfl⟩;have U:La W5 W6:=by rw[bC];exact AN W5 1
   rw[<-bC]at ce⊢;clear bC;have aK:Hid (∀X,DW J.heap.size bl W5 X->X.cell? ⟨w.heap.size,0,O⟩=E (L (E ⟨B,0,O⟩))/\X.cell? ⟨g,4,O⟩=E (R K (y:Int))):=λX hX=>by have h1:=(hX.1 _ om om).trans ar.out;have h2:SbX g nu st wm b n c (y:Int) d' X:=(hX.1 g om om).trans aq.out;exact⟨by simp[cell?,h1],h2.cells.1.2.2.2.2.1⟩
   refine tkB 1 aK.out ?_;refine tkB 2 aK.out ?_;refine tkB 3 aK.out ?_;refine tkB 4 aK.out ?_;refine tkB 5 aK.out ?_;refine apE 0 6 (λKB H=>?_) (λKB H=>?_)
   ·have q3:Boxed W6 bl 69 (T av m0 cv):=(U.block bl ab.out.lt).trans ab.out;have q2:=q3.cell;clear q3;go_simp;refine H.out _ _ ce (λ_=>?_);clear H KB q2
    try simp only[pq]
    refine rdy 6 (λKB H=>?_);go_simp
    go_at_call 244;refine(KH.out W6 (A.out.trans (U.mono A.out.size))).mono ?_;rintro e w7 ⟨a9,c9,rfl,aB,aj⟩
    refine H.out _ _ (⟨λk h1 _=>(U.trans (aj.mono U.size)).block k om,AS om (U.trans (aj.mono U.size)).size⟩) (λC=>?_);clear H KB
    try simp only[pq]
    have Z:=U.trans (aj.mono U.size);have bK:=AA aB;clear aB aj C;have C:DW J.heap.size bl W5 w7:=⟨λk h1 _=>Z.block k om,AS om Z.size⟩;have bJ:Hid (Boxed w7 bl 69 (.slice av m0 cv)):=(Z.block bl ab.out.lt).trans ab.out;have ac:Hid (w7.ownsRow J.heap.size 116 2 (.slice av m0 cv) m0 (AV Hp)):=DJ aQ.out Z;have ag:Hid (La w w7):=A.out.trans (Z.mono A.out.size);have aR:Hid (w7.heap[w.heap.size]?=E (i7 #[.pointer (E ⟨B,0,O⟩)] 88 (0,0))):=(Z.block _ om).trans ar.out;have aM:Hid (w7.heap[w.heap.size+1+1+1]?=E (i7 #[.int .i64 0,.int .i64 0] 247 (0,0))):=(Z.block _ om).trans aN.out;have aL:Hid (SbX g nu st wm b n c (y:Int) d' w7):=aq.out.below Z;have aU:Hid (KeepsOthers W5 w7):=⟨Z.size,λk o ho hc=>(Z.block k (AD.1 ho).1).trans ho⟩;have aS:Hid (KpN bl g V w7):=aT.out.t (KpN.of_below Z ab.out.lt);clear Z;refine rdy 7 (λKB H=>?_);refine Mi kr ?_;refine NT _ _ _ 69 rfl J.heap.size 116 i0 (i8 #[.int .i64 0,.int .i64 0]) 2 16 underlying69 hi bS bR bQ rfl (by decide) _ m0 _ rfl ac.out a9 nw c9 (AV D) rfl bK.out.1 (MC _) (by unfold maxLen;omega) om C.2 ?_;intro v' w8 a6 I aH;obtain⟨a8,c8,rfl,_,_⟩:=SlK.own a6;obtain⟨k1,k2,k3,k4,k5,k6,k7⟩:=acC (g:=g) bJ.out ac.out I aH a6 om om om C.2;have bF:DW J.heap.size bl W5 w8:=⟨λk h1 h2=>(AQ w8 ⟨bl,0,O⟩ _ k h2).symm.trans ((k6 k h1 h2).trans (C.1 k h1 h2)),k7⟩;have bE:DW J.heap.size bl W5 (w8.setCell ⟨bl,0,O⟩ (.slice a8 (m0+nw) c8)):=⟨λk h1 h2=>(k6 k h1 h2).trans (C.1 k h1 h2),by simpa[World.setCell]using k7⟩;have bN:Hid (La w (w8.setCell ⟨bl,0,O⟩ (.slice a8 (m0+nw) c8))):=(ag.out.grown I ag.out.size (λj hj=>by have:=(BA ac.out j hj).1;omega)).setCell (by show w.heap.size<=bl;omega) _;refine H.out _ _ bF (λaa=>?_);clear H KB aa aH I;have d2:=k2.cell;have d3:=k2.frozen;have d4:=k2.lt;have K1:=AA k1;have K3:=AA k3;have K4:=AA k4;have K5:=AA k5;have K6:=AA k6;clear k1 k2 k3 k4 k5 k6
    try simp only[pq]
    refine rdy 8 (λKB H=>?_);go_simp;refine H.out _ _ bE (λaa=>?_);clear H KB aa
    try simp only[pq]
    refine Vg kr ?_ _;refine Gn.normal ?_
    gi_wp2
    refine⟨((aV.out.from _).trans (aU.out.from _)).trans (K5.out.from _),aS.out.t K1.out,⟨_,K3.out,?_⟩,⟨d',?_⟩,bN.out,by simpa[World.setCell]using k7,(K6.out _ om om).trans aR.out,(K6.out _ om om).trans aM.out⟩
    ·rw[ao.out];unfold Ax;rw[List.length_append,bM.out,cu.out,JT];exact K4.out
    ·rw[bL.out];exact(K6.out g om om).trans aL.out
   ·go_simp
    go_at_call 244;refine(KH.out W6 (A.out.trans (U.mono A.out.size))).mono ?_;rintro e w7 ⟨a9,c9,rfl,aB,aj⟩
    have Z:=U.trans (aj.mono U.size);refine H.out _ _ ⟨λk h1 _=>Z.block k om,AS om Z.size⟩ (λC=>?_);clear H KB
    try simp only[pq]
    have bK:=AA aB;have q3:Boxed w7 bl 69 (T av m0 cv):=(Z.block bl ab.out.lt).trans ab.out;have q2:=q3.cell;clear q3;refine rdy 0 (λKB H=>?_);go_simp;refine H.out _ _ C (λ_=>?_);clear H KB q2 aB aj C
    try simp only[pq]
    have C:DW J.heap.size bl W5 w7:=⟨λk h1 _=>Z.block k om,AS om Z.size⟩;have bJ:Hid (Boxed w7 bl 69 (.slice av m0 cv)):=(Z.block bl ab.out.lt).trans ab.out;have ac:Hid (w7.ownsRow J.heap.size 116 2 (.slice av m0 cv) m0 (AV Hp)):=DJ aQ.out Z;have ag:Hid (La w w7):=A.out.trans (Z.mono A.out.size);have aR:Hid (w7.heap[w.heap.size]?=E (i7 #[.pointer (E ⟨B,0,O⟩)] 88 (0,0))):=(Z.block _ om).trans ar.out;have aM:Hid (w7.heap[w.heap.size+1+1+1]?=E (i7 #[.int .i64 0,.int .i64 0] 247 (0,0))):=(Z.block _ om).trans aN.out;have aL:Hid (SbX g nu st wm b n c (y:Int) d' w7):=aq.out.below Z;have aU:Hid (KeepsOthers W5 w7):=⟨Z.size,λk o ho hc=>(Z.block k (AD.1 ho).1).trans ho⟩;have aS:Hid (KpN bl g V w7):=aT.out.t (KpN.of_below Z ab.out.lt);clear Z;refine rdy 7 (λKB H=>?_);refine Mi kr ?_;refine NT _ _ _ 69 rfl J.heap.size 116 i0 (i8 #[.int .i64 0,.int .i64 0]) 2 16 underlying69 hi bS bR bQ rfl (by decide) _ m0 _ rfl ac.out a9 nw c9 (AV D) rfl bK.out.1 (MC _) (by unfold maxLen;omega) om C.2 ?_;intro v' w8 a6 I aH;obtain⟨a8,c8,rfl,_,_⟩:=SlK.own a6;obtain⟨k1,k2,k3,k4,k5,k6,k7⟩:=acC (g:=g) bJ.out ac.out I aH a6 om om om C.2;have bF:DW J.heap.size bl W5 w8:=⟨λk h1 h2=>(AQ w8 ⟨bl,0,O⟩ _ k h2).symm.trans ((k6 k h1 h2).trans (C.1 k h1 h2)),k7⟩;have bE:DW J.heap.size bl W5 (w8.setCell ⟨bl,0,O⟩ (.slice a8 (m0+nw) c8)):=⟨λk h1 h2=>(k6 k h1 h2).trans (C.1 k h1 h2),by simpa[World.setCell]using k7⟩;have bN:Hid (La w (w8.setCell ⟨bl,0,O⟩ (.slice a8 (m0+nw) c8))):=(ag.out.grown I ag.out.size (λj hj=>by have:=(BA ac.out j hj).1;omega)).setCell (by show w.heap.size<=bl;omega) _;refine H.out _ _ bF (λaa=>?_);clear H KB aa aH I;have d2:=k2.cell;have d3:=k2.frozen;have d4:=k2.lt;have K1:=AA k1;have K3:=AA k3;have K4:=AA k4;have K5:=AA k5;have K6:=AA k6;clear k1 k2 k3 k4 k5 k6
    try simp only[pq]
    refine rdy 8 (λKB H=>?_);go_simp;refine H.out _ _ bE (λaa=>?_);clear H KB aa
    try simp only[pq]
    refine Vg kr ?_ _;refine Gn.normal ?_
    gi_wp2
    refine⟨((aV.out.from _).trans (aU.out.from _)).trans (K5.out.from _),aS.out.t K1.out,⟨_,K3.out,?_⟩,⟨d',?_⟩,bN.out,by simpa[World.setCell]using k7,(K6.out _ om om).trans aR.out,(K6.out _ om om).trans aM.out⟩
    ·rw[ao.out];unfold Ax;rw[List.length_append,bM.out,cu.out,JT];exact K4.out
    ·rw[bL.out];exact(K6.out g om om).trans aL.out
 case hstop=>exact λ_ _ _ _ _ _ h _=>h.elim
 case hdone=>
  rintro D zs V hD ⟨rfl,z',hG⟩ ⟨⟨v,hv,Y⟩,⟨d2,a2⟩,aJ,cA,ax,aw⟩ ch;obtain⟨-,rfl⟩:=a2.same hG;rw[cr.out]at Y;rw[cM.out]at a2;obtain⟨zf,bt⟩:∃X,Bp fold wss z F=X:=⟨_,rfl⟩;rw[bt]at a2;obtain⟨av,cv,rfl,_,_⟩:=SlK.own Y;obtain⟨nl,bu⟩:∃X,(Fs fold wss st wm bs z d m).length=X:=⟨_,rfl⟩;rw[bu]at hv Y;obtain⟨dT,bz⟩:∃X:Int,(d:Int)+(Ta:Int)=X:=⟨_,rfl⟩;rw[bz]at a2;have cj:=AA bt;have cQ:=AA bz;have cX:=AA bu;obtain⟨Dr,bI⟩:∃k,w.heap.size+1+1+1=k:=⟨_,rfl⟩;have cd:bl≠Dr:=by omega
  have cD:g≠Dr:=by omega
  have cg:D≠Dr:=by omega
  have bV:w.heap.size<=Dr:=by omega
  have d8:Dr<bl:=by omega
  have de:=AA bI;rw[bI]at aw⊢;clear bI;have KX:Hid (∀X,((∀k,k≠Dr->k≠bl->X.heap[k]?=V.heap[k]?)/\X.cell? ⟨bl,0,O⟩=E (T av nl cv))->SbX g nu st wm b n c (zf:Int) dT X):=λX hX=>(hX.1 g cD om).trans a2;have HV:=AA hv;have az:=AA Y;have aO:=AA aw;have ai:=AA aJ;have cw:=AA ch;clear Y a2 hG ax aw aJ bt bz bu ch
  go_wp2_with fail
  refine Ve ?_;refine Vd (S:=λX=>((∀k,k≠Dr->k≠bl->X.heap[k]?=V.heap[k]?)/\X.cell? ⟨bl,0,O⟩=E (T av nl cv))) kr ⟨λ_ _ _=>rfl,hv.cell⟩ (λhS=>?_);obtain⟨V1,al⟩:∃X,X=V.drew:=⟨_,rfl⟩;have cl:Hid (Boxed V1 bl 69 (T av nl cv)):=by rw[al];exact HV.out
  have bp:Hid (Ax V1 J.heap.size (T av nl cv) (Fs fold wss st wm bs z d m)):=by rw[al];exact az.out
  have bm:Hid (V1.heap[Dr]?=E (i7 #[R K 0,R K 0] 247 (0,0))):=by rw[al];exact aO.out
  have bq:Hid (La w V1):=by rw[al];exact ai.out.trans ((AN V 1).mono ai.out.size)
  have cx:Hid (V1.heap[D]?=E (.deferred (E []))):=by rw[al];exact cw.out
  rw[<-al]at hS⊢;clear al hv HV az aO ai cw;refine tkW 0 (v:=?_) ?_ ?_;rotate_left
  ·intro V N;have c2:=N.2;obtain⟨⟨g0,g1,g2,g3,g4,g5⟩,f4,f5⟩:=(KX.out V N).cells
   first|(go_simp;done)|(go_simp;with_reducible rfl)
  try simp only[pq]
  refine tkW 1 (v:=?_) ?_ ?_;rotate_left
  ·intro V N;have c2:=N.2;obtain⟨⟨g0,g1,g2,g3,g4,g5⟩,f4,f5⟩:=(KX.out V N).cells
   first|(go_simp;done)|(go_simp;with_reducible rfl)
  try simp only[pq]
  refine tkW 2 (v:=?_) ?_ ?_;rotate_left
  ·intro V N;have c2:=N.2;obtain⟨⟨g0,g1,g2,g3,g4,g5⟩,f4,f5⟩:=(KX.out V N).cells
   first|(go_simp;done)|(go_simp;with_reducible rfl)
  try simp only[pq]
  refine tkW 3 (v:=?_) ?_ ?_;rotate_left
  ·intro V N;have c2:=N.2;obtain⟨⟨g0,g1,g2,g3,g4,g5⟩,f4,f5⟩:=(KX.out V N).cells
   first|(go_simp;done)|(go_simp;with_reducible rfl)
  try simp only[pq]
  refine tkW 4 (v:=?_) ?_ ?_;rotate_left
  ·intro V N;have c2:=N.2;obtain⟨⟨g0,g1,g2,g3,g4,g5⟩,f4,f5⟩:=(KX.out V N).cells
   first|(go_simp;done)|(go_simp;with_reducible rfl)
  try simp only[pq]
  refine tkW 5 (v:=?_) ?_ ?_;rotate_left
  ·intro V N;have c2:=N.2;obtain⟨⟨g0,g1,g2,g3,g4,g5⟩,f4,f5⟩:=(KX.out V N).cells
   first|(go_simp;done)|(go_simp;with_reducible rfl)
  try simp only[pq]
  refine tkW 6 (v:=?_) ?_ ?_;rotate_left
  ·intro V N;have c2:=N.2;obtain⟨⟨g0,g1,g2,g3,g4,g5⟩,f4,f5⟩:=(KX.out V N).cells
   first|(go_simp;done)|(go_simp;with_reducible rfl)
  try simp only[pq]
  refine tkW 7 (v:=?_) ?_ ?_;rotate_left
  ·intro V N;have c2:=N.2;obtain⟨⟨g0,g1,g2,g3,g4,g5⟩,f4,f5⟩:=(KX.out V N).cells
   first|(go_simp;done)|(go_simp;with_reducible rfl)
  try simp only[pq]
  refine tkW 8 (v:=?_) ?_ ?_;rotate_left
  ·intro V N;have c2:=N.2;obtain⟨⟨g0,g1,g2,g3,g4,g5⟩,f4,f5⟩:=(KX.out V N).cells
   first|(go_simp;done)|(go_simp;with_reducible rfl)
  try simp only[pq]
  refine tkW 9 (v:=?_) ?_ ?_;rotate_left
  ·intro V N;have c2:=N.2;obtain⟨⟨g0,g1,g2,g3,g4,g5⟩,f4,f5⟩:=(KX.out V N).cells
   first|(go_simp;done)|(go_simp;with_reducible rfl)
  try simp only[pq]
  refine tkW 10 (v:=?_) ?_ ?_;rotate_left
  ·intro V N;have c2:=N.2;obtain⟨⟨g0,g1,g2,g3,g4,g5⟩,f4,f5⟩:=(KX.out V N).cells
   first|(go_simp;done)|(go_simp;with_reducible rfl)
  try simp only[pq]
  have ae:=bm.out;have r0:V1.cell? ⟨Dr,0,O⟩=E (R K 0):=by simp[cell?,ae]
  have r1:V1.cell? ⟨Dr,1,O⟩=E (R K 0):=by simp[cell?,ae]
  have r2:V1.frozen? ⟨Dr,0,O⟩=M:=by simp[frozen?,ae]
  have r3:V1.frozen? ⟨Dr,1,O⟩=M:=by simp[frozen?,ae]
  have aW:=apy (u0:=R K (zf:Int)) (u1:=R K dT) ae;clear ae;refine rdy 11 (λKB H=>?_);go_simp;obtain⟨V2,b0⟩:∃X,X=(V1.setCell ⟨Dr,0,O⟩ (R K (zf:Int))).setCell ⟨Dr,1,O⟩ (R K dT):=⟨_,rfl⟩;rw[<-b0]at aW⊢;have af:∀k,k≠Dr->V2.heap[k]?=V1.heap[k]?:=λk hk=>by rw[b0];exact(AQ _ ⟨Dr,1,O⟩ _ k hk).trans (AQ V1 ⟨Dr,0,O⟩ _ k hk)
  have au:Boxed V2 bl 69 (T av nl cv):=(af bl cd).trans cl.out;have cS:Hid (La w V2):=by rw[b0];exact(bq.out.setCell bV _).setCell bV _
  have cN:Hid (V2.heap[Dr]?=E (i7 #[R K (zf:Int),R K dT] 247 (0,0))):=aW.1;have co:Hid (Ax V2 J.heap.size (T av nl cv) (Fs fold wss st wm bs z d m)):=by have h:=bp.out;unfold Ax at h⊢;exact h.kept aW.2 (.inr (λe=>by have:=(BA h _ e).1;omega))
  have cR:Hid (V2.heap[D]?=E (.deferred (E []))):=(af D cg).trans cx.out;refine H.out _ _ ⟨λk h1 h2=>(af k h1).trans (hS.1 k h1 h2),au.cell⟩ (λcH=>?_);clear H KB r0 r1 r2 r3 aW af b0 cl bp bm bq cx hS
  try simp only[pq]
  have c2:=au.cell;have c3:=au.lt;have c4:=au.frozen;have bX:=au.set (T av nl cv);have ck:=AA bX;clear bX au;refine rdy 12 (λKB H=>?_);go_simp;refine H.out _ _ ⟨λk h1 h2=>(AQ V2 ⟨bl,0,O⟩ _ k h2).trans (cH.1 k h1 h2),ck.out.cell⟩ (λd7=>?_);clear H KB c2 c3 c4
  try simp only[pq]
  refine tkA 13 ?_;refine Vg kr ?_ _;refine At ?_;obtain⟨V3,ay⟩:∃X,X=V2.setCell ⟨bl,0,O⟩ (T av nl cv):=⟨_,rfl⟩;have x1:V3.heap[D]?=E (.deferred (E [])):=by rw[ay];exact(AQ V2 ⟨bl,0,O⟩ _ D (by show D≠bl;omega)).trans cR.out
  have x2:V3.heap[Dr]?=E (i7 #[R K (zf:Int),R K dT] 247 (0,0)):=by rw[ay];exact(AQ V2 ⟨bl,0,O⟩ _ Dr (Ne.symm cd)).trans cN.out
  have x3:La w V3:=by rw[ay];exact cS.out.setCell (by show w.heap.size<=bl;omega) _
  have x4:Ax V3 J.heap.size (T av nl cv) (Fs fold wss st wm bs z d m):=by rw[ay];have h:=co.out;unfold Ax at h⊢;exact h.kept (BH V2 bl 0 _) (.inr (λe=>by have:=(BA h _ e).1;omega))
  have x5:Boxed V3 bl 69 (T av nl cv):=by rw[ay];exact ck.out
  have cJ:D≠bl:=by omega
  go_wp2;rw[<-ay];refine Gg rfl x1 (aah rfl rfl rfl ((Cm (Ne.symm cg)).trans x2) ((BC (a:=⟨bl,0,O⟩) (Cm (Ne.symm cJ))).trans x5.cell)) ⟨T av nl cv,?_,?_,FZ x3 om (AC _) _⟩
  ·rw[cj.out,cQ.out]
   rfl
  ·have h:=abM x4 (show w.heap.size<=J.heap.size by omega);unfold Ax at h⊢;refine h.kept (grownBy_putObj' V3 D _) ?_
   rcases x4.2 with⟨e0,_⟩|⟨g',cap,db,e0,_,c7,_⟩
   ·rw[e0];exact .inl rfl
   ·refine .inr λe=>?_;rw[e0]at e;have e':g'=D:=by simpa[Value.ownBlock]using e
    rw[e',x1]at c7
    cases c7
end
def slZ(fold:Bool)(wss:Lb)(st wm:Int)(bs:List Int)(z d m:Int):Int:=if DI fold wss st wm (lc bs) z d=G then((Bp fold wss z.toNat (CU bs d m):Nat):Int) else z
def slD(fold:Bool)(wss:Lb)(st wm:Int)(bs:List Int)(z d m:Int):Int:=if DI fold wss st wm (lc bs) z d=G then d+((Am (lc bs) d m:Nat):Int) else d
def slH(fold:Bool)(wss:Lb)(st wm:Int)(bs:List Int)(z d m:Int):List AF:=if DI fold wss st wm (lc bs) z d=G then Fs fold wss st wm bs z d m else []
def slO(fold:Bool)(wss:Lb)(st wm:Int)(bs:List Int)(z d m:Int):Bool:=if DI fold wss st wm (lc bs) z d=G then decide (d+((Am (lc bs) d m:Nat):Int)=(lc bs:Int)) else M
section
variable {fold:Bool}{wss:Lb}
theorem NP{st wm:Int}{n:Nat}{z d:Int}(h:DI fold wss st wm n z d=G):An fold wss=G/\Dh (Au wss) st wm n=G/\(0<=z/\z<((AB wss).length:Int))/\0<=d/\d<=(n:Int):=by unfold DI at h;rw[Bq,Bq,Bq]at h;obtain⟨⟨⟨h1,h2⟩,h3⟩,h4⟩:=h;unfold KA at h2;have h2:=Kf h2;have h4:=Kf h4;exact⟨h1,h3,h2.1,h4⟩
theorem akC(Z:An fold wss=G)(st wm:Int)(n:Nat)(z d:Int):KK (AB wss).length (Au wss) st wm n z d=DI fold wss st wm n z d:=by
 unfold DI KK KA;rw[Z,FJ,Db];simp only[Bq,decide_eq_true_eq]
 constructor
 ·rintro⟨h1,h2⟩;exact⟨⟨⟨h2.1,by omega⟩,h1⟩,h2.2⟩
 ·rintro⟨⟨h1,h2⟩,h3⟩;exact⟨h2,h1.1,h3⟩
end
structure aoP(W:World)(p:Option Addr)(fold:Bool)(wss:Lb):Prop where
 right:∀V,La W V->∀(nu st wm:Int)(b:Option Addr)(n c:Nat)(z d:Int),n<=900000->Calls ZP 241 #[L p,.agg (blV nu st wm b n c),prV z d] V λe w'=>e=.returned (i6 (DI fold wss st wm n z d))/\La V w'
 slice:∀V,Below W.heap.size W V->∀(nu st wm:Int) (b:Option Addr) (n c:Nat) (bs:List Int) (z d m:Int),Bys V b n bs->n<=900000->(-9223372036854775808<=m/\m<=9223372036854775807)->
  Calls ZP 200 #[L p,.agg (blV nu st wm b n c),prV z d,R K m] V λe w'=>∃v,e=.returned (.tuple #[prV (slZ fold wss st wm bs z d m) (slD fold wss st wm bs z d m),v,i6 (slO fold wss st wm bs z d m)])/\Ax w' V.heap.size v (slH fold wss st wm bs z d m)/\La V w'
theorem afe{p:Option Addr}{fold:Bool}{wss:Lb}(nu st wm:Int)(b:Option Addr)(n c:Nat)(bs:List Int)(z d m:Int)(V:Wa)(N:Bys V b n bs)(Y:DI fold wss st wm n z d=M)
  (U:∀W,La V W->Calls ZP 241 #[L p,i8 (blV nu st wm b n c),prV z d] W λe w'=>e=ra (i6 M)/\La W w') :
  Calls ZP 200 #[L p,i8 (blV nu st wm b n c),prV z d,R K m] V λe w'=>∃v,e=ra (ta #[prV (slZ fold wss st wm bs z d m) (slD fold wss st wm bs z d m),v,i6 (slO fold wss st wm bs z d m)])/\Ax w' V.heap.size v (slH fold wss st wm bs z d m)/\La V w':=by
 have Z:lc bs=n:=N.len;unfold slZ slD slH slO;rw[Z,Y];refine(aio p nu st wm b n c z d m V U).mono ?_;rintro e w' ⟨rfl,X⟩;simp only[Bool.false_eq_true,if_false];exact⟨_,rfl,BN _ _ _ _,X⟩
theorem ahf{A W:Wa}{B:Nat}{fold:Bool}{wss:Lb}(N:ET A B fold wss W)(Y:An fold wss=G):aoP W (E ⟨B,0,O⟩) fold wss:=by
 refine⟨λV X nu st wm b n c z d H=>?_,λV X nu st wm b n c bs z d m I H D=>?_⟩
 ·rw[<-akC Y];exact aao nu st wm b n c z d V (N.below X) om
 ·cases Z:DI fold wss st wm n z d with
  |false=>
   refine afe nu st wm b n c bs z d m V I Z (λC U=>?_);have h:=aao nu st wm b n c z d C ((N.below X).below U) om
   rwa[akC Y,Z]at h
  |true=>
   have J:lc bs=n:=I.len;unfold slZ slD slH slO;rw[J,Z];obtain⟨h1,h2,⟨h3,h4⟩,h5,h6⟩:=NP Z;obtain⟨z,rfl⟩:∃k:Nat,z=(k:Int):=⟨z.toNat,by omega⟩;obtain⟨d,rfl⟩:∃k:Nat,d=(k:Int):=⟨d.toNat,by omega⟩;simp only[if_true,Aa];exact afi nu st wm b n c z d m bs V (N.below X) I H Y D (by rw[akC Y,Z])
def scF(fold:Bool)(wss:Lb)(S:Nat)(st wm:Nat)(bs:List Int)(z d:Nat):Nat×Nat×List AF×Bool:=((slZ fold wss st wm bs z d S).toNat,(slD fold wss st wm bs z d S).toNat,slH fold wss st wm bs z d S,slO fold wss st wm bs z d S)
section
variable {fold:Bool}{wss:Lb}{S st wm z d:Nat}{bs:List Int}{c:CfM}
theorem ap8:((scF fold wss S st wm bs z d).1:Int)=slZ fold wss st wm bs z d S:=by
 show(((slZ fold wss st wm bs z d S).toNat:Nat):Int)=_;unfold slZ
 split<;>omega
theorem aoS:((scF fold wss S st wm bs z d).2.1:Int)=slD fold wss st wm bs z d S:=by
 show(((slD fold wss st wm bs z d S).toNat:Nat):Int)=_;unfold slD
 split<;>omega
theorem ap3{q B:Nat}{Wm:Wa}(J:Hj q B fold wss Wm)(Z:An fold wss=G)(X:c.scan=scF fold wss c.S)(D:c.S<=256)(V:Wa)(U:Fk q Wm V):Nz B c V:=by intro nu st wm b n H bs z d I Y;have N:ET V B fold wss V:=(J.kept U).use;refine((ahf N Z).slice V (AH _ _) nu st wm b n H bs z d c.S I Y om).mono ?_;rintro e w' ⟨v,rfl,h1,h2⟩;rw[X];exact⟨v,by rw[ap8,aoS];rfl,h1,h2⟩
theorem ap2{q B LO:Nat}{Wm:Wa}(X:Hj q B fold wss Wm)(Y:Au wss=(LO:Int))(V:Wa)(Z:Fk q Wm V):Calls ZP 95 #[L (E ⟨B,0,O⟩)] V λe w'=>e=ra (R K (LO:Int))/\V=w':=by rw[<-Y];exact(X.kept Z).use.longest
theorem ao2(V:c.scan=scF fold wss c.S)(Y:(AB wss).length<=400):ML c 400 (c.K+c.wm):=by
 intro st wm bs z d U X;rw[V];unfold scF slD slH;dsimp only
 split
 ·rename_i h
  obtain⟨_,_,⟨h1,h2⟩,h3,h4⟩:=NP h;have Z:=Jw (n:=lc bs) (d:=(d:Int)) (m:=(c.S:Int)) h3 h4;rw[Aa]at Z;have e:((d:Int)+((Am (lc bs) d c.S:Nat):Int)).toNat=d+Am (lc bs) d c.S:=by omega
  rw[e];refine⟨by omega,by omega,?_⟩;unfold Fs Dj;refine AS (List.length_filter_le _ _) (AS (Mx _ _ _ om) (GR Y ?_));unfold CU;rw[Ag];omega
 ·rw[Aa];exact⟨AC _,X,AR _⟩
end
theorem aiv:(ZP.info? 32).map (λi=>(i.zero,i.size,i.bytes))=E (E (T O 0 0),1,24):=by kernel_rfl
theorem aoQ{n i:Nat}(h2:n<=1000000)(h:i<n):wrap64 ((i:Int)+1)=((i+1:Nat):Int):=by unfold wrap64;omega
structure NwS(base S:Nat)(tv:Value)(vs:List TVw)(rs:Lb)(br:Bool)(w:World):Prop where
 box:w.heap[S]?=some (.cells #[tv,i6 br,R K 0] 186 (0,0))
 inX:base<=S
 row:w.ownsRow base 32 1 tv rs.length (vs.map svW)
 tS:tv.ownBlock≠some S
 len:vs.length=rs.length
 el:∀(i:Nat)(v:TVw)(xs:List Int),vs[i]?=some v->rs[i]?=some xs->Bys w v.1 v.2.1 xs/\v.2.1<=v.2.2/\∀q,v.1=some q->base<=q.block/\q.block<w.heap.size/\q.block≠S/\tv.ownBlock≠some q.block
section
variable {base S:Nat}{tv:Vk}{vs:List TVw}{rs:Lb}{br:Bool}{w D:Wa}
theorem NwS.keep(h:NwS base S tv vs rs br w)(Z:La w D):NwS base S tv vs rs br D:=by refine⟨(Z.block _ (AD.1 h.box).1).trans h.box,h.inX,DJ h.row Z,h.tS,h.len,λi v xs X Y=>?_⟩;obtain⟨h1,h2,h3⟩:=h.el i v xs X Y;exact⟨h1.below Z,h2,λq e=>let⟨g1,g2,g3⟩:=h3 q e;⟨g1,Af g2 Z.size,g3⟩⟩
theorem NwS.src(h:NwS base S tv vs rs br w):∃a c,BY (λk=>base<=k) S a (lc rs) c vs rs br 0 w:=by
 obtain⟨a,c,rfl,H,U⟩:=SlK.own h.row;refine⟨a,c,h.box,h.inX,⟨h.len,?_⟩,λh0 q N=>?_,h.len,H,λi v xs V X=>?_⟩
 ·rcases U.2 with h|⟨b,off,e,J,Z⟩
  ·exact .inl h
  ·exact .inr ⟨b,off,e,J,λi x I=>Z i _ (by rw[BU,I];rfl)⟩
 ·subst N
  rcases h.row.2 with⟨e,C⟩|⟨g,cap,Y,e,h1,h2,_⟩
  ·cases e
  ·cases e
   exact⟨h1,λe=>h.tS (by rw[<-e];rfl),Y,h2⟩
 ·obtain⟨h1,h2,h3⟩:=h.el i v xs V X;refine⟨h1,h2,λ_ q e=>?_⟩;obtain⟨s,g2,A,B⟩:=h3 q e;exact⟨s,A,λq' e' j=>B (by rw[e',j];rfl)⟩
theorem NwS.app(h:NwS base S tv vs rs br D)(x:List Int)(hx:∀y∈x,0<=y/\y<=255){Z:Wa}{v:TVw}(ho:Z.ownsRow D.heap.size 5 1 (svW v) (lc x) (x.map (Value.int .u8)))(hb:La D Z)(hn:lc rs<=1000000) :∃J c1 X,(Builtin.append_ #[22,22] 22 #[tv,.slice (E ⟨Z.heap.size,0,O⟩) 1 1]).run ZP (Z.alloc (i7 #[svW v] 32))=.ok (.slice J (lc rs+1) c1) X/\X.frozen? ⟨S,0,O⟩=M/\X.cell? ⟨S,0,O⟩=E tv/\
   NwS base S (T J (lc rs+1) c1) (vs++[v]) (rs++[x]) br (X.setCell ⟨S,0,O⟩ (T J (lc rs+1) c1))/\Below base D (X.setCell ⟨S,0,O⟩ (T J (lc rs+1) c1)):=by
 obtain⟨i0,hi,ag,af,ae⟩:=Vh aiv;obtain⟨A,hA⟩:∃A,A=Z.alloc (i7 #[svW v] 32):=⟨_,rfl⟩;have N:La Z A:=by rw[hA];exact AL _ _
 have aq:A.heap.size=Z.heap.size+1:=by rw[hA];simp
 have ac:La D A:=hb.trans (N.mono hb.size);have av:=(AD.1 h.box).1;have h5:=h.keep hb;have ai:SlK 1 A (E ⟨Z.heap.size,0,O⟩) 1 [svW v]:=by
  have hx:A.heap[Z.heap.size]?=E (i7 #[svW v] 32 (0,0)):=by rw[hA];exact AT _ _
  refine⟨rfl,.inr ⟨_,0,rfl,by omega,λi u hu=>?_⟩⟩;have e:A.cell? ⟨Z.heap.size,0+i,O⟩=(#[svW v]:Array Vk)[0+i]?:=by simp only[cell?,hx];simp
  rw[e,DD];show(List.toArray [svW v])[i]?=E u;rw[Dy];exact hu
 have a6:=DJ h5.row N;rw[<-hA];obtain⟨v1,X,hr,a7,j,ab⟩:=Gu (P:=ZP) A base 22 22 32 i0 (.slice O 0 0) 1 24 underlying22 hi ag af ae rfl (by decide) tv (lc rs) (vs.map svW) a6 (E ⟨Z.heap.size,0,O⟩) 1 1 [svW v] ai (by simp[Value.oneCell',svW]) (by unfold maxLen;omega) om (by have:=h.inX;have:=ac.size;omega);obtain⟨J,c1,rfl,_,_⟩:=SlK.own a7;have aa:=j.size;have aw:=hb.size;have Y:∀k,k<Z.heap.size->tv.ownBlock≠E k->X.heap[k]?=Z.heap[k]?:=λk hk I=>(j.block k om (λe=>I e.symm)).trans (N.block k hk);have a2:X.heap[S]?=E (i7 #[tv,.bool br,.int .i64 0] 186 (0,0)):=(Y S om h.tS).trans h5.box;have s:∀g,(Value.slice J (lc rs+1) c1).ownBlock=E g->tv.ownBlock=E g∨g=A.heap.size:=λg e=>by
  rcases ab with e2|e2
  ·rw[e2]at e;exact .inl e
  ·rw[e2]at e;exact .inr (AK e).symm
 have H:(T J (lc rs+1) c1).ownBlock≠E S:=λe=>by
  rcases s S e with e2|e2
  ·exact h.tS e2
  ·omega
 have U:∀k,k≠S->(X.setCell ⟨S,0,O⟩ (T J (lc rs+1) c1)).heap[k]?=X.heap[k]?:=λk hk=>AQ X ⟨S,0,O⟩ _ k hk;have B:X.heap.size<=(X.setCell ⟨S,0,O⟩ (T J (lc rs+1) c1)).heap.size:=by simp[World.setCell]
 have C:∀g,tv.ownBlock=E g->base<=g/\g<D.heap.size:=λg e=>Gw h.row g e;refine⟨J,c1,X,hr,by simp[frozen?,a2],by simp[cell?,a2],⟨AJ (i:=0) a2 _,h.inX,?_,H,by simp[h.len],λi v' xs hv V=>?_⟩,?_⟩
 ·rw[List.length_append,Aj];exact Fu a7 λg al=>U g λe=>H (by rw[<-e];exact al)
 ·by_cases a8:i<lc vs
  ·rw[By a8]at hv;rw[By (by rw[<-h.len];exact a8)]at V;obtain⟨h1,h2,h3⟩:=h5.el i v' xs hv V;obtain⟨_,_,ap⟩:=h.el i v' xs hv V;refine⟨h1.same (AS (AS N.size aa) B) λh0 q e=>?_,h2,λq e=>?_⟩
   ·obtain⟨g1,g2,g3,g4⟩:=h3 q e;exact(U _ g3).trans (Y _ g2 g4)
   ·obtain⟨g1,g2,g3,g4⟩:=ap q e;refine⟨g1,by omega,g3,λe2=>?_⟩
    rcases s _ e2 with e3|e3
    ·exact g4 e3
    ·omega
  ·obtain rfl:i=lc vs:=by
    have:=(AP.1 hv).1;simp at this;omega
   rw[DY (AC _),FG]at hv;rw[h.len,DY (AC _),FG]at V
   cases AK hv
   cases AK V
   have ak:=Gw ho;obtain⟨a5,c5,ev,au,aj⟩:=SlK.own ho;have e1:=congrArg (λu=>match u with|T a _ _=>a|_=>O) ev;have e2:=congrArg (λu=>match u with|T _ n _=>n|_=>0) ev;have e3:=congrArg (λu=>match u with|T _ _ c=>c|_=>0) ev;dsimp only[svW]at e1 e2 e3;have hq:∀q,v.1=E q->D.heap.size<=q.block/\q.block<Z.heap.size:=λq e=>ak _ (by rw[ev,<-e1,e];rfl);have I:∀q,v.1=E q->tv.ownBlock≠E q.block:=λq e e4=>by have:=hq q e;have:=C _ e4;omega
   have ao:Bys Z v.1 v.2.1 x:=by
    refine⟨⟨e2.symm,?_⟩,hx⟩;rw[e1,e2]
    rcases aj.2 with h|⟨b,off,e,hl,am⟩
    ·exact .inl h
    ·exact .inr ⟨b,off,e,hl,λi x hi=>am i _ (by rw[BU,hi];rfl)⟩
   refine⟨ao.same (AS (AS N.size aa) B) λh0 q e=>?_,by omega,λq e=>?_⟩
   ·have:=hq q e;exact(U _ om).trans (Y _ this.2 (I q e))
   ·have h7:=hq q e;have h8:=h.inX;refine⟨by omega,by omega,by omega,λe2=>?_⟩
    rcases s _ e2 with e3|e3
    ·exact I q e e3
    ·omega
 ·have hX:Chg (λk=>base<=k) D (X.setCell ⟨S,0,O⟩ (T J (lc rs+1) c1)):=((Chg.of_same ac).grown j λg e _=>(C g e).1).set h.inX;exact hX.below (by have:=h.inX;omega) λk hk ar=>by omega
theorem NwS.new{base:Nat}{br:Bool}{w:Wa}{S:Nat}(hB:w.heap[S]?=E (i7 #[T O 0 0,i6 br,R K 0] 186 (0,0)))(h:base<=S):NwS base S (T O 0 0) [] [] br w:=⟨hB,h,BN _ _ _ _,by simp[Value.ownBlock],rfl,λi v xs Z=>by simp at Z⟩
end
def aph(w:Wa)(a:Option Addr)(n:Nat)(vs:List TVw)(rs:Lb):Prop:=Sl1 svW w a n vs/\lc vs=lc rs/\∀(i:Nat)(v:TVw)(xs:List Int),vs[i]?=E v->rs[i]?=E xs->Bys w v.1 v.2.1 xs
theorem aiT(a:Option Addr)(n c:Nat)(vs:List TVw)(rs:Lb)(br:Bool)(w:Wa)(h:aph w a n vs rs)(hn:n<=1000000)(hl:∀x∈rs,lc x<=1000000) :Calls ZP 55 #[i6 br,T a n c] w λe w'=>∃S a' c' X,e=ra (L (E ⟨S,0,O⟩))/\BY (λk=>w.heap.size<=k) S a' (lc rs) c' X rs br 0 w'/\La w w':=by
 have ac:lc rs=n:=by rw[<-h.2.1];exact h.1.1
 have H:=AA h;have HL:=AA hl;have HN:=AA ac;clear h hl ac;go_enter func55,ntmps55;go_upto_region 3 with fail
 obtain⟨W0,B⟩:∃W,W=w.alloc (i7 #[T O 0 0,i6 br,R K 0] 186):=⟨_,rfl⟩;obtain⟨S,hS⟩:∃S,S=w.heap.size:=⟨_,rfl⟩;have V:La w W0:=by rw[B];exact AL _ _
 have U:∃tv X,NwS w.heap.size S tv X (rs.take 0) br W0:=⟨_,_,NwS.new (by rw[B,hS];exact AT _ _) om⟩;rw[<-B,<-hS];have HS:=AA hS;clear B hS;have al:=AA U;have am:=AA V;clear U V
 go_loopw[13] (λao wr=>∃(i:Nat),i<=n/\ao=R K i/\Hid (∃tv X,NwS w.heap.size S tv X (rs.take i) br wr)/\Hid (La w wr)) (λs _=>n-(intOf s).toNat)
 case atStart=>exact⟨0,AR _,rfl,al,am⟩
 case round=>
  clear al am;obtain⟨i,au,rfl,U,V⟩:=hrel
  by_cases ag:i<n
  ·have hd:decide ((i:Int)<n)=G:=by simp;omega
   have a2:i<lc rs:=by rw[HN.out];exact ag
   have af:i<lc vs:=by rw[H.out.2.1];exact a2
   obtain⟨x,hx⟩:∃x,rs[i]?=E x:=⟨rs[i],Ar a2⟩;obtain⟨v,hv⟩:∃v,vs[i]?=E v:=⟨vs[i],Ar af⟩;have a6:=H.out.2.2 i v x hv hx;obtain⟨b,o,rfl,ai,aj⟩:=H.out.1.2.resolve_left om;have r0:wr.cell? ⟨b,o+i,O⟩=E (T v.1 v.2.1 v.2.2):=(V.out.cell (p:=⟨b,o+i,O⟩) ai).trans (aj i v hv);have ae:lc x<=1000000:=HL.out x (AX hx);have a8:v.2.1=lc x:=a6.1.1.symm;have ab:rs.take (i+1)=rs.take i++[x]:=by rw[LH,hx];rfl
   have aa:(rs.take i).length=i:=by rw[Ag];omega
   obtain⟨tv,X,N⟩:=U.out;obtain⟨D,hD⟩:∃D,D=wr.drew:=⟨_,rfl⟩;have C:La wr D:=by rw[hD];exact AN wr 1
   have j:=N.keep C;have ak:=V.out.trans (C.mono V.out.size);have sD:D.cell? ⟨S,0,O⟩=E tv:=by simp[cell?,j.box]
   have J:Bys D v.1 v.2.1 x:=(a6.below (V.out.mono (AC _))).below C;have HC:=AA (acP v.1 v.2.1 v.2.2 (x.map (Value.int .u8)) D (Jz J.1) (λu hu=>by obtain⟨x,_,rfl⟩:=Be.1 hu;rfl) om);rw[a8]at r0 HC;obtain⟨va,vn,vc⟩:=v;dsimp only at r0 HC;have HX:=AA (Va J.2 (Va ae (Va ab aa)));have ap:=AA j;have aq:=AA ak;have i1:(0:Int)<=(i:Int):=by omega
   have i2:(i:Int)<(n:Int):=by omega
   have ar:IntKind.i64.wrap ((i:Int)+1)=((i+1:Nat):Int):=by rw[BK];omega
   have a7:wrap64 ((i:Int)+1)=((i+1:Nat):Int):=aoQ hn ag;clear a6 aj ai ae a8 ab aa N C j ak J hx hv a2 af U;go_upto_region 5 with fail
   refine Ve ?_;refine Vd (S:=λY=>True) kr trivial (λhHeld=>?_);rw[<-hD];clear hD;refine tkA 0 ?_;refine tkA 1 ?_;refine tkA 2 ?_;refine tkA 3 ?_;refine tkA 4 ?_;refine tkA 6 ?_;refine apE 5 7 (λKB Z=>?_) (λKB Z=>?_)
   focus
    go_simp;refine Z.out _ _ trivial (λh5=>?_);clear Z KB
    try simp only[pq]
    refine rdy 7 (λKB Z=>?_);go_simp
    go_at_call 104;refine HC.out.mono ?_;rintro e I ⟨v5,rfl,ho,hb⟩
    obtain⟨a5,c5,A,_,_⟩:=SlK.own ho;subst A;refine Z.out _ _ trivial (λh7=>?_);clear Z KB
    try simp only[pq]
    have s5:I.cell? ⟨S,0,O⟩=E tv:=(hb.cell (p:=⟨S,0,O⟩) (DO D _ sD)).trans sD;have sA:(I.alloc (i7 #[T a5 (lc x) c5] 32)).cell? ⟨S,0,O⟩=E tv:=((AL I _).cell (p:=⟨S,0,O⟩) (DO I _ s5)).trans s5;have HO:=AA ho;have HB:=AA hb;clear ho hb;refine rdy 8 (λKB Z=>?_);go_simp;refine Z.out _ _ trivial (λh8=>?_);clear Z KB
    try simp only[pq]
   rotate_left
   focus
    go_simp
    go_at_call 104;refine HC.out.mono ?_;rintro e I ⟨v5,rfl,ho,hb⟩
    obtain⟨a5,c5,A,_,_⟩:=SlK.own ho;subst A;refine Z.out _ _ trivial (λh7=>?_);clear Z KB
    try simp only[pq]
    have s5:I.cell? ⟨S,0,O⟩=E tv:=(hb.cell (p:=⟨S,0,O⟩) (DO D _ sD)).trans sD;have sA:(I.alloc (i7 #[T a5 (lc x) c5] 32)).cell? ⟨S,0,O⟩=E tv:=((AL I _).cell (p:=⟨S,0,O⟩) (DO I _ s5)).trans s5;have HO:=AA ho;have HB:=AA hb;clear ho hb;refine apE 5 8 (λKB Z=>?_) (λKB Z=>?_)
    focus
     go_simp;refine Z.out _ _ trivial (λh5=>?_);clear Z KB
     try simp only[pq]
     refine rdy 8 (λKB Z=>?_);go_simp;refine Z.out _ _ trivial (λh8=>?_);clear Z KB
     try simp only[pq]
    rotate_left
    focus
     go_simp;refine Z.out _ _ trivial (λh8=>?_);clear Z KB
     try simp only[pq]
     refine rdy 5 (λKB Z=>?_);go_simp;refine Z.out _ _ trivial (λh5=>?_);clear Z KB
     try simp only[pq]
   all_goals
    clear s5 sA sD;obtain⟨a1,c1,W1,hr,f1,k1,g1,g2⟩:=ap.out.app (v:=(a5,lc x,c5)) x HX.out.1 HO.out HB.out (by have:=HX.out.2.2.2;omega);have HR:=AA hr;have G1:Hid (∃tv X,NwS w.heap.size S tv X (rs.take (i+1)) br (W1.setCell ⟨S,0,O⟩ (T a1 ((rs.take i).length+1) c1))):=⟨_,_,by rw[HX.out.2.2.1];exact g1⟩;have G2:=AA (aq.out.trans g2);obtain⟨LO,hL⟩:∃LO,(rs.take i).length+1=LO:=⟨_,rfl⟩;rw[hL]at HR G1 G2;clear g1 g2 hr hL HC;refine rdy 9 (λKB Z=>?_);refine GU (.tmp 22) (.tmp 25) 22 rfl _ _ rfl rfl rfl HR.out ?_;refine Z.out _ _ trivial (λh9=>?_);clear Z KB
    try simp only[pq]
    refine tkA 10 ?_;refine tkA 11 ?_;refine tkA 12 ?_;refine rdy 13 (λKB Z=>?_);go_simp;refine Z.out _ _ trivial (λav=>?_);clear Z KB
    try simp only[pq]
    refine Vg kr ?_ _;refine At ?_;go_wp2
    go_roundw
    case rel=>exact⟨i+1,by omega,by first|rfl|simp[a7],G1,G2⟩
    case measure=>(try simp only[a7]);simp[intOf];omega
  ·obtain rfl:i=n:=by omega
   have hd:decide ((i:Int)<i)=M:=by simp
   go_wp2;go_ret;obtain⟨tv,X,N⟩:=U.out;rw[<-HN.out,Hl]at N;obtain⟨a',c',hs⟩:=N.src;exact⟨S,a',c',X,rfl,hs,V.out⟩
theorem ahY:(ZP.info? 4).map (λi=>(i.zero,i.size,i.bytes))=E (E (i6 M),1,1):=by kernel_rfl
theorem alz:(ZP.info? 5).map (λi=>(i.zero,i.size,i.bytes))=E (E (.int .u8 0),1,1):=by kernel_rfl
theorem al9:(ZP.info? 32).map (λi=>(i.zero,i.size,i.bytes))=E (E (T O 0 0),1,24):=by kernel_rfl
theorem agf(z:Vk)(n:Nat):madeCells #[z] n=(List.replicate n z).toArray:=by rw[<-toList_madeCells_one z n,Array.toArray_toList]
theorem apt{n i:Nat}(h2:n<=16)(h:i<n):wrap64 ((i:Int)+1)=((i+1:Nat):Int):=by unfold wrap64;omega
def frN(n i:Nat):List Int:=((List.range n).reverse.take i).map λx:Nat=>(x:Int)
theorem ao7(n:Nat):frN n n=(List.range n).reverse.map λx:Nat=>(x:Int):=by unfold frN;rw[Ap sm]
theorem al4{n i:Nat}(h:i<n):frN n (i+1)=frN n i++[(n:Int)-1-i]:=by
 unfold frN;have Z:i<(List.range n).reverse.length:=by simp;exact h
 rw[List.take_succ_eq_append_getElem Z,Aj];congr 1;simp;omega
theorem ao3(n i:Nat):(frN n i).length<=i:=by unfold frN;simp;omega
theorem BB.new{base U D B n size:Nat}{w:Wa}(N:w.heap[U]?=E (i7 (List.replicate n (i6 M)).toArray 4 (0,0)))(J:w.heap[D]?=E (i7 (List.replicate n (T O 0 0)).toArray 32 (0,0)))
  (hB:w.heap[B]?=E (i7 #[T O 0 0,R K (size:Int),T (E ⟨U,0,O⟩) n n,T (E ⟨D,0,O⟩) n n] 210 (0,0))) (h1:base<=U) (h2:base<=D) (h3:base<=B) (h4:U≠D) (h5:U≠B) (h6:D≠B) :
  BB (λk=>base<=k) (λk=>if k=B then 1 else if k=U then 2 else 3) B U D (T O 0 0) (List.replicate n (T O 0 0)) size (frN n 0) (List.replicate n M) (List.replicate n []) w:=by
 have V:(List.replicate n M).length=n:=CS;refine⟨by rw[V];exact hB,by rw[List.map_replicate];exact N,J,⟨h3,h1,h2⟩,⟨Lq rfl,by rw[Lc h5,Lq rfl],by rw[Lc h6,Lc (Ne.symm h4)]⟩,⟨CO.nil _ _ _ _,λg Z=>by cases Z⟩,by simp,λi v xs X Y=>?_⟩;have I:=Ho (AX X);have e2:=Ho (AX Y);subst I e2;exact⟨CO.nil _ _ _ _,λg Z=>by cases Z⟩
theorem BB.room{X:Nat->Prop}{Y:Nat->Nat}{B U D size:Nat}{A:Vk}{I:List Vk}{fr:List Int}{us:List Bool}{n i cap:Nat}{cs:Array Vk}{w:Wa}(h:BB X Y B U D A I size fr us (List.replicate n []) w)(hi:i<n)(a1:cs.size=cap)(C:cap<=1000) :∃Z J,BB (λk=>X k∨w.heap.size<=k) Z B U D A J size fr us (List.replicate n []) ((w.alloc (i7 cs 5)).setCell ⟨D,i,O⟩ (T (E ⟨w.heap.size,0,O⟩) 0 cap))/\Chg X w ((w.alloc (i7 cs 5)).setCell ⟨D,i,O⟩ (T (E ⟨w.heap.size,0,O⟩) 0 cap))/\(w.alloc (i7 cs 5)).frozen? ⟨D,i,O⟩=M/\(∃u,(w.alloc (i7 cs 5)).cell? ⟨D,i,O⟩=E u):=by
 have hd:=h.dl;rw[CS]at hd;have N:i<lc I:=by omega
 have hx:(w.alloc (i7 cs 5)).heap[w.heap.size]?=E (i7 cs 5 (0,0)):=AT _ _;obtain⟨H,q2,j,s⟩:=h.setD (v:=I[i]) (v':=T (E ⟨w.heap.size,0,O⟩) 0 cap) (xs':=[]) (V:=w.alloc (i7 cs 5)) i (Ar N) ⟨rfl,.inr ⟨_,cap,cs,rfl,AR _,hx,AR _,by unfold maxLen;omega,by omega,by simp⟩⟩ (.of_same (AL _ _)) (λg e=>.inr (by have:=AK e;exact Gq this));rw[List.set_replicate_self]at H;exact⟨_,_,H,q2,j,s⟩
theorem alQ(n size:Nat)(w:Wa)(h1:1<=n)(h2:n<=16)(h3:1<=size)(h4:size<=288) :Calls ZP 96 #[R K (n:Int),R K (size:Int)] w λe w'=>∃B U D,e=ra (ta #[L (E ⟨B,0,O⟩),R K 0])/\DM (λk=>w.heap.size<=k) B U D size ((List.range n).reverse.map λx:Nat=>(x:Int)) (List.replicate n M) (List.replicate n []) w'/\La w w':=by
 have am:∀V:Wa,(Instr.makeSlice 27 (R K n) (R K n)).run ZP V=.ok (T (E ⟨V.heap.size,0,O⟩) n n) (V.alloc (i7 (List.replicate n (i6 M)).toArray 4)):=λV=>by obtain⟨i0,hi,a1,H,j⟩:=Vh ahY;have h:=run_makeSlice (P:=ZP) (w:=V) 27 4 i0 (.bool M) underlying27 hi a1 .i64 .i64 (n:Int) (n:Int) om om (by rw[H];omega) (by rw[j];omega) om;rw[H,Aa,Hk]at h;exact h.trans (by rw[<-agf];rfl)
 have ao:∀V:Wa,(Instr.makeSlice 22 (R K n) (R K n)).run ZP V=.ok (T (E ⟨V.heap.size,0,O⟩) n n) (V.alloc (i7 (List.replicate n (T O 0 0)).toArray 32)):=λV=>by obtain⟨i0,hi,a1,H,j⟩:=Vh al9;have h:=run_makeSlice (P:=ZP) (w:=V) 22 32 i0 (.slice O 0 0) underlying22 hi a1 .i64 .i64 (n:Int) (n:Int) om om (by rw[H];omega) (by rw[j];omega) om;rw[H,Aa,Hk]at h;exact h.trans (by rw[<-agf];rfl)
 obtain⟨cs,aa⟩:∃cs:Array Vk,cs=madeCells #[Value.int .u8 0] size:=⟨_,rfl⟩;have a8:∀V:Wa,(Instr.makeSlice 32 (R K 0) (R K size)).run ZP V=.ok (T (E ⟨V.heap.size,0,O⟩) 0 size) (V.alloc (i7 cs 5)):=λV=>by obtain⟨i0,hi,a1,H,j⟩:=Vh alz;have h:=run_makeSlice (P:=ZP) (w:=V) 32 5 i0 (.int .u8 0) underlying32 hi a1 .i64 .i64 0 (size:Int) om om (by rw[H];omega) (by rw[j];omega) om;rw[H,Aa,Hk]at h;rw[aa];exact h
 have ae:cs.size=size:=by rw[aa,size_madeCells]
 have d0:decide ((n:Int)<1)=M:=by simp;omega
 have d1:decide ((n:Int) > 16)=M:=by simp;omega
 have aN:decide ((16:Int)<(n:Int))=M:=by simp;omega
 have d2:decide (n<1)=M:=by simp;omega
 have d3:decide (16<n)=M:=by simp;omega
 have d4:decide (n=0)=M:=by simp;omega
 have f0:decide ((size:Int)<1)=M:=by simp;omega
 have f1:decide ((size:Int) > 288)=M:=by simp;omega
 have aM:decide ((288:Int)<(size:Int))=M:=by simp;omega
 have f2:decide (size<1)=M:=by simp;omega
 have f3:decide (288<size)=M:=by simp;omega
 have f4:decide (size=0)=M:=by simp;omega
 have a7:=AA (Va h1 (Va h2 (Va h3 h4)));have aC:=AA (Va aa ae);have aq:=AA a8;clear h1 h2 h3 h4 aa ae a8;go_enter func96,ntmps96;go_upto_region 3 with fail
 go_region
 focus
  obtain⟨W,hW⟩:∃W,W=((w.alloc (i7 (Array.replicate n (i6 M)) 4)).alloc (i7 (Array.replicate n (T O 0 0)) 32)).alloc (i7 #[T O 0 0,R K (size:Int),T (E ⟨w.heap.size,0,O⟩) n n,T (E ⟨w.heap.size+1,0,O⟩) n n] 210):=⟨_,rfl⟩;have hO:Bx w.heap.size [i7 (Array.replicate n (i6 M)) 4,i7 (Array.replicate n (T O 0 0)) 32,i7 #[T O 0 0,R K (size:Int),T (E ⟨w.heap.size,0,O⟩) n n,T (E ⟨w.heap.size+1,0,O⟩) n n] 210] W:=by rw[hW];exact(((Bx.nil _ w).snoc _ rfl).snoc _ sm).snoc _ sm
  have J:La w W:=by rw[hW];exact((AL _ _).alloc sm _).alloc (by simp;omega) _
  have C:=hO 0 _ rfl;have a6:=hO 1 _ rfl;have a2:=hO 2 _ rfl;rw[DQ]at C;rw[<-List.toArray_replicate]at C a6;have HS:Hid (∃Z N X,BB (λk=>w.heap.size<=k) Z (w.heap.size+1+1) (w.heap.size) (w.heap.size+1) N X size (frN n 0) (List.replicate n M) (List.replicate n []) W):=⟨_,_,_,BB.new (by assumption) (by assumption) a2 om om om om om om⟩;obtain⟨B,hB⟩:∃B,B=w.heap.size+1+1:=⟨_,rfl⟩;obtain⟨D,hD⟩:∃D,D=w.heap.size+1:=⟨_,rfl⟩;obtain⟨U,hU⟩:∃U,U=w.heap.size:=⟨_,rfl⟩;rw[<-hB,<-hD]at HS;have A:Hid (∃Z N X,BB (λk=>w.heap.size<=k) Z B U D N X size (frN n 0) (List.replicate n M) (List.replicate n []) W):=by rw[hU];exact HS
  have I:=AA J;rw[<-hW,<-hB,<-hD,<-hU]
  replace A:Hid (∃Z N X,BB (λk=>w.heap.size<=k) Z B U D N X size (frN n 0) (List.replicate n M) (List.replicate n []) W.drew):=by obtain⟨Z,N,X,h⟩:=A.out;exact⟨Z,N,X,h.keep (Y:=λ_=>False) (.of_same (AN W 1)) λ_ _ _ h=>h⟩
  replace I:Hid (La w W.drew):=I.out.trans ((AN W 1).mono I.out.size)
  clear hW hB hD hU J hO C a6 a2 HS am ao
 rotate_left
 focus
  obtain⟨W,hW⟩:∃W,W=((w.alloc (i7 (Array.replicate n (T O 0 0)) 32)).alloc (i7 (Array.replicate n (i6 M)) 4)).alloc (i7 #[T O 0 0,R K (size:Int),T (E ⟨w.heap.size+1,0,O⟩) n n,T (E ⟨w.heap.size,0,O⟩) n n] 210):=⟨_,rfl⟩;have hO:Bx w.heap.size [i7 (Array.replicate n (T O 0 0)) 32,i7 (Array.replicate n (i6 M)) 4,i7 #[T O 0 0,R K (size:Int),T (E ⟨w.heap.size+1,0,O⟩) n n,T (E ⟨w.heap.size,0,O⟩) n n] 210] W:=by rw[hW];exact(((Bx.nil _ w).snoc _ rfl).snoc _ sm).snoc _ sm
  have J:La w W:=by rw[hW];exact((AL _ _).alloc sm _).alloc (by simp;omega) _
  have C:=hO 0 _ rfl;have a6:=hO 1 _ rfl;have a2:=hO 2 _ rfl;rw[DQ]at C;rw[<-List.toArray_replicate]at C a6;have HS:Hid (∃Z N X,BB (λk=>w.heap.size<=k) Z (w.heap.size+1+1) (w.heap.size+1) (w.heap.size) N X size (frN n 0) (List.replicate n M) (List.replicate n []) W):=⟨_,_,_,BB.new (by assumption) (by assumption) a2 om om om om om om⟩;obtain⟨B,hB⟩:∃B,B=w.heap.size+1+1:=⟨_,rfl⟩;obtain⟨U,hD⟩:∃D,D=w.heap.size+1:=⟨_,rfl⟩;obtain⟨D,hU⟩:∃U,U=w.heap.size:=⟨_,rfl⟩;rw[<-hB,<-hD]at HS;have A:Hid (∃Z N X,BB (λk=>w.heap.size<=k) Z B U D N X size (frN n 0) (List.replicate n M) (List.replicate n []) W):=by rw[hU];exact HS
  have I:=AA J;rw[<-hW,<-hB,<-hD,<-hU]
  replace A:Hid (∃Z N X,BB (λk=>w.heap.size<=k) Z B U D N X size (frN n 0) (List.replicate n M) (List.replicate n []) W.drew):=by obtain⟨Z,N,X,h⟩:=A.out;exact⟨Z,N,X,h.keep (Y:=λ_=>False) (.of_same (AN W 1)) λ_ _ _ h=>h⟩
  replace I:Hid (La w W.drew):=I.out.trans ((AN W 1).mono I.out.size)
  clear hW hB hD hU J hO C a6 a2 HS am ao
 all_goals
  go_upto_region 5 with fail
  go_loopw[30] (λar wr=>∃(i:Nat),i<=n/\ar=R K i/\Hid (∃Z N X,BB (λk=>w.heap.size<=k) Z B U D N X size (frN n i) (List.replicate n M) (List.replicate n []) wr)/\Hid (La w wr)) (λs _=>n-(intOf s).toNat)
  case atStart=>exact⟨0,AR _,rfl,A,I⟩
  case round=>
   clear A I;obtain⟨i,aK,rfl,hS,J⟩:=hrel
   by_cases ag:i<n
   ·have hd:decide ((i:Int)<n)=G:=by simp;omega
    obtain⟨Z,N,X,hs⟩:=hS.out;have ab:=hs.box;rw[CS]at ab;have c3:wr.cell? ⟨B,3,O⟩=E (T (E ⟨D,0,O⟩) n n):=by simp[cell?,ab]
    have af:=hs.keep (Y:=λ_=>False) (.of_same (AN wr 1)) λ_ _ _ h=>h;have ac:=J.out.trans ((AN wr 1).mono J.out.size);obtain⟨Y,hY⟩:∃Y,Y=wr.drew:=⟨_,rfl⟩;have au:wr.drewN 1=Y:=hY.symm;rw[au]at af ac;obtain⟨aD,aA,q1,q2,q3,u,q4⟩:=af.room ag aC.out.2 (by have:=a7.out;omega);have a8:=aq.out;obtain⟨V,hV⟩:∃V,V=(Y.alloc (i7 cs 5)).setCell ⟨D,i,O⟩ (T (E ⟨Y.heap.size,0,O⟩) 0 size):=⟨_,rfl⟩;rw[<-hV]at q1 q2;rw[hY]at q3 q4;have aE:=hs.inX.2.2;have ax:=(AD.1 hs.data).1;have ai:wr.heap[D]?=E (i7 X.toArray 32 (0,0)):=hs.data;have j1:wr.frozen? ⟨D,i,O⟩=M:=by simp[frozen?,ai]
    have av:i<lc X:=by have:=hs.dl;simp at this;omega
    have j2:wr.cell? ⟨D,i,O⟩=E X[i]:=by simp[cell?,ai,av]
    have az:=(AD.1 ab).1;have ay:(wr.alloc (i7 cs 5)).cell? ⟨B,3,O⟩=E (T (E ⟨D,0,O⟩) n n):=((AL wr (i7 cs 5)).cell (p:=⟨B,3,O⟩) az).trans c3;clear hs ab ai;go_upto_region 7 with fail
    go_region
    have ap:((wr.setCell ⟨D,i,O⟩ (T (E ⟨wr.heap.size,0,O⟩) 0 size)).alloc (i7 cs 5)).drew=V:=by
     rw[hV,World.setCell_alloc_past _ _ _ _ (show D<Y.heap.size by rw[hY];exact ax),hY]
     rfl
    rw[ap];clear ap hV q3 q4 j1 j2 c3 ay a8 aq;have HP:=abn ((n:Int)-1-i) V q1 (by have:=ao3 n i;have:=a7.out;omega);have aB:Hid (Calls ZP 138 #[L (E ⟨B,0,O⟩),R K ((n:Int)-1-i)] V λe w'=>(∃v,e=ra v)/\(∃Z N X,BB (λk=>w.heap.size<=k) Z B U D N X size (frN n (i+1)) (List.replicate n M) (List.replicate n []) w')/\La w w'):=HP.mono λe w' ⟨h1,⟨fv',aj,h2⟩,h3⟩=>by
     have aw:w.heap.size<=Y.heap.size:=ac.size;have aL:Y.heap.size<=V.heap.size:=q2.size;refine⟨h1,⟨aj,fv',aA,?_⟩,?_⟩
     ·rw[al4 ag];exact h2.wide λk _ hk=>by rcases hk with(h|h)|h<;>omega
     ·exact ac.trans ((q2.trans h3 λk _ hk=>hk.elim id λh=>by omega).below aw λk aJ aI=>by omega)
    clear HP q1 q2 af ac;have i1:(0:Int)<=(i:Int):=by omega
    have i2:(i:Int)<(n:Int):=by omega
    have aH:IntKind.i64.wrap ((n:Int)-1)=(n:Int)-1:=by have:=a7.out;rw[BK];omega
    have aG:IntKind.i64.wrap ((n:Int)-1-i)=(n:Int)-1-i:=by have:=a7.out;rw[BK];omega
    have al:=a7.out.2.1;have aF:IntKind.i64.wrap ((i:Int)+1)=((i+1:Nat):Int):=by rw[BK];omega
    have ak:wrap64 ((i:Int)+1)=((i+1:Nat):Int):=apt al ag
    go_wp2_with (go_at_call 138;refine aB.out.mono ?_;rintro e w3 ⟨⟨v,rfl⟩,h2,h3⟩;have H2:=AA h2;have H3:=AA h3;clear h2 h3)
    go_roundw
    case rel=>exact⟨i+1,by omega,by first|rfl|(go_num;done)|simp[ak],H2,H3⟩
    case measure=>(try simp only[ak]);simp[intOf];omega
   ·obtain rfl:i=n:=by omega
    have hd:decide ((i:Int)<i)=M:=by simp
    go_wp2;go_ret2;obtain⟨Z,N,X,hs⟩:=hS.out;rw[ao7]at hs;exact⟨B,U,D,rfl,⟨Z,N,X,hs⟩,J.out⟩
section
theorem NA{Z:Wa}{es:Array MapEntry}{Y n:Nat}{k:Int}{x:Vk}(V:n=Z.heap.size)(U:Instr.findNow (.int .u8) (.int .u8 k) es.toList 0=E O) :Sem.run ZP (Instr.mapUpdate 239 (.map (E n)) (.int .u8 k) x) (Z.alloc (.map es Y))=.ok () (Z.alloc (.map (es.push ⟨.int .u8 k,x,Y⟩) (Y+1))):=by
 subst V;have X:(Z.alloc (.map es Y)).heap[Z.heap.size]?=E (.map es Y):=(Bx.nil _ Z).snoc (.map es Y) rfl 0 _ rfl;simp[Instr.mapUpdate,run_underlying underlying239,MapKept.run_getObj_map X,MapKept.run_checkKey (k:=.int .u8 k) underlying5 (by simp[MapKept.IsKey]),MapKept.run_findKey underlying5 U,MapKept.run_setObj_map _ X,Result.andThen];unfold World.alloc;congr 1
 apply Array.ext_getElem?
 intro j;simp only[Array.getElem?_setIfInBounds,Array.getElem?_push,Array.size_push]
 by_cases hk:Z.heap.size=j
 ·subst hk;simp
 ·have:j≠Z.heap.size:=λe=>hk e.symm;simp[hk,this]
theorem ale(Z:Wa)(n:Nat)(x:Vk)(Y:n=Z.heap.size):Sem.run ZP (Instr.mapUpdate 239 (.map (E n)) (.int .u8 1) x) (Z.alloc (.map #[] 0))=.ok () (Z.alloc (.map #[⟨.int .u8 1,x,0⟩] 1)):=NA Y rfl
theorem amh(Z:Wa)(n:Nat)(x y:Vk)(Y:n=Z.heap.size):Sem.run ZP (Instr.mapUpdate 239 (.map (E n)) (.int .u8 2) x) (Z.alloc (.map #[⟨.int .u8 1,y,0⟩] 1))=.ok () (Z.alloc (.map #[⟨.int .u8 1,y,0⟩,⟨.int .u8 2,x,1⟩] 2)):=NA Y kr
theorem amx(Z:Wa)(n:Nat)(x y z:Vk)(Y:n=Z.heap.size):Sem.run ZP (Instr.mapUpdate 239 (.map (E n)) (.int .u8 3) x) (Z.alloc (.map #[⟨.int .u8 1,y,0⟩,⟨.int .u8 2,z,1⟩] 2))=.ok () (Z.alloc (.map #[⟨.int .u8 1,y,0⟩,⟨.int .u8 2,z,1⟩,⟨.int .u8 3,x,2⟩] 3)):=NA Y kr
theorem alP(Z:Wa)(n:Nat)(x y z u:Vk)(Y:n=Z.heap.size):Sem.run ZP (Instr.mapUpdate 239 (.map (E n)) (.int .u8 4) x) (Z.alloc (.map #[⟨.int .u8 1,y,0⟩,⟨.int .u8 2,z,1⟩,⟨.int .u8 3,u,2⟩] 3))=.ok () (Z.alloc (.map #[⟨.int .u8 1,y,0⟩,⟨.int .u8 2,z,1⟩,⟨.int .u8 3,u,2⟩,⟨.int .u8 4,x,3⟩] 4)):=NA Y kr
theorem ahg(w:Wa):Sem.run ZP (Instr.makeMap 239 O) w=.ok (.map (E w.heap.size)) (w.alloc (.map #[] 0)):=rfl
attribute[local go_sem] IW aa0 ahg ale amh amx alP
def MkT(ty:TypeId)(f:Nat->Nat->Option Vk)(cs:Nat->Nat->Array Vk)(w:Wa)(e:Ending)(w':Wa):Prop:=
 e=ra (L (E ⟨w.heap.size,0,O⟩))/\w'.heap[w.heap.size]?=E (i7 (cs w.heap.size (w.heap.size+1)) ty (0,0))/\ES w' (w.heap.size+1) (f w.heap.size)/\w'.heap.size=w.heap.size+2/\La w w'
theorem MkT.mk{ty:TypeId}{f:Nat->Nat->Option Vk}{cs:Nat->Nat->Array Vk}{w:Wa}{e:Ending}{es:Array MapEntry}{Z:Nat}(V:e=ra (L (E ⟨w.heap.size,0,O⟩)))(X:∀k v,f w.heap.size k=E v->∃i,Instr.findNow (.int .u8) (.int .u8 (k:Int)) es.toList 0=E (E (i,v))) :MkT ty f cs w e ((w.alloc (i7 (cs w.heap.size (w.heap.size+1)) ty)).alloc (.map es Z)):=by have Y:Bx w.heap.size [i7 (cs w.heap.size (w.heap.size+1)) ty,.map es Z] ((w.alloc (i7 (cs w.heap.size (w.heap.size+1)) ty)).alloc (.map es Z)):=((Bx.nil _ w).snoc _ rfl).snoc _ sm;have h0:=Y 0 _ rfl;rw[DQ]at h0;exact⟨V,h0,⟨es,Z,Y 1 _ rfl,X⟩,by simp,(AL _ _).alloc sm _⟩
def csE(P Eo m:Nat):Array Vk:=#[L (E ⟨P,0,O⟩),.int .u8 1,.int .u8 2,.map (E m),mvP 158 Eo,mvP 160 Eo]
def csM(P MH m:Nat):Array Vk:=#[L (E ⟨P,0,O⟩),.int .u8 1,.int .u8 3,.map (E m),He,mvP 157 MH,T O 0 0]
def csW(P W m:Nat):Array Vk:=#[L (E ⟨P,0,O⟩),.int .u8 1,.int .u8 4,.map (E m),mvP 151 W,mvP 152 W,R K 0,R K 0,R K 0,T O 0 0,R K 0,R K 0,R K 0,T O 0 0]
def csR(P Ra m:Nat):Array Vk:=#[L (E ⟨P,0,O⟩),.int .u8 1,.int .u8 5,.map (E m),He,mvP 146 Ra,i6 M,R K 0,R K 0,R K 0,R K 0,T O 0 0,i6 M]
def Ia:PAd:=⟨0,0,0,0,0,0,0,0,0,0,0,0,0,0,0,0,λ_=>0,0,0,0,λ_=>0,0,0,0,default⟩
theorem alb(P:Nat)(w:Wa):Calls ZP 103 #[L (E ⟨P,0,O⟩)] w (MkT 253 (λX=>stE {Ia with E:=X}) (λX m=>csE P X m) w):=by
 go_enter func103,ntmps103;go_wp2;go_ret;refine MkT.mk (cs:=λX m=>csE P X m) rfl (λk v hk=>?_)
 match k,hk with
 |1,hk=>exact⟨0,by cases AK hk;kernel_rfl⟩
 |0,hk=>cases hk
 |k+2,hk=>cases hk
theorem alo(P:Nat)(w:Wa):Calls ZP 102 #[L (E ⟨P,0,O⟩)] w (MkT 251 (λX=>stM {Ia with M:=X}) (λX m=>csM P X m) w):=by
 go_enter func102,ntmps102;go_wp2;go_ret;refine MkT.mk (cs:=λX m=>csM P X m) rfl (λk v hk=>?_)
 match k,hk with
 |1,hk=>exact⟨0,by cases AK hk;kernel_rfl⟩
 |2,hk=>exact⟨1,by cases AK hk;kernel_rfl⟩
 |0,hk=>cases hk
 |k+3,hk=>cases hk
theorem als(P:Nat)(w:Wa):Calls ZP 101 #[L (E ⟨P,0,O⟩)] w (MkT 249 (λX=>stW {Ia with Wk:=λ_=>X} 0) (λX m=>csW P X m) w):=by
 go_enter func101,ntmps101;go_wp2;go_ret;refine MkT.mk (cs:=λX m=>csW P X m) rfl (λk v hk=>?_)
 match k,hk with
 |1,hk=>exact⟨0,by cases AK hk;kernel_rfl⟩
 |2,hk=>exact⟨1,by cases AK hk;kernel_rfl⟩
 |3,hk=>exact⟨2,by cases AK hk;kernel_rfl⟩
 |0,hk=>cases hk
 |k+4,hk=>cases hk
theorem aiF(P:Nat)(w:Wa):Calls ZP 100 #[L (E ⟨P,0,O⟩)] w (MkT 245 (λX=>stR {Ia with R:=X}) (λX m=>csR P X m) w):=by
 go_enter func100,ntmps100;go_wp2;go_ret;refine MkT.mk (cs:=λX m=>csR P X m) rfl (λk v hk=>?_)
 match k,hk with
 |1,hk=>exact⟨0,by cases AK hk;kernel_rfl⟩
 |2,hk=>exact⟨1,by cases AK hk;kernel_rfl⟩
 |3,hk=>exact⟨2,by cases AK hk;kernel_rfl⟩
 |4,hk=>exact⟨3,by cases AK hk;kernel_rfl⟩
 |0,hk=>cases hk
 |k+5,hk=>cases hk
end
def npV(c:CfM)(m S Kk:Nat)(b q g o tv:Vk):Array Vk:=
 #[L (E ⟨m,0,O⟩),R K (c.W:Int),R K (c.K:Int),R K (c.R:Int),R K (c.Q:Int),R K (c.O:Int),R K (c.S:Int),R K (c.F:Int),R K (c.wm:Int),L (E ⟨S,0,O⟩),L (E ⟨Kk,0,O⟩),b,q,g,o,tv,R K 0,R K 0,T O 0 0,i6 M]
theorem Fk.below{q:Nat}{W V V':Wa}(h:Fk q W V)(Z:La V V'):Fk q W V':=⟨AS h.1 Z.size,λk h1 h2 h3=>(Z.block k (Af h2 h.1)).trans (h.2 k h1 h2 h3)⟩
def cfV(c:CfM):Array Vk:=#[R K (c.W:Int),R K (c.K:Int),R K (c.R:Int),R K (c.Q:Int),R K (c.O:Int),R K (c.S:Int),R K (c.F:Int)]
structure NpS(c:CfM)(m S Kk n0 P:Nat)(b q g o tv:Value)(V:World):Prop where
 box:V.heap[P]?=some (.cells (npV c m S Kk b q g o tv) 109 (0,0))
 conf:V.heap[n0]?=some (.cells (cfV c) 26 (0,0))
 lt:n0<P
section
variable {c:CfM}{m S Kk n0 P:Nat}{b q g o tv:Vk}{V V':Wa}
theorem NpS.keep(h:NpS c m S Kk n0 P b q g o tv V)(Z:La V V'):NpS c m S Kk n0 P b q g o tv V':=⟨(Z.block _ (AD.1 h.box).1).trans h.box,(Z.block _ (AD.1 h.conf).1).trans h.conf,h.lt⟩
theorem NpS.ce(h:NpS c m S Kk n0 P b q g o tv V)(i:Nat)(v:Vk)(e:(npV c m S Kk b q g o tv)[i]?=E v):V.cell? ⟨P,i,O⟩=E v:=by simp only[cell?,h.box];exact e
theorem NpS.fr(h:NpS c m S Kk n0 P b q g o tv V)(i:Nat):V.frozen? ⟨P,i,O⟩=M:=by simp[frozen?,h.box]
theorem NpS.cc(h:NpS c m S Kk n0 P b q g o tv V)(i:Nat)(v:Vk)(e:(cfV c)[i]?=E v):V.cell? ⟨n0,i,O⟩=E v:=by simp only[cell?,h.conf];exact e
theorem NpS.plt(h:NpS c m S Kk n0 P b q g o tv V):P<V.heap.size:=(AD.1 h.box).1
theorem NpS.set(h:NpS c m S Kk n0 P b q g o tv V)(i:Nat)(v:Vk){b' q' g' o' Z:Vk}(e:(npV c m S Kk b q g o tv).setIfInBounds i v=npV c m S Kk b' q' g' o' Z):NpS c m S Kk n0 P b' q' g' o' Z (V.setCell ⟨P,i,O⟩ v):=⟨by rw[<-e];exact AJ (i:=i) h.box v,(AQ V ⟨P,i,O⟩ v n0 (Nat.ne_of_lt h.lt)).trans h.conf,h.lt⟩
end
theorem ahM:(ZP.info? 100).map (λi=>(i.zero,i.size,i.bytes))=E (E .nilIface,1,16):=by kernel_rfl
structure Tk where
 ity:TypeId
 bty:TypeId
 a:Nat
 cs:Array Value
 f:Nat->Option Value
def ifV(t:Tk):Vk:=.iface t.ity (L (E ⟨t.a,0,O⟩))
def TkM(t:Tk)(V:Wa):Prop:=V.heap[t.a]?=E (i7 t.cs t.bty (0,0))/\ES V (t.a+1) t.f/\t.a+2<=V.heap.size
structure TkI(n5:Nat)(tv:Value)(tl:List Tk)(V:World):Prop where
 row:V.ownsRow n5 100 1 tv tl.length (tl.map ifV)
 el:∀(i:Nat)(t:Tk),tl[i]?=some t->TkM t V/\n5<=t.a/\tv.ownBlock≠some t.a/\tv.ownBlock≠some (t.a+1)
 dj:∀(i j:Nat)(t u:Tk),tl[i]?=some t->tl[j]?=some u->i<j->t.a+2<=u.a∨u.a+2<=t.a
section
variable {n5 P:Nat}{tv:Vk}{tl nw:List Tk}{t:Tk}{V D:Wa}{Y:Nat->Prop}
theorem TkM.keep(h:TkM t D)(Z:Chg Y D V)(h1:¬Y t.a)(h2:¬Y (t.a+1)):TkM t V:=⟨(Z.block _ (AD.1 h.1).1 h1).trans h.1,h.2.1.keep Z h2,AS h.2.2 Z.size⟩
theorem TkI.keep(h:TkI n5 tv tl D)(Z:La D V):TkI n5 tv tl V:=⟨DJ h.row Z,λi t X=>let⟨g1,g2⟩:=h.el i t X;⟨g1.keep (Y:=λ_=>False) (.of_same Z) id id,g2⟩,h.dj⟩
theorem TkI.nil(n5:Nat)(V:Wa):TkI n5 (T O 0 0) [] V:=⟨BN _ _ _ _,λi t Z=>by simp at Z,λi j t u Z=>by simp at Z⟩
theorem TkI.app{c:CfM}{m S Kk n0:Nat}{b q g o:Vk}(h:TkI n5 tv tl D)(hp:NpS c m S Kk n0 P b q g o tv D)(hP:P<n5)(aw:n5<=D.heap.size)(hl:lc tl<=1000)(hk:lc nw<=1000)(hD:La D V)
  (hm:∀(i:Nat)(t:Tk),nw[i]?=E t->TkM t V/\D.heap.size<=t.a) (hj:∀(i j:Nat)(t u:Tk),nw[i]?=E t->nw[j]?=E u->i<j->t.a+2<=u.a∨u.a+2<=t.a) :
  ∃U c1 X,(Builtin.append_ #[103,103] 103 #[tv,.slice (E ⟨V.heap.size,0,O⟩) (lc nw) (lc nw)]).run ZP (V.alloc (i7 (nw.map ifV).toArray 100))=.ok (.slice U (lc tl+lc nw) c1) X/\
   NpS c m S Kk n0 P b q g o tv X/\NpS c m S Kk n0 P b q g o (T U (lc tl+lc nw) c1) (X.setCell ⟨P,15,O⟩ (T U (lc tl+lc nw) c1))/\
   TkI n5 (T U (lc tl+lc nw) c1) (tl++nw) (X.setCell ⟨P,15,O⟩ (T U (lc tl+lc nw) c1))/\
   Chg (λk=>k=P∨n5<=k) D (X.setCell ⟨P,15,O⟩ (T U (lc tl+lc nw) c1)):=by
 obtain⟨i0,hi,ai,ag,af⟩:=Vh ahM;obtain⟨A,hA⟩:∃A,A=V.alloc (i7 (nw.map ifV).toArray 100):=⟨_,rfl⟩;have B:La V A:=by rw[hA];exact AL _ _
 have av:A.heap.size=V.heap.size+1:=by rw[hA];simp
 have aq:=hD.size;have ar:La D A:=hD.trans (B.mono aq);have hV:=h.keep hD;have a8:=hp.keep hD;have ay:=hp.plt;have aj:SlK 1 A (E ⟨V.heap.size,0,O⟩) (lc nw) (nw.map ifV):=by
  have hx:A.heap[V.heap.size]?=E (i7 (nw.map ifV).toArray 100 (0,0)):=by rw[hA];exact AT _ _
  refine⟨by simp,.inr ⟨_,0,rfl,by omega,λi u H=>?_⟩⟩;have e:A.cell? ⟨V.heap.size,0+i,O⟩=(nw.map ifV).toArray[0+i]?:=by simp only[cell?,hx];rfl
  rw[e,DD,Dy];exact H
 rw[<-hA];obtain⟨v1,X,hr,ab,C,ac⟩:=Gu (P:=ZP) A n5 103 103 100 i0 .nilIface 1 16 underlying103 hi ai ag af rfl (by decide) tv (lc tl) (tl.map ifV) (DJ hV.row B) (E ⟨V.heap.size,0,O⟩) (lc nw) (lc nw) (nw.map ifV) aj (λu H=>by obtain⟨x,_,rfl⟩:=Be.1 H;rfl) (by unfold maxLen;omega) om om;obtain⟨U,c1,rfl,_,_⟩:=SlK.own ab;have ax:=C.size;have Z:∀g,tv.ownBlock=E g->n5<=g/\g<D.heap.size:=λg e=>Gw h.row g e;have I:∀k,k<V.heap.size->tv.ownBlock≠E k->X.heap[k]?=V.heap[k]?:=λk hk al=>(C.block k om (λe=>al e.symm)).trans (B.block k hk);have N:∀g,(Value.slice U (lc tl+lc nw) c1).ownBlock=E g->tv.ownBlock=E g∨g=A.heap.size:=λg e=>by
  rcases ac with e2|e2
  ·rw[e2]at e;exact .inl e
  ·rw[e2]at e;exact .inr (AK e).symm
 have v:tv.ownBlock≠E P:=λe=>by have:=Z P e;omega
 have a6:(T U (lc tl+lc nw) c1).ownBlock≠E P:=λe=>by
  rcases N P e with e2|e2
  ·exact v e2
  ·omega
 have aa:NpS c m S Kk n0 P b q g o tv X:=⟨(I P om v).trans a8.box,(I n0 (by have:=hp.lt;omega) (λe=>by have:=Z n0 e;have:=hp.lt;omega)).trans a8.conf,hp.lt⟩;have a7:∀k,k≠P->(X.setCell ⟨P,15,O⟩ (T U (lc tl+lc nw) c1)).heap[k]?=X.heap[k]?:=λk hk=>AQ X ⟨P,15,O⟩ _ k hk;obtain⟨W2,a2⟩:∃W2,W2=X.setCell ⟨P,15,O⟩ (T U (lc tl+lc nw) c1):=⟨_,rfl⟩;have au:X.heap.size<=W2.heap.size:=by rw[a2];simp[World.setCell]
 have ae:Chg (λk=>k=P∨tv.ownBlock=E k) V W2:=by rw[a2];exact((Chg.of_same B).grown C λg e _=>.inr e).set (.inl rfl)
 refine⟨U,c1,X,hr,aa,aa.set 15 _ rfl,⟨?_,λi t J=>?_,λi j t u J H ao=>?_⟩,?_⟩
 ·rw[List.length_append,Aj];exact Fu ab λg ap=>a7 g λe=>a6 (by rw[<-e];exact ap)
 ·rw[<-a2]
  by_cases s:i<lc tl
  ·rw[By s]at J;obtain⟨g1,g2,g3,g4⟩:=hV.el i t J;have ak:=(h.el i t J).1.2.2;refine⟨g1.keep ae (λe=>e.elim (λe=>by omega) g3) (λe=>e.elim (λe=>by omega) g4),g2,λe=>?_,λe=>?_⟩
   ·exact(N _ e).elim g3 λe=>by omega
   ·exact(N _ e).elim g4 λe=>by omega
  ·rw[DY om]at J;obtain⟨g1,g2⟩:=hm _ t J;have ak:=g1.2.2;have n1:tv.ownBlock≠E t.a:=λe=>by have:=Z _ e;omega
   have n2:tv.ownBlock≠E (t.a+1):=λe=>by have:=Z _ e;omega
   refine⟨g1.keep ae (λe=>e.elim (λe=>by omega) n1) (λe=>e.elim (λe=>by omega) n2),by omega,λe=>?_,λe=>?_⟩
   ·exact(N _ e).elim n1 λe=>by omega
   ·exact(N _ e).elim n2 λe=>by omega
 ·by_cases s:i<lc tl
  ·rw[By s]at J
   by_cases am:j<lc tl
   ·rw[By am]at H;exact h.dj i j t u J H ao
   ·rw[DY om]at H;have h1:=(h.el i t J).1.2.2;have h2:=(hm _ u H).2;omega
  ·rw[DY om]at J H;exact hj _ _ t u J H om
 ·exact((Chg.of_same ar).grown C λg e _=>.inr (Z g e).1).set (.inl rfl)
end
def Mn(P a:Nat):Tk:=⟨175,245,a,csR P a (a+1),stR {Ia with R:=a}⟩
def Mm(P a:Nat):Tk:=⟨177,249,a,csW P a (a+1),stW {Ia with Wk:=λ_=>a} 0⟩
def JD(P a:Nat):Tk:=⟨179,251,a,csM P a (a+1),stM {Ia with M:=a}⟩
def IQ(P a:Nat):Tk:=⟨181,253,a,csE P a (a+1),stE {Ia with E:=a}⟩
def CY(W P j a:Nat):Tk:=if j=0 then Mn P a else if j<=W then Mm P a else if j=W+1 then JD P a else IQ P a
def Fj(W P:Nat)(tl:List Tk):Prop:=∀(j:Nat)(t:Tk),tl[j]?=E t->t=CY W P j t.a
theorem Fj.snoc{W P:Nat}{tl:List Tk}{t:Tk}(h:Fj W P tl)(X:t=CY W P (lc tl) t.a):Fj W P (tl++[t]):=λj u Z=>by
 by_cases U:j<lc tl
 ·rw[By U]at Z;exact h j u Z
 ·obtain rfl:j=lc tl:=by
   have:=(AP.1 Z).1;simp at this;omega
  rw[DY (AC _),FG]at Z
  cases AK Z
  exact X
theorem MkT.tkm{ty:TypeId}{f:Nat->Nat->Option Vk}{cs:Nat->Nat->Array Vk}{w V:Wa}{e:Ending}{t:Tk}(h:MkT ty f cs w e V)(h1:t.a=w.heap.size)(h2:t.cs=cs t.a (t.a+1))(h3:t.bty=ty)(h4:t.f=f t.a):TkM t V/\w.heap.size<=t.a:=by
 obtain⟨_,X,Z,U,_⟩:=h;refine⟨⟨?_,?_,by omega⟩,by omega⟩
 ·rw[h2,h3,h1];exact X
 ·rw[h4,h1];exact Z
theorem TkI.one{n5 P W:Nat}{tv:Vk}{tl:List Tk}{t:Tk}{D V:Wa}{c:CfM}{m S Kk n0:Nat}{b q g o:Vk}(h:TkI n5 tv tl D)(C:NpS c m S Kk n0 P b q g o tv D)(e:P<n5)(N:n5<=D.heap.size)(A:lc tl<=1000)(hD:La D V)
  (B:TkM t V/\D.heap.size<=t.a) (H:Fj W P tl) (I:t=CY W P (lc tl) t.a) :
  ∃Z n c1 X,(Builtin.append_ #[103,103] 103 #[tv,.slice (E ⟨V.heap.size,0,O⟩) 1 1]).run ZP (V.alloc (i7 #[ifV t] 100))=.ok (.slice Z n c1) X/\
   NpS c m S Kk n0 P b q g o tv X/\NpS c m S Kk n0 P b q g o (T Z n c1) (X.setCell ⟨P,15,O⟩ (T Z n c1))/\
   TkI n5 (T Z n c1) (tl++[t]) (X.setCell ⟨P,15,O⟩ (T Z n c1))/\Fj W P (tl++[t])/\
   Chg (λk=>k=P∨n5<=k) D (X.setCell ⟨P,15,O⟩ (T Z n c1)):=by
 obtain⟨Z,c1,X,g1,g2,g3,g4,g5⟩:=h.app (nw:=[t]) C e N A sm hD (λi u U=>by
  obtain rfl:i=0:=by have:=(AP.1 U).1;simp at this;omega
  cases AK U;exact B) (λi j u v U J s=>by
  have:=(AP.1 J).1;simp at this;omega)
 exact⟨Z,_,c1,X,g1,g2,g3,g4,H.snoc I,g5⟩
structure Im(c:CfM)(P n1 n2 n3 n4 n5 Bb Bu Bd Q QB G GB O OB:Nat)(V:World):Prop where
 buf:DM (λk=>n1<=k/\k<n2) Bb Bu Bd (c.K+c.wm) ((List.range c.R).reverse.map λx:Nat=>(x:Int)) (List.replicate c.R false) (List.replicate c.R []) V
 que:Ab (λk=>n2<=k/\k<n3) Q QB 0 0 false (List.replicate c.Q ⟨0,0,0,none,0,0,0⟩) V
 rng:BZ (λk=>n3<=k/\k<n4) G GB 0 (List.replicate c.R ((none,0,0),false)) V
 out:AY (λk=>n4<=k/\k<n5) O OB 0 0 false (List.replicate c.O (0,0)) V
 lt:P<n1/\n1<=n2/\n2<=n3/\n3<=n4/\n4<=n5/\n5<=V.heap.size
theorem DM.keep6{X Y:Nat->Prop}{B U D size:Nat}{fr:List Int}{us:List Bool}{ds:Lb}{w w':Wa}(h:DM X B U D size fr us ds w)(N:Chg Y w w')(Z:∀k,k<w.heap.size->X k->¬Y k):DM X B U D size fr us ds w':=let⟨a,b,d,g⟩:=h;⟨a,b,d,g.keep N Z⟩
theorem DM.wide6{X Y:Nat->Prop}{B U D size:Nat}{fr:List Int}{us:List Bool}{ds:Lb}{w:Wa}(h:DM X B U D size fr us ds w)(Z:∀k,k<w.heap.size->X k->Y k):DM Y B U D size fr us ds w:=let⟨a,b,d,g⟩:=h;⟨a,b,d,g.wide Z⟩
section
variable {c:CfM}{P n1 n2 n3 n4 n5 Bb Bu Bd Q QB Gf GB Ob OB:Nat}{V V' w6 w7 w8 w9 W6 W7 W8 W9:Wa}
theorem Im.keep(h:Im c P n1 n2 n3 n4 n5 Bb Bu Bd Q QB Gf GB Ob OB V)(Z:Chg (λk=>k=P∨n5<=k) V V'):Im c P n1 n2 n3 n4 n5 Bb Bu Bd Q QB Gf GB Ob OB V':=by have Y:=h.lt;exact⟨h.buf.keep6 Z λk _ h1 h2=>by omega,h.que.keep Z λk _ h1 h2=>by omega,h.rng.keep Z λk _ h1 h2=>by omega,h.out.keep Z λk _ h1 h2=>by omega,by have:=Z.size;omega⟩
theorem Im.mk2(X:DM (λk=>n1<=k) Bb Bu Bd (c.K+c.wm) ((List.range c.R).reverse.map λx:Nat=>(x:Int)) (List.replicate c.R M) (List.replicate c.R []) w6)(h1:P<n1)(h2:n1<=w6.heap.size)(D:Chg (λk=>k=P) w6 W6)(A:La W6 w7)
  (p7:Ab (λk=>W6.heap.size<=k) Q QB 0 0 M (List.replicate c.Q ⟨0,0,0,O,0,0,0⟩) w7) (J:Chg (λk=>k=P) w7 W7) (B:La W7 w8) (p8:BZ (λk=>W7.heap.size<=k) Gf GB 0 (List.replicate c.R ((O,0,0),M)) w8) (N:Chg (λk=>k=P) w8 W8)
  (C:La W8 w9) (e:AY (λk=>W8.heap.size<=k) Ob OB 0 0 M (List.replicate c.O (0,0)) w9) (U:Chg (λk=>k=P) w9 W9):Im c P n1 W6.heap.size W7.heap.size W8.heap.size W9.heap.size Bb Bu Bd Q QB Gf GB Ob OB W9:=by
 have z6:=D.size;have z7:=A.size;have j:=J.size;have z8:=B.size;have s:=N.size;have z9:=C.size;have v:=U.size;have I:Chg (λk=>k=P) W8 W9:=(Chg.of_same C).then U;have H:Chg (λk=>k=P) W7 W9:=((Chg.of_same B).then N).then I;have d7:Chg (λk=>k=P) W6 W9:=((Chg.of_same A).then J).then H;refine⟨?_,?_,?_,?_,by omega⟩
 ·exact(X.wide6 (Y:=λk=>n1<=k/\k<W6.heap.size) λk hk Z=>(⟨Z,by omega⟩:n1<=k/\k<W6.heap.size)).keep6 (D.then d7) λk _ h3 h4=>by omega
 ·exact(p7.wide (Y:=λk=>W6.heap.size<=k/\k<W7.heap.size) λk hk Z=>(⟨Z,by omega⟩:W6.heap.size<=k/\k<W7.heap.size)).keep (J.then H) λk _ h3 h4=>by omega
 ·exact(p8.wide (Y:=λk=>W7.heap.size<=k/\k<W8.heap.size) λk hk Z=>(⟨Z,by omega⟩:W7.heap.size<=k/\k<W8.heap.size)).keep (N.then I) λk _ h3 h4=>by omega
 ·exact(e.wide (Y:=λk=>W8.heap.size<=k/\k<W9.heap.size) λk hk Z=>(⟨Z,by omega⟩:W8.heap.size<=k/\k<W9.heap.size)).keep U λk _ h3 h4=>by omega
end
theorem TkM.below{t:Tk}{D V:Wa}(h:TkM t D)(Z:La D V):TkM t V:=h.keep (Y:=λ_=>False) (.of_same Z) id id
theorem TkI.two{n5 P W:Nat}{X:Vk}{tl:List Tk}{t u:Tk}{D V:Wa}{c:CfM}{m S Kk U:Nat}{b q g o:Vk}(h:TkI n5 X tl D)(e:NpS c m S Kk U P b q g o X D)(hP:P<n5)(I:n5<=D.heap.size)(hl:lc tl<=1000)(hD:La D V)
  (hm:TkM t V/\D.heap.size<=t.a) (B:TkM u V/\D.heap.size<=u.a) (hd:t.a+2<=u.a∨u.a+2<=t.a) (s:Fj W P tl) (A:t=CY W P (lc tl) t.a) (J:u=CY W P (lc tl+1) u.a) :
  ∃Z n c1 Y,(Builtin.append_ #[103,103] 103 #[X,.slice (E ⟨V.heap.size,0,O⟩) 2 2]).run ZP (V.alloc (i7 #[ifV t,ifV u] 100))=.ok (.slice Z n c1) Y/\
   NpS c m S Kk U P b q g o X Y/\NpS c m S Kk U P b q g o (T Z n c1) (Y.setCell ⟨P,15,O⟩ (T Z n c1))/\
   TkI n5 (T Z n c1) ((tl++[t])++[u]) (Y.setCell ⟨P,15,O⟩ (T Z n c1))/\Fj W P ((tl++[t])++[u])/\
   Chg (λk=>k=P∨n5<=k) D (Y.setCell ⟨P,15,O⟩ (T Z n c1)):=by
 obtain⟨Z,c1,Y,g1,g2,g3,g4,g5⟩:=h.app (nw:=[t,u]) e hP I hl sm hD (λi v N=>by
  have:=(AP.1 N).1;simp at this
  rcases(show i=0∨i=1 by omega)with rfl|rfl
  ·cases AK N;exact hm
  ·cases AK N;exact B) (λi j x y C H a2=>by
  have:=(AP.1 H).1;simp at this;obtain rfl:i=0:=by omega
  obtain rfl:j=1:=by omega
  cases AK C
  cases AK H
  exact hd)
 refine⟨Z,_,c1,Y,g1,g2,g3,?_,(s.snoc A).snoc (by rw[List.length_append];exact J),g5⟩;rw[CE];exact g4
structure GO(c:CfM)(m S Kk:Nat)(w:World)(P n0 n1 n2 n3 n4 n5 Bb Bu Bd Q QB G GB O OB:Nat)(tv:Value)(tl:List Tk)(V:World):Prop where
 np:NpS c m S Kk n0 P (L (some ⟨Bb,0,none⟩)) (L (some ⟨Q,0,none⟩)) (L (some ⟨G,0,none⟩)) (L (some ⟨O,0,none⟩)) tv V
 ti:TkI n5 tv tl V
 sh:Fj c.W P tl
 len:tl.length=c.W+3
 grp:Im c P n1 n2 n3 n4 n5 Bb Bu Bd Q QB G GB O OB V
 lo:w.heap.size<=n0
 below:La w V
theorem aoY:∀m:Nat,m<=16->madeCells (Value.agg #[R K 0,R K 0]).cells (m*2)=(CJ (List.replicate m (0,0))).toArray
 |0,_=>by kernel_rfl
 |1,_=>by kernel_rfl
 |2,_=>by kernel_rfl
 |3,_=>by kernel_rfl
 |4,_=>by kernel_rfl
 |5,_=>by kernel_rfl
 |6,_=>by kernel_rfl
 |7,_=>by kernel_rfl
 |8,_=>by kernel_rfl
 |9,_=>by kernel_rfl
 |10,_=>by kernel_rfl
 |11,_=>by kernel_rfl
 |12,_=>by kernel_rfl
 |13,_=>by kernel_rfl
 |14,_=>by kernel_rfl
 |15,_=>by kernel_rfl
 |16,_=>by kernel_rfl
 |m+17,h=>absurd h om
theorem anb:∃i,ZP.info? 116=E i/\i.zero=E (i8 #[R K 0,R K 0])/\i.size=2/\i.bytes<=100:=by
 have h:((ZP.info? 116).map λi=>(i.zero,i.size,decide (i.bytes<=100)))=E (E (i8 #[R K 0,R K 0]),2,G):=by kernel_rfl
 cases e:ZP.info? 116 with
 |none=>rw[e]at h;cases h
 |some i=>
  rw[e]at h;have h:=AK h
  injection h with h1 h2
  injection h2 with h2 h3
  exact⟨i,rfl,h1,h2,Kf h3⟩
theorem alW(m:Nat)(w:Wa)(h1:1<=m)(h2:m<=16) :Calls ZP 99 #[R K (m:Int)] w λe w'=>∃Q B,e=ra (ta #[L (E ⟨Q,0,O⟩),R K 0])/\AY (λk=>w.heap.size<=k) Q B 0 0 M (List.replicate m (0,0)) w'/\La w w':=by
 have a2:∀V:Wa,(Instr.makeSlice 69 (R K m) (R K m)).run ZP V=.ok (T (E ⟨V.heap.size,0,O⟩) m m) (V.alloc (i7 (CJ (List.replicate m (0,0))).toArray 116)):=λV=>by
  obtain⟨H,hi,C,N,D⟩:=anb;have a6:H.bytes*m<=100*16:=GR D h2;have j:(H.bytes:Int)*(m:Int)<=281474976710656:=by rw[<-Iy];omega
  have h:=run_makeSlice (P:=ZP) (w:=V) 69 116 H (i8 #[.int .i64 0,.int .i64 0]) underlying69 hi C .i64 .i64 (m:Int) (m:Int) om om (by rw[N];omega) j om;rw[N,Aa,aoY m h2]at h;exact h
 have d0:decide ((m:Int)<1)=M:=by simp;omega
 have d1:decide ((m:Int) > 16)=M:=by simp;omega
 have a7:decide ((16:Int)<(m:Int))=M:=by simp;omega
 have d2:decide (m<1)=M:=by simp;omega
 have d3:decide (16<m)=M:=by simp;omega
 have d4:decide (m=0)=M:=by simp;omega
 have a1:=AA (Va h1 h2);clear h1 h2;go_enter func99,ntmps99;go_wp2;go_ret2;obtain⟨h1,h2⟩:=a1.out;have U:(List.replicate m (0,0):List AF).length=m:=CS;obtain⟨X,Z⟩:∃V,V=w.alloc (i7 (CJ (List.replicate m (0,0))).toArray 116):=⟨_,rfl⟩;obtain⟨W2,Y⟩:∃V,V=X.alloc (i7 #[T (E ⟨w.heap.size,0,O⟩) m m,R K 0,R K 0,i6 M] 205):=⟨_,rfl⟩;have v:X.heap[w.heap.size]?=E (i7 (CJ (List.replicate m (0,0))).toArray 116 (0,0)):=by rw[Z];exact AT _ _
 have s:X.heap.size=w.heap.size+1:=by rw[Z];simp
 have A:W2.heap[X.heap.size]?=E (i7 #[T (E ⟨w.heap.size,0,O⟩) m m,R K 0,R K 0,i6 M] 205 (0,0)):=by rw[Y];exact AT _ _
 have I:La w X:=by rw[Z];exact AL _ _
 have J:La X W2:=by rw[Y];exact AL _ _
 have hQ:AY (λk=>w.heap.size<=k) X.heap.size w.heap.size 0 0 M (List.replicate m (0,0)) W2:=⟨by rw[U];exact A,(J.block w.heap.size om).trans v,⟨by show w.heap.size<=X.heap.size;omega,AC _⟩,by omega,by rw[U];omega⟩;have hB:=I.trans (J.mono I.size);rw[s]at hQ;refine⟨w.heap.size+1,w.heap.size,rfl,?_,?_⟩
 ·rw[Y,Z]at hQ;exact hQ
 ·rw[Y,Z]at hB;exact hB
theorem aoV:∀m:Nat,m<=16->madeCells (Value.agg #[R K 0,R K 0,R K 0,T O 0 0,R K 0]).cells (m*5)=(EY (List.replicate m ⟨0,0,0,O,0,0,0⟩)).toArray
 |0,_=>by kernel_rfl
 |1,_=>by kernel_rfl
 |2,_=>by kernel_rfl
 |3,_=>by kernel_rfl
 |4,_=>by kernel_rfl
 |5,_=>by kernel_rfl
 |6,_=>by kernel_rfl
 |7,_=>by kernel_rfl
 |8,_=>by kernel_rfl
 |9,_=>by kernel_rfl
 |10,_=>by kernel_rfl
 |11,_=>by kernel_rfl
 |12,_=>by kernel_rfl
 |13,_=>by kernel_rfl
 |14,_=>by kernel_rfl
 |15,_=>by kernel_rfl
 |16,_=>by kernel_rfl
 |m+17,h=>absurd h om
theorem anS:∃i,ZP.info? 126=E i/\i.zero=E (i8 #[R K 0,R K 0,R K 0,T O 0 0,R K 0])/\i.size=5/\i.bytes<=100:=by
 have h:((ZP.info? 126).map λi=>(i.zero,i.size,decide (i.bytes<=100)))=E (E (i8 #[R K 0,R K 0,R K 0,T O 0 0,R K 0]),5,G):=by kernel_rfl
 cases e:ZP.info? 126 with
 |none=>rw[e]at h;cases h
 |some i=>
  rw[e]at h;have h:=AK h
  injection h with h1 h2
  injection h2 with h2 h3
  exact⟨i,rfl,h1,h2,Kf h3⟩
theorem alF(m:Nat)(w:Wa)(h1:1<=m)(h2:m<=16) :Calls ZP 97 #[R K (m:Int)] w λe w'=>∃Q B,e=ra (ta #[L (E ⟨Q,0,O⟩),R K 0])/\Ab (λk=>w.heap.size<=k) Q B 0 0 M (List.replicate m ⟨0,0,0,O,0,0,0⟩) w'/\La w w':=by
 have a2:∀V:Wa,(Instr.makeSlice 128 (R K m) (R K m)).run ZP V=.ok (T (E ⟨V.heap.size,0,O⟩) m m) (V.alloc (i7 (EY (List.replicate m ⟨0,0,0,O,0,0,0⟩)).toArray 126)):=λV=>by
  obtain⟨H,hi,C,N,D⟩:=anS;have a6:H.bytes*m<=100*16:=GR D h2;have j:(H.bytes:Int)*(m:Int)<=281474976710656:=by rw[<-Iy];omega
  have h:=run_makeSlice (P:=ZP) (w:=V) 128 126 H (i8 #[.int .i64 0,.int .i64 0,.int .i64 0,.slice O 0 0,.int .i64 0]) underlying128 hi C .i64 .i64 (m:Int) (m:Int) om om (by rw[N];omega) j om;rw[N,Aa,aoV m h2]at h;exact h
 have d0:decide ((m:Int)<1)=M:=by simp;omega
 have d1:decide ((m:Int) > 16)=M:=by simp;omega
 have a7:decide ((16:Int)<(m:Int))=M:=by simp;omega
 have d2:decide (m<1)=M:=by simp;omega
 have d3:decide (16<m)=M:=by simp;omega
 have d4:decide (m=0)=M:=by simp;omega
 have a1:=AA (Va h1 h2);clear h1 h2;go_enter func97,ntmps97;go_wp2;go_ret2;obtain⟨h1,h2⟩:=a1.out;have U:(List.replicate m ⟨0,0,0,O,0,0,0⟩:List PcW).length=m:=CS;obtain⟨X,Z⟩:∃V,V=w.alloc (i7 (EY (List.replicate m ⟨0,0,0,O,0,0,0⟩)).toArray 126):=⟨_,rfl⟩;obtain⟨W2,Y⟩:∃V,V=X.alloc (i7 #[T (E ⟨w.heap.size,0,O⟩) m m,R K 0,R K 0,i6 M] 214):=⟨_,rfl⟩;have v:X.heap[w.heap.size]?=E (i7 (EY (List.replicate m ⟨0,0,0,O,0,0,0⟩)).toArray 126 (0,0)):=by rw[Z];exact AT _ _
 have s:X.heap.size=w.heap.size+1:=by rw[Z];simp
 have A:W2.heap[X.heap.size]?=E (i7 #[T (E ⟨w.heap.size,0,O⟩) m m,R K 0,R K 0,i6 M] 214 (0,0)):=by rw[Y];exact AT _ _
 have I:La w X:=by rw[Z];exact AL _ _
 have J:La X W2:=by rw[Y];exact AL _ _
 have hQ:Ab (λk=>w.heap.size<=k) X.heap.size w.heap.size 0 0 M (List.replicate m ⟨0,0,0,O,0,0,0⟩) W2:=⟨by rw[U];exact A,(J.block w.heap.size om).trans v,⟨by show w.heap.size<=X.heap.size;omega,AC _⟩,by omega,by rw[U];omega⟩;have hB:=I.trans (J.mono I.size);rw[s]at hQ;refine⟨w.heap.size+1,w.heap.size,rfl,?_,?_⟩
 ·rw[Y,Z]at hQ;exact hQ
 ·rw[Y,Z]at hB;exact hB
section
attribute[local go_sem] IW aa0
theorem aiL(c:CfM)(m S Kk qm:Nat)(Wm w:Wa)(hc:Ce c.W c.K c.R c.Q c.O c.S c.F=G)(hL:c.L<=32)(bd:∀V,Fk qm Wm V->Calls ZP 95 #[L (E ⟨m,0,O⟩)] V λe w'=>e=ra (R K (c.L:Int))/\V=w')(hk:Fk qm Wm w) :Calls ZP 54 #[L (E ⟨m,0,O⟩),i8 (Ee c.W c.K c.R c.Q c.O c.S c.F),L (E ⟨S,0,O⟩),L (E ⟨Kk,0,O⟩)] w λe w'=>∃P H n1 n2 n3 n4 n5 Bb Bu Bd Q QB Gf GB Ob OB tv tl,e=ra (ta #[L (E ⟨P,0,O⟩),R K 0])/\GO c m S Kk w P H n1 n2 n3 n4 n5 Bb Bu Bd Q QB Gf GB Ob OB tv tl w':=by
 have HR:=NG c.W c.K c.R c.Q c.O c.S c.F;rw[hc]at HR;have bK:=AA HR;have b4:=Gi.1 hc;have C:=AA b4;have bS:=AA bd;have HK:=AA hk;clear b4 HR bd hk hc;go_enter func54,ntmps54;go_upto_region 5 with(go_at_call 26;refine(bK.out _).mono ?_;rintro e w1 ⟨rfl,aW⟩)
 obtain⟨H,aG⟩:∃n,n=w.heap.size:=⟨_,rfl⟩;have aU:w1.heap[H]?=E (i7 (cfV c) 26 (0,0)):=by rw[aG];exact(aW.block _ sm).trans (AT _ _)
 have aV:La w w1:=(AL w _).trans (aW.mono sm);have b2:H<w1.heap.size:=(AD.1 aU).1;rw[<-aG];obtain⟨D,hD⟩:∃D,D=w1.drew:=⟨_,rfl⟩;have U:La w1 D:=by rw[hD];exact AN w1 1
 have au:La w D:=aV.trans (U.mono aV.size);have bk:=bS.out D (HK.out.below au);have ao:D.heap[H]?=E (i7 (cfV c) 26 (0,0)):=(U.block H b2).trans aU;have b0:IntKind.i64.wrap ((c.L:Int)-1)=(c.L:Int)-1:=by rw[BK];omega
 have bF:max (0:Int) ((c.L:Int)-1)=(c.wm:Int):=by unfold CfM.wm;omega
 have aM:=AA au;have aP:=AA bk;have hP:(∀o:Obj,(D.alloc o).heap[H]?=E (i7 (cfV c) 26 (0,0))):=λo=>((AL D o).block H (AD.1 ao).1).trans ao;have HP:=AA hP;have bR:=AA aG;clear aV U au bk aW hP aG;refine Ve ?_;refine Vd (S:=λY=>Y.heap[H]?=E (i7 (cfV c) 26 (0,0))) kr (by rw[<-hD];exact ao) (λhHeld=>?_);rw[<-hD]at hHeld⊢;clear hD aU;refine tkA 0 ?_;refine tkW 1 (v:=?_) ?_ ?_;rotate_left
 ·intro V hV;have q0:V.cell? ⟨H,0,O⟩=E (R K (c.W:Int)):=by simp only[cell?,hV];rfl
  have B:V.cell? ⟨H,1,O⟩=E (R K (c.K:Int)):=by simp only[cell?,hV];rfl
  have q2:V.cell? ⟨H,2,O⟩=E (R K (c.R:Int)):=by simp only[cell?,hV];rfl
  have q3:V.cell? ⟨H,3,O⟩=E (R K (c.Q:Int)):=by simp only[cell?,hV];rfl
  have q4:V.cell? ⟨H,4,O⟩=E (R K (c.O:Int)):=by simp only[cell?,hV];rfl
  have q5:V.cell? ⟨H,5,O⟩=E (R K (c.S:Int)):=by simp only[cell?,hV];rfl
  have q6:V.cell? ⟨H,6,O⟩=E (R K (c.F:Int)):=by simp only[cell?,hV];rfl
  first|(go_simp;done)|(go_simp;with_reducible rfl)
 try simp only[pq]
 refine tkA 2 ?_;refine tkA 6 ?_;refine tkA 7 ?_;refine rdy 3 (λKB Z=>?_);go_simp
 go_at_call 95;refine(aP.out).mono ?_;rintro e w5 ⟨rfl,rfl⟩
 refine Z.out _ _ (ao) (λh3=>?_);clear Z KB
 try simp only[pq]
 refine tkA 4 ?_;refine rdy 5 (λKB Z=>?_);go_simp;refine Z.out _ _ hHeld (λh5=>?_);clear Z KB
 try simp only[pq]
 refine tkA 8 ?_;refine rdy 9 (λKB Z=>?_);go_simp;refine Z.out _ _ (HP.out _) (λh9=>?_);clear Z KB
 try simp only[pq]
 refine tkA 10 ?_;refine Vg kr ?_ _;refine At ?_;obtain⟨P,aB⟩:∃P,P=D.heap.size:=⟨_,rfl⟩;obtain⟨W5,aA⟩:∃V,V=D.alloc (i7 (npV c m S Kk (L O) (L O) (L O) (L O) (T O 0 0)) 109):=⟨_,rfl⟩;have bb:NpS c m S Kk H P (L O) (L O) (L O) (L O) (T O 0 0) W5:=⟨by rw[aA,aB];exact AT _ _,by rw[aA];exact HP.out _,by rw[aB];exact(AD.1 ao).1⟩;have be:La w W5:=by rw[aA];exact aM.out.trans ((AL D _).mono aM.out.size)
 have b8:w.heap.size<=P:=by rw[aB];exact aM.out.size
 have ag:=aA;unfold npV at ag;rw[<-ag,<-aB];have bQ:=AA bb;have bz:=AA be;have bg:=AA b8;clear aA aB ag bb be h9 h5 h3 hHeld ao HP aP aM b2 bF b0 b8;obtain⟨D6,hD⟩:∃D6,D6=W5.drew:=⟨_,rfl⟩;have U:La W5 D6:=by rw[hD];exact AN W5 1
 have b9:=bQ.out.keep U;have au:=bz.out.trans (U.mono bz.out.size);have bU:c.wm<=31:=by unfold CfM.wm;omega
 obtain⟨sz,aT⟩:∃sz,sz=c.K+c.wm:=⟨_,rfl⟩;have bX:IntKind.i64.wrap ((c.K:Int)+(c.wm:Int))=(sz:Int):=by have:=C.out;rw[BK,aT];omega
 have bq:=AA (alQ c.R sz D6 (by have:=C.out;omega) (by have:=C.out;omega) (by have:=C.out;omega) (by have:=C.out;omega));have al:=AA b9;have aQ:=AA au;have bJ:=AA aT;clear U b9 au aT;go_upto_region 6 with fail
 refine Ve ?_;refine Vd (S:=λY=>Y.heap[H]?=E (i7 (cfV c) 26 (0,0))/\Y.cell? ⟨P,8,O⟩=E (R K (c.wm:Int))) kr (by rw[<-hD];exact⟨al.out.conf,al.out.ce 8 _ rfl⟩) (λhHeld=>?_);rw[<-hD]at hHeld⊢;clear hD;refine tkA 0 ?_;refine tkA 1 ?_;refine tkW 2 (v:=?_) ?_ ?_;rotate_left
 ·intro V hV;have q2:V.cell? ⟨H,2,O⟩=E (R K (c.R:Int)):=by simp only[cell?,hV.1];rfl
  first|(go_simp;done)|(go_simp;with_reducible rfl)
 try simp only[pq]
 refine tkA 3 ?_;refine tkW 4 (v:=?_) ?_ ?_;rotate_left
 ·intro V hV;have B:V.cell? ⟨H,1,O⟩=E (R K (c.K:Int)):=by simp only[cell?,hV.1];rfl
  first|(go_simp;done)|(go_simp;with_reducible rfl)
 try simp only[pq]
 refine tkA 5 ?_;refine tkA 6 ?_;refine tkA 7 ?_;refine tkW 8 (v:=?_) ?_ ?_;rotate_left
 ·intro V hV;have q8:=hV.2
  first|(go_simp;done)|(go_simp;with_reducible rfl)
 try simp only[pq]
 refine tkA 9 ?_;refine rdy 10 (λKB Z=>?_);go_simp
 go_at_call 96;refine bq.out.mono ?_;rintro e w6 ⟨Bb,Bu,Bd,rfl,aN,hb⟩
 have aq:=al.out.keep hb;refine Z.out _ _ ⟨aq.conf,aq.ce 8 _ rfl⟩ (λh10=>?_);clear Z KB
 try simp only[pq]
 have j1:=aq.fr 11;have j2:=aq.ce 11 _ rfl;have bP:=AA aq;have bx:=AA (aQ.out.trans (hb.mono aQ.out.size));have bT:=AA hb.size;have bt:=AA aN;clear aq hb aN bq;refine tkA 11 ?_;refine tkA 12 ?_;refine tkA 13 ?_;refine tkA 14 ?_;refine tkA 15 ?_;refine rdy 16 (λKB Z=>?_);go_simp;have aI:=bP.out.set (b':=L (E ⟨Bb,0,O⟩)) 11 (L (E ⟨Bb,0,O⟩)) rfl;refine Z.out _ _ ⟨aI.conf,aI.ce 8 _ rfl⟩ (λbI=>?_);clear Z KB
 try simp only[pq]
 have aE:=AA ((Chg.refl (λk=>k=P) w6).set (g:=P) (i:=11) (v:=L (E ⟨Bb,0,O⟩)) rfl);have aL:=AA aI;clear aI bI h10 j1 j2;refine Vg kr ?_ _;refine At ?_;obtain⟨W6,b7⟩:∃V,V=w6.setCell ⟨P,11,O⟩ (L (E ⟨Bb,0,O⟩)):=⟨_,rfl⟩;rw[<-b7]at aE aL⊢;clear b7;have bp:=AA (alF c.Q W6 (by have:=C.out;omega) (by have:=C.out;omega));have k7:=aL.out.cc 3 (R K (c.Q:Int)) rfl;go_upto_region 8 with(go_at_call 97;refine bp.out.mono ?_;rintro e w7 ⟨Q,QB,rfl,ae,hb⟩;have hN:=aL.out.keep hb;have j1:=hN.fr 12;have j2:=hN.ce 12 _ rfl;have bj:=AA hN;have bw:=AA hb;have bO:=AA ae;clear hN hb ae)
 have aK:=AA (bj.out.set (q':=L (E ⟨Q,0,O⟩)) 12 (L (E ⟨Q,0,O⟩)) rfl);have aZ:=AA ((Chg.refl (λk=>k=P) w7).set (g:=P) (i:=12) (v:=L (E ⟨Q,0,O⟩)) rfl);obtain⟨W7,b6⟩:∃V,V=w7.setCell ⟨P,12,O⟩ (L (E ⟨Q,0,O⟩)):=⟨_,rfl⟩;rw[<-b6]at aZ aK⊢;clear b6 j1 j2 k7 bp bj aL;have bo:=AA (akT c.R W7 (by have:=C.out;omega) (by have:=C.out;omega));have k8:=aK.out.cc 2 (R K (c.R:Int)) rfl;go_upto_region 9 with(go_at_call 98;refine bo.out.mono ?_;rintro e w8 ⟨Gf,GB,rfl,ae,hb⟩;have hN:=aK.out.keep hb;have j1:=hN.fr 13;have j2:=hN.ce 13 _ rfl;have bi:=AA hN;have bv:=AA hb;have bN:=AA ae;clear hN hb ae)
 have aJ:=AA (bi.out.set (g':=L (E ⟨Gf,0,O⟩)) 13 (L (E ⟨Gf,0,O⟩)) rfl);have aY:=AA ((Chg.refl (λk=>k=P) w8).set (g:=P) (i:=13) (v:=L (E ⟨Gf,0,O⟩)) rfl);obtain⟨W8,ap⟩:∃V,V=w8.setCell ⟨P,13,O⟩ (L (E ⟨Gf,0,O⟩)):=⟨_,rfl⟩;rw[<-ap]at aY aJ⊢;clear ap j1 j2 k8 bo bi aK;have bm:=AA (alW c.O W8 (by have:=C.out;omega) (by have:=C.out;omega));have k9:=aJ.out.cc 4 (R K (c.O:Int)) rfl;go_upto_region 10 with(go_at_call 99;refine bm.out.mono ?_;rintro e w9 ⟨Ob,OB,rfl,ae,hb⟩;have hN:=aJ.out.keep hb;have j1:=hN.fr 14;have j2:=hN.ce 14 _ rfl;have bh:=AA hN;have bu:=AA hb;have bL:=AA ae;clear hN hb ae)
 have aD:=AA (bh.out.set (o':=L (E ⟨Ob,0,O⟩)) 14 (L (E ⟨Ob,0,O⟩)) rfl);have aX:=AA ((Chg.refl (λk=>k=P) w9).set (g:=P) (i:=14) (v:=L (E ⟨Ob,0,O⟩)) rfl);obtain⟨W9,b5⟩:∃V,V=w9.setCell ⟨P,14,O⟩ (L (E ⟨Ob,0,O⟩)):=⟨_,rfl⟩;rw[<-b5]at aX aD⊢;clear b5 j1 j2 k9 bm bh aJ;obtain⟨n5,az⟩:∃n,n=W9.heap.size:=⟨_,rfl⟩;obtain⟨D,hD⟩:∃D,D=W9.drew:=⟨_,rfl⟩;have U:La W9 D:=by rw[hD];exact AN W9 1
 have pD:=aD.out.keep U;have zD:=pD.ce 15 _ rfl;have a7:=AA (TkI.nil n5 D);have J:=AA (Va (show P<n5 by rw[az];exact aD.out.plt) (show n5<=D.heap.size by rw[az];exact U.size));have a6:Hid (([]:List Tk).length<=1000):=by show 0<=1000;omega
 have a8:Hid (Fj c.W P []):=λj t ht=>by simp at ht
 have aF:Hid (Mn P D.heap.size=CY c.W P ([]:List Tk).length (Mn P D.heap.size).a):=rfl;have ab:Hid (Chg (λk=>k=P∨n5<=k) W9 D):=Chg.of_same U;have aj:=AA (aiF P D);have aO:=AA az;have aR:=AA (bx.out.trans (((((((aE.out.then (Chg.of_same bw.out)).then aZ.out).then (Chg.of_same bv.out)).then aY.out).then (Chg.of_same bu.out)).then aX.out).below bx.out.size λk hk hx=>by have:=bg.out;omega));have bl:Hid (Im c P D6.heap.size W6.heap.size W7.heap.size W8.heap.size n5 Bb Bu Bd Q QB Gf GB Ob OB W9):=by rw[az];exact Im.mk2 (by rw[<-bJ.out];exact bt.out) al.out.plt bT.out aE.out bw.out bO.out aZ.out bv.out bN.out aY.out bu.out bL.out aX.out
 clear U az;go_upto_region 10 with fail
 refine Ve ?_;refine Vd (S:=λY=>True) kr trivial (λhHeld=>?_);rw[<-hD];clear hD;refine tkA 0 ?_;refine tkA 1 ?_;refine tkA 2 ?_;refine tkA 3 ?_;refine tkA 5 ?_;refine apE 4 6 (λKB Z=>?_) (λKB Z=>?_)
 focus
  go_simp;refine Z.out _ _ trivial (λh4=>?_);clear Z KB h4
  try simp only[pq]
  refine rdy 6 (λKB Z=>?_);go_simp
  go_at_call 100;refine aj.out.mono ?_;rintro e aS X
  obtain rfl:=X.1;have A:=X.2.2.2.2;have pV:=pD.keep A;have zV:=(pV.ce 15 _ rfl);have zA:=pV.plt;have ac:=AA X;clear X A pV;refine Z.out _ _ trivial (λh6=>?_);clear Z KB h6
  try simp only[pq]
  refine tkA 7 ?_;refine rdy 8 (λKB Z=>?_);go_simp;refine Z.out _ _ trivial (λh8=>?_);clear Z KB h8
  try simp only[pq]
 rotate_left
 focus
  go_simp
  go_at_call 100;refine aj.out.mono ?_;rintro e aS X
  obtain rfl:=X.1;have A:=X.2.2.2.2;have pV:=pD.keep A;have zV:=(pV.ce 15 _ rfl);have zA:=pV.plt;have ac:=AA X;clear X A pV;refine Z.out _ _ trivial (λh6=>?_);clear Z KB h6
  try simp only[pq]
  refine tkA 7 ?_;refine apE 4 8 (λKB Z=>?_) (λKB Z=>?_)
  focus
   go_simp;refine Z.out _ _ trivial (λh4=>?_);clear Z KB h4
   try simp only[pq]
   refine rdy 8 (λKB Z=>?_);go_simp;refine Z.out _ _ trivial (λh8=>?_);clear Z KB h8
   try simp only[pq]
  rotate_left
  focus
   go_simp;refine Z.out _ _ trivial (λh8=>?_);clear Z KB h8
   try simp only[pq]
   refine rdy 4 (λKB Z=>?_);go_simp;refine Z.out _ _ trivial (λh4=>?_);clear Z KB h4
   try simp only[pq]
 all_goals
  clear zV zA;have aa:=AA pD;clear pD zD;obtain⟨a1,nn,c1,W1,hr,B,q2,q3,q4,q5⟩:=a7.out.one (W:=c.W) (t:=Mn P D.heap.size) aa.out J.out.1 J.out.2 a6.out ac.out.2.2.2.2 (ac.out.tkm rfl rfl rfl rfl) a8.out aF.out;have HR:=AA hr;have j1:=B.fr 15;have j2:=B.ce 15 _ rfl;have Q2:=AA q2;have Q3:=AA q3;have Q4:=AA q4;have Q5:=AA (ab.out.trans q5 λk _ hk=>hk);clear hr B q2 q3 q4 q5;refine rdy 9 (λKB Z=>?_);refine GU (.tmp 73) (.tmp 77) 103 rfl _ _ rfl rfl rfl HR.out ?_;refine Z.out _ _ trivial (λh9=>?_);clear Z KB h9
  try simp only[pq]
  refine tkA 10 ?_;refine tkA 11 ?_;refine rdy 12 (λKB Z=>?_);go_simp;refine Z.out _ _ trivial (λa2=>?_);clear Z KB a2
  try simp only[pq]
  clear j1 j2;obtain⟨WN,I⟩:∃V,V=W1.setCell ⟨P,15,O⟩ (T a1 nn c1):=⟨_,rfl⟩;rw[<-I]at Q2 Q3 Q5⊢;clear I HR ac;refine Vg kr ?_ _;refine At ?_;have aC:Hid (∃tv tl,lc tl=0+1/\TkI n5 tv tl WN/\NpS c m S Kk H P (L (E ⟨Bb,0,O⟩)) (L (E ⟨Q,0,O⟩)) (L (E ⟨Gf,0,O⟩)) (L (E ⟨Ob,0,O⟩)) tv WN/\Fj c.W P tl):=⟨_,_,rfl,Q3.out,Q2.out,Q4.out⟩;clear Q2 Q3 Q4 a7 a6 a8 aF ab aj aa
 all_goals
  obtain⟨bV,bW,bG,bC,b3,bD⟩:=aC.out;have bB:=b3.cc 0 (R K (c.W:Int)) rfl;clear bC b3 bD bG;go_upto_region 12 with fail
  clear bB
  go_loopw[83] (λbA wr=>∃(i:Nat),i<=c.W/\bA=R K i/\Hid (∃tv tl,lc tl=i+1/\TkI n5 tv tl wr/\NpS c m S Kk H P (L (E ⟨Bb,0,O⟩)) (L (E ⟨Q,0,O⟩)) (L (E ⟨Gf,0,O⟩)) (L (E ⟨Ob,0,O⟩)) tv wr/\Fj c.W P tl)/\Hid (Chg (λk=>k=P∨n5<=k) W9 wr)) (λs _=>c.W-(intOf s).toNat)
  case atStart=>exact⟨0,AR _,rfl,aC,Q5⟩
  case round=>
   clear aC Q5;obtain⟨i,bZ,rfl,aH,ar⟩:=hrel
   by_cases bH:i<c.W
   ·have hd:decide ((i:Int)<(c.W:Int))=G:=by simp;omega
    obtain⟨tv,tl,hl,aw,ay,ax⟩:=aH.out;obtain⟨D,hD⟩:∃D,D=wr.drew:=⟨_,rfl⟩;have U:La wr D:=by rw[hD];exact AN wr 1
    have ap:=C.out.1.2;have pD:=ay.keep U;have zD:=pD.ce 15 _ rfl;have a7:=AA (aw.keep U);have af:=AA (Va J.out.1 (show n5<=D.heap.size by have:=ar.out.size;have:=U.size;have:=aO.out;omega));have a6:Hid (lc tl<=1000):=by show lc tl<=1000;omega
    have N:=AA hl;have a8:=AA ax;have aF:Hid (Mm P D.heap.size=CY c.W P (lc tl) (Mm P D.heap.size).a):=by
     show _=_;unfold CY;rw[Lc om,Lq om]
     rfl
    have ab:=AA (ar.out.then (Chg.of_same U));have aj:=AA (als P D);have i1:(0:Int)<=(i:Int):=by omega
    have i2:(i:Int)<(c.W:Int):=by omega
    have bY:IntKind.i64.wrap ((i:Int)+1)=((i+1:Nat):Int):=by rw[BK];omega
    have b1:wrap64 ((i:Int)+1)=((i+1:Nat):Int):=aoQ (n:=c.W) om bH;clear U aw ay ax hl ar aH J ap;have J:=af;clear af;go_upto_region 13 with fail
    refine Ve ?_;refine Vd (S:=λY=>True) kr trivial (λhHeld=>?_);rw[<-hD];clear hD;refine tkA 0 ?_;refine tkA 1 ?_;refine tkA 2 ?_;refine tkA 3 ?_;refine tkA 5 ?_;refine apE 4 6 (λKB Z=>?_) (λKB Z=>?_)
    focus
     go_simp;refine Z.out _ _ trivial (λh4=>?_);clear Z KB h4
     try simp only[pq]
     refine rdy 6 (λKB Z=>?_);go_simp
     go_at_call 101;refine aj.out.mono ?_;rintro e aS X
     obtain rfl:=X.1;have A:=X.2.2.2.2;have pV:=pD.keep A;have zV:=(pV.ce 15 _ rfl);have zA:=pV.plt;have ac:=AA X;clear X A pV;refine Z.out _ _ trivial (λh6=>?_);clear Z KB h6
     try simp only[pq]
     refine tkA 7 ?_;refine rdy 8 (λKB Z=>?_);go_simp;refine Z.out _ _ trivial (λh8=>?_);clear Z KB h8
     try simp only[pq]
    rotate_left
    focus
     go_simp
     go_at_call 101;refine aj.out.mono ?_;rintro e aS X
     obtain rfl:=X.1;have A:=X.2.2.2.2;have pV:=pD.keep A;have zV:=(pV.ce 15 _ rfl);have zA:=pV.plt;have ac:=AA X;clear X A pV;refine Z.out _ _ trivial (λh6=>?_);clear Z KB h6
     try simp only[pq]
     refine tkA 7 ?_;refine apE 4 8 (λKB Z=>?_) (λKB Z=>?_)
     focus
      go_simp;refine Z.out _ _ trivial (λh4=>?_);clear Z KB h4
      try simp only[pq]
      refine rdy 8 (λKB Z=>?_);go_simp;refine Z.out _ _ trivial (λh8=>?_);clear Z KB h8
      try simp only[pq]
     rotate_left
     focus
      go_simp;refine Z.out _ _ trivial (λh8=>?_);clear Z KB h8
      try simp only[pq]
      refine rdy 4 (λKB Z=>?_);go_simp;refine Z.out _ _ trivial (λh4=>?_);clear Z KB h4
      try simp only[pq]
    all_goals
     clear zV zA;have aa:=AA pD;clear pD zD;obtain⟨a1,nn,c1,W1,hr,B,q2,q3,q4,q5⟩:=a7.out.one (W:=c.W) (t:=Mm P D.heap.size) aa.out J.out.1 J.out.2 a6.out ac.out.2.2.2.2 (ac.out.tkm rfl rfl rfl rfl) a8.out aF.out;have HR:=AA hr;have j1:=B.fr 15;have j2:=B.ce 15 _ rfl;have Q2:=AA q2;have Q3:=AA q3;have Q4:=AA q4;have Q5:=AA (ab.out.trans q5 λk _ hk=>hk);clear hr B q2 q3 q4 q5;refine rdy 9 (λKB Z=>?_);refine GU (.tmp 89) (.tmp 93) 103 rfl _ _ rfl rfl rfl HR.out ?_;refine Z.out _ _ trivial (λh9=>?_);clear Z KB h9
     try simp only[pq]
     refine tkA 10 ?_;refine tkA 11 ?_;refine rdy 12 (λKB Z=>?_);go_simp;refine Z.out _ _ trivial (λa2=>?_);clear Z KB a2
     try simp only[pq]
     clear j1 j2;obtain⟨WN,I⟩:∃V,V=W1.setCell ⟨P,15,O⟩ (T a1 nn c1):=⟨_,rfl⟩;rw[<-I]at Q2 Q3 Q5⊢;clear I HR ac;refine Vg kr ?_ _;refine At ?_;have bf:Hid (∃tv tl,lc tl=(i+1)+1/\TkI n5 tv tl WN/\NpS c m S Kk H P (L (E ⟨Bb,0,O⟩)) (L (E ⟨Q,0,O⟩)) (L (E ⟨Gf,0,O⟩)) (L (E ⟨Ob,0,O⟩)) tv WN/\Fj c.W P tl):=⟨_,_,by rw[List.length_append,N.out];rfl,Q3.out,Q2.out,Q4.out⟩;clear Q2 Q3 Q4 a7 a6 a8 aF ab aj aa N;go_wp2
     go_roundw
     case rel=>exact⟨i+1,by omega,by first|rfl|simp[b1],bf,Q5⟩
     case measure=>(try simp only[b1]);simp[intOf];omega
   ·obtain rfl:i=c.W:=by omega
    have hd:decide ((c.W:Int)<(c.W:Int))=M:=by simp
    go_upto_region 15 with fail
    obtain⟨tv,tl,hl,aw,ay,ax⟩:=aH.out;obtain⟨D,hD⟩:∃D,D=wr.drew:=⟨_,rfl⟩;have U:La wr D:=by rw[hD];exact AN wr 1
    have ap:=C.out.1.2;have pD:=ay.keep U;have zD:=pD.ce 15 _ rfl;have aa:=AA pD;have a7:=AA (aw.keep U);have af:=AA (Va J.out.1 (show n5<=D.heap.size by have:=ar.out.size;have:=U.size;have:=aO.out;omega));have a6:Hid (lc tl<=1000):=by show lc tl<=1000;omega
    have N:=AA hl;have a8:=AA ax;have ab:=AA (ar.out.then (Chg.of_same U));have av:=AA (alo P);have ak:=AA (alb P);have am:Hid (∀tv tl V,NpS c m S Kk H P (L (E ⟨Bb,0,O⟩)) (L (E ⟨Q,0,O⟩)) (L (E ⟨Gf,0,O⟩)) (L (E ⟨Ob,0,O⟩)) tv V->TkI n5 tv tl V->Fj c.W P tl->lc tl=c.W+3->Chg (λk=>k=P∨n5<=k) W9 V->∃P' H n1 n2 n3 n4 n5 Bb Bu Bd Q QB Gf GB Ob OB tv tl,Ending.returned (ta #[L (E ⟨P,0,O⟩),R K 0])=Ending.returned (ta #[L (E ⟨P',0,O⟩),R K 0])/\GO c m S Kk w P' H n1 n2 n3 n4 n5 Bb Bu Bd Q QB Gf GB Ob OB tv tl V):=λtv tl V r1 r2 r3 r4 r5=>⟨P,H,_,_,_,_,n5,Bb,Bu,Bd,Q,QB,Gf,GB,Ob,OB,tv,tl,rfl,r1,r2,r3,r4,bl.out.keep r5,by rw[bR.out];exact AC _,aR.out.trans (r5.below aR.out.size λk hk hx=>by have:=bg.out;have:=J.out.1;omega)⟩;clear U aw ay ax hl ar aH J ap;have J:=af;clear af;go_upto_region 15 with fail
    refine Ve ?_;refine Vd (S:=λY=>True) kr trivial (λhHeld=>?_);rw[<-hD];clear hD;refine tkA 0 ?_;refine tkA 1 ?_;refine tkA 2 ?_;refine tkA 3 ?_;refine tkA 5 ?_;refine tkA 8 ?_;refine apE 4 6 (λKB Z=>?_) (λKB Z=>?_)
    ·go_simp;refine Z.out _ _ trivial (λh4=>?_);clear Z KB h4
     try simp only[pq]
     refine rdy 6 (λKB Z=>?_);go_simp
     go_at_call 102;refine(av.out _).mono ?_;rintro e wa X
     obtain rfl:=X.1;have bM:=X.2.2.2.2;have kM:=AA (X.tkm (t:=JD P D.heap.size) rfl rfl rfl rfl);have sM:=AA X.2.2.2.1;clear X;have za:=((pD.keep bM).ce 15 _ rfl);have pa:=pD.keep bM;have la:=pa.plt;refine Z.out _ _ trivial (λh6=>?_);clear Z KB h6
     try simp only[pq]
     refine tkA 7 ?_;refine rdy 9 (λKB Z=>?_);go_simp
     go_at_call 103;refine(ak.out _).mono ?_;rintro e wb X
     obtain rfl:=X.1;have bE:=X.2.2.2.2;have kE:=AA (X.tkm (t:=IQ P wa.heap.size) rfl rfl rfl rfl);have sE:=AA X.2.2.2.1;clear X;have zb:=((pa.keep bE).ce 15 _ rfl);have pb:=pa.keep bE;have lb:=pb.plt;refine Z.out _ _ trivial (λh9=>?_);clear Z KB h9
     try simp only[pq]
     refine tkA 10 ?_;refine rdy 11 (λKB Z=>?_);go_simp;refine Z.out _ _ trivial (λh11=>?_);clear Z KB h11
     try simp only[pq]
     obtain⟨a1,nn,c1,W1,hr,B,q2,q3,q4,q5⟩:=a7.out.two (W:=c.W) (t:=JD P D.heap.size) (u:=IQ P wa.heap.size) aa.out J.out.1 J.out.2 a6.out (bM.trans (bE.mono bM.size)) (⟨kM.out.1.below bE,kM.out.2⟩) (⟨kE.out.1,by have:=kE.out.2;have:=bM.size;omega⟩) (.inl (by have:=sM.out;show D.heap.size+2<=wa.heap.size;omega)) a8.out (by rw[N.out];unfold CY;rw[Lc om,Lc om,Lq rfl];rfl) (by rw[N.out];unfold CY;rw[Lc om,Lc om,Lc om];rfl);have HR:=AA hr;have j1:=B.fr 15;have j2:=B.ce 15 _ rfl;have Q2:=AA q2;have Q3:=AA q3;have Q4:=AA q4;have Q5:=AA (ab.out.trans q5 λk _ hk=>hk);clear hr B q2 q3 q4 q5 kM kE bM bE sM sE pD zD av ak;refine rdy 12 (λKB Z=>?_);refine GU (.tmp 102) (.tmp 109) 103 rfl _ _ rfl rfl rfl HR.out ?_;refine Z.out _ _ trivial (λa2=>?_);clear Z KB a2
     try simp only[pq]
     refine tkA 13 ?_;refine tkA 14 ?_;refine rdy 15 (λKB Z=>?_);go_simp;refine Z.out _ _ trivial (λai=>?_);clear Z KB ai
     try simp only[pq]
     clear j1 j2;obtain⟨WN,I⟩:∃V,V=W1.setCell ⟨P,15,O⟩ (T a1 nn c1):=⟨_,rfl⟩;rw[<-I]at Q2 Q3 Q5⊢;clear I HR;refine Vg kr ?_ _;refine At ?_;go_wp2;go_ret2;exact am.out _ _ _ Q2.out Q3.out Q4.out (by simp[N.out]) Q5.out
    ·go_simp
     go_at_call 102;refine(av.out _).mono ?_;rintro e wa X
     obtain rfl:=X.1;have bM:=X.2.2.2.2;have kM:=AA (X.tkm (t:=JD P D.heap.size) rfl rfl rfl rfl);have sM:=AA X.2.2.2.1;clear X;have za:=((pD.keep bM).ce 15 _ rfl);have pa:=pD.keep bM;have la:=pa.plt;refine Z.out _ _ trivial (λh6=>?_);clear Z KB h6
     try simp only[pq]
     refine tkA 7 ?_;refine apE 4 9 (λKB Z=>?_) (λKB Z=>?_)
     ·go_simp;refine Z.out _ _ trivial (λh4=>?_);clear Z KB h4
      try simp only[pq]
      refine rdy 9 (λKB Z=>?_);go_simp
      go_at_call 103;refine(ak.out _).mono ?_;rintro e wb X
      obtain rfl:=X.1;have bE:=X.2.2.2.2;have kE:=AA (X.tkm (t:=IQ P wa.heap.size) rfl rfl rfl rfl);have sE:=AA X.2.2.2.1;clear X;have zb:=((pa.keep bE).ce 15 _ rfl);have pb:=pa.keep bE;have lb:=pb.plt;refine Z.out _ _ trivial (λh9=>?_);clear Z KB h9
      try simp only[pq]
      refine tkA 10 ?_;refine rdy 11 (λKB Z=>?_);go_simp;refine Z.out _ _ trivial (λh11=>?_);clear Z KB h11
      try simp only[pq]
      obtain⟨a1,nn,c1,W1,hr,B,q2,q3,q4,q5⟩:=a7.out.two (W:=c.W) (t:=JD P D.heap.size) (u:=IQ P wa.heap.size) aa.out J.out.1 J.out.2 a6.out (bM.trans (bE.mono bM.size)) (⟨kM.out.1.below bE,kM.out.2⟩) (⟨kE.out.1,by have:=kE.out.2;have:=bM.size;omega⟩) (.inl (by have:=sM.out;show D.heap.size+2<=wa.heap.size;omega)) a8.out (by rw[N.out];unfold CY;rw[Lc om,Lc om,Lq rfl];rfl) (by rw[N.out];unfold CY;rw[Lc om,Lc om,Lc om];rfl);have HR:=AA hr;have j1:=B.fr 15;have j2:=B.ce 15 _ rfl;have Q2:=AA q2;have Q3:=AA q3;have Q4:=AA q4;have Q5:=AA (ab.out.trans q5 λk _ hk=>hk);clear hr B q2 q3 q4 q5 kM kE bM bE sM sE pD zD av ak;refine rdy 12 (λKB Z=>?_);refine GU (.tmp 102) (.tmp 109) 103 rfl _ _ rfl rfl rfl HR.out ?_;refine Z.out _ _ trivial (λa2=>?_);clear Z KB a2
      try simp only[pq]
      refine tkA 13 ?_;refine tkA 14 ?_;refine rdy 15 (λKB Z=>?_);go_simp;refine Z.out _ _ trivial (λai=>?_);clear Z KB ai
      try simp only[pq]
      clear j1 j2;obtain⟨WN,I⟩:∃V,V=W1.setCell ⟨P,15,O⟩ (T a1 nn c1):=⟨_,rfl⟩;rw[<-I]at Q2 Q3 Q5⊢;clear I HR;refine Vg kr ?_ _;refine At ?_;go_wp2;go_ret2;exact am.out _ _ _ Q2.out Q3.out Q4.out (by simp[N.out]) Q5.out
     ·go_simp
      go_at_call 103;refine(ak.out _).mono ?_;rintro e wb X
      obtain rfl:=X.1;have bE:=X.2.2.2.2;have kE:=AA (X.tkm (t:=IQ P wa.heap.size) rfl rfl rfl rfl);have sE:=AA X.2.2.2.1;clear X;have zb:=((pa.keep bE).ce 15 _ rfl);have pb:=pa.keep bE;have lb:=pb.plt;refine Z.out _ _ trivial (λh9=>?_);clear Z KB h9
      try simp only[pq]
      refine tkA 10 ?_;refine apE 4 11 (λKB Z=>?_) (λKB Z=>?_)
      ·go_simp;refine Z.out _ _ trivial (λh4=>?_);clear Z KB h4
       try simp only[pq]
       refine rdy 11 (λKB Z=>?_);go_simp;refine Z.out _ _ trivial (λh11=>?_);clear Z KB h11
       try simp only[pq]
       obtain⟨a1,nn,c1,W1,hr,B,q2,q3,q4,q5⟩:=a7.out.two (W:=c.W) (t:=JD P D.heap.size) (u:=IQ P wa.heap.size) aa.out J.out.1 J.out.2 a6.out (bM.trans (bE.mono bM.size)) (⟨kM.out.1.below bE,kM.out.2⟩) (⟨kE.out.1,by have:=kE.out.2;have:=bM.size;omega⟩) (.inl (by have:=sM.out;show D.heap.size+2<=wa.heap.size;omega)) a8.out (by rw[N.out];unfold CY;rw[Lc om,Lc om,Lq rfl];rfl) (by rw[N.out];unfold CY;rw[Lc om,Lc om,Lc om];rfl);have HR:=AA hr;have j1:=B.fr 15;have j2:=B.ce 15 _ rfl;have Q2:=AA q2;have Q3:=AA q3;have Q4:=AA q4;have Q5:=AA (ab.out.trans q5 λk _ hk=>hk);clear hr B q2 q3 q4 q5 kM kE bM bE sM sE pD zD av ak;refine rdy 12 (λKB Z=>?_);refine GU (.tmp 102) (.tmp 109) 103 rfl _ _ rfl rfl rfl HR.out ?_;refine Z.out _ _ trivial (λa2=>?_);clear Z KB a2
       try simp only[pq]
       refine tkA 13 ?_;refine tkA 14 ?_;refine rdy 15 (λKB Z=>?_);go_simp;refine Z.out _ _ trivial (λai=>?_);clear Z KB ai
       try simp only[pq]
       clear j1 j2;obtain⟨WN,I⟩:∃V,V=W1.setCell ⟨P,15,O⟩ (T a1 nn c1):=⟨_,rfl⟩;rw[<-I]at Q2 Q3 Q5⊢;clear I HR;refine Vg kr ?_ _;refine At ?_;go_wp2;go_ret2;exact am.out _ _ _ Q2.out Q3.out Q4.out (by simp[N.out]) Q5.out
      ·go_simp;refine Z.out _ _ trivial (λh11=>?_);clear Z KB h11
       try simp only[pq]
       refine rdy 4 (λKB Z=>?_);go_simp;refine Z.out _ _ trivial (λh4=>?_);clear Z KB h4
       try simp only[pq]
       obtain⟨a1,nn,c1,W1,hr,B,q2,q3,q4,q5⟩:=a7.out.two (W:=c.W) (t:=JD P D.heap.size) (u:=IQ P wa.heap.size) aa.out J.out.1 J.out.2 a6.out (bM.trans (bE.mono bM.size)) (⟨kM.out.1.below bE,kM.out.2⟩) (⟨kE.out.1,by have:=kE.out.2;have:=bM.size;omega⟩) (.inl (by have:=sM.out;show D.heap.size+2<=wa.heap.size;omega)) a8.out (by rw[N.out];unfold CY;rw[Lc om,Lc om,Lq rfl];rfl) (by rw[N.out];unfold CY;rw[Lc om,Lc om,Lc om];rfl);have HR:=AA hr;have j1:=B.fr 15;have j2:=B.ce 15 _ rfl;have Q2:=AA q2;have Q3:=AA q3;have Q4:=AA q4;have Q5:=AA (ab.out.trans q5 λk _ hk=>hk);clear hr B q2 q3 q4 q5 kM kE bM bE sM sE pD zD av ak;refine rdy 12 (λKB Z=>?_);refine GU (.tmp 102) (.tmp 109) 103 rfl _ _ rfl rfl rfl HR.out ?_;refine Z.out _ _ trivial (λa2=>?_);clear Z KB a2
       try simp only[pq]
       refine tkA 13 ?_;refine tkA 14 ?_;refine rdy 15 (λKB Z=>?_);go_simp;refine Z.out _ _ trivial (λai=>?_);clear Z KB ai
       try simp only[pq]
       clear j1 j2;obtain⟨WN,I⟩:∃V,V=W1.setCell ⟨P,15,O⟩ (T a1 nn c1):=⟨_,rfl⟩;rw[<-I]at Q2 Q3 Q5⊢;clear I HR;refine Vg kr ?_ _;refine At ?_;go_wp2;go_ret2;exact am.out _ _ _ Q2.out Q3.out Q4.out (by simp[N.out]) Q5.out
end
section
def CC(tl:List Tk)(j:Nat):Nat:=(tl[j]?.map Tk.a).getD 0
open Classical in
noncomputable def Cp (o0:Nat->Nat) (sz W P n1 n2 n3 n4 n5 Z:Nat) (tl:List Tk) (k:Nat):Nat:=
 if k<sz then o0 k else if Z<=k then 1000000 else if k=P then 1 else if n1<=k/\k<n2 then 4 else if n2<=k/\k<n3 then 5 else if n3<=k/\k<n4 then 6 else if n4<=k/\k<n5 then 7 else
  if k=CC tl 0 then 8 else if k=CC tl (W+1) then 9 else if k=CC tl (W+2) then 10 else if h:∃i,i<W/\CC tl (i+1)=k then 11+Classical.choose h else 0
section
variable {c:CfM}{m S Kk:Nat}{w V:Wa}{P n0 n1 n2 n3 n4 n5 Bb Bu Bd Q QB Gf GB Ob OB:Nat}{tv:Vk}{tl:List Tk}{o0:Nat->Nat}
theorem GO.get(h:GO c m S Kk w P n0 n1 n2 n3 n4 n5 Bb Bu Bd Q QB Gf GB Ob OB tv tl V){j:Nat}(Y:j<c.W+3):∃t,tl[j]?=E t/\t.a=CC tl j/\t=CY c.W P j t.a:=by
 have Z:j<lc tl:=by rw[h.len];exact Y
 have e:tl[j]?=E tl[j]:=Ar Z;exact⟨_,e,by unfold CC;rw[e];rfl,h.sh j _ e⟩
theorem GO.apart(h:GO c m S Kk w P n0 n1 n2 n3 n4 n5 Bb Bu Bd Q QB Gf GB Ob OB tv tl V){i j:Nat}(U:i<c.W+3)(X:j<c.W+3)(Y:i≠j):CC tl i+2<=CC tl j∨CC tl j+2<=CC tl i:=by
 obtain⟨t,h1,h2,_⟩:=h.get U;obtain⟨u,h3,h4,_⟩:=h.get X;rw[<-h2,<-h4]
 rcases Nat.lt_or_gt_of_ne Y with Z|Z
 ·exact h.ti.dj i j t u h1 h3 Z
 ·exact(h.ti.dj j i u t h3 h1 Z).symm
theorem GO.own(h:GO c m S Kk w P n0 n1 n2 n3 n4 n5 Bb Bu Bd Q QB Gf GB Ob OB tv tl V){j:Nat}(D:j<c.W+3):Cp o0 w.heap.size c.W P n1 n2 n3 n4 n5 V.heap.size tl (CC tl j)=(if j=0 then 8 else if j<=c.W then 10+j else if j=c.W+1 then 9 else 10)/\Cp o0 w.heap.size c.W P n1 n2 n3 n4 n5 V.heap.size tl (CC tl j+1)=0:=by
 obtain⟨t,h1,h2,_⟩:=h.get D;obtain⟨s,v,g3,g4⟩:=h.ti.el j t h1;have hl:=h.grp.lt;have C:=s.2.2;have A:=h.lo;have B:=h.np.lt;rw[h2]at C v;have Y:=λi (N:i<c.W+3) (X:i≠j)=>h.apart N D X
 constructor
 ·unfold Cp;rw[Lc om,Lc om,Lc om,Lc om,Lc om,Lc om,Lc om]
  by_cases J:j=0
  ·subst J;rw[Lq rfl,Lq rfl]
  ·rw[Lc (by have:=Y 0 om (Ne.symm J);omega),Lc J]
   by_cases H:j=c.W+1
   ·subst H;rw[Lq rfl,Lc om,Lq rfl]
   ·rw[Lc (by have:=Y (c.W+1) om (Ne.symm H);omega)]
    by_cases I:j=c.W+2
    ·subst I;rw[Lq rfl,Lc om,Lc om]
    ·rw[Lc (by have:=Y (c.W+2) om (Ne.symm I);omega),Lq om];have U:∃i,i<c.W/\CC tl (i+1)=CC tl j:=⟨j-1,by omega,by rw[show j-1+1=j by omega]⟩;rw[dif_pos U];have hc:=Classical.choose_spec U;have:Classical.choose U+1=j:=Md λZ=>by
      have:=Y (Classical.choose U+1) om Z;omega
     omega
 ·unfold Cp;have Z:∀i,i<c.W+3->CC tl j+1≠CC tl i:=λi N e=>by
   by_cases X:i=j
   ·subst X;omega
   ·have:=Y i N X;omega
  rw[Lc om,Lc om,Lc om,Lc om,Lc om,Lc om,Lc om,Lc (Z 0 om),Lc (Z (c.W+1) om),Lc (Z (c.W+2) om),dif_neg λ⟨i,N,e⟩=>Z (i+1) om e.symm]
theorem GO.row(h:GO c m S Kk w P n0 n1 n2 n3 n4 n5 Bb Bu Bd Q QB Gf GB Ob OB tv tl V):∃g cap,tv=T (E ⟨g,0,O⟩) (c.W+3) cap/\c.W+3<=cap/\g<V.heap.size/\Cp o0 w.heap.size c.W P n1 n2 n3 n4 n5 V.heap.size tl g=0/\g≠P/\∀j t,tl[j]?=E t->V.cell? ⟨g,j,O⟩=E (ifV t):=by
 have hl:=h.grp.lt;have H:=h.lo;have I:=h.np.lt
 rcases h.ti.row.2 with⟨_,h0⟩|⟨g,cap,B,e,s,U,X,v,A,Y⟩
 ·have:=h.len;omega
 ·rw[h.len]at e X Y;have D:=(AD.1 U).1;have Z:∀i,i<c.W+3->g≠CC tl i:=λi J C=>by
   obtain⟨t,h1,h2,_⟩:=h.get J;exact(h.ti.el i t h1).2.2.1 (by rw[e,h2,<-C];rfl)
  refine⟨g,cap,e,X,D,?_,by omega,λj t N=>?_⟩
  ·unfold Cp;rw[Lc om,Lc om,Lc om,Lc om,Lc om,Lc om,Lc om,Lc (Z 0 om),Lc (Z (c.W+1) om),Lc (Z (c.W+2) om),dif_neg λ⟨i,J,e⟩=>Z (i+1) om e.symm]
  ·have hj:j<c.W+3:=by rw[<-h.len];exact(AP.1 N).1
   have:(tl.map ifV)[j]?=E (ifV t):=by rw[BU,N];rfl
   rw[<-Y,MW om,Array.getElem?_toList]at this;simp only[cell?,U];exact this
def adN(P m S Kk Bb Bu Bd Q QB Gf GB Ob OB g cap W q:Nat)(tl:List Tk)(Wm:Wa):PAd:=
 ⟨P,m,S,Kk,Bb,Bu,Bd,Q,QB,Gf,GB,Ob,OB,g,cap,CC tl 0,λi=>CC tl (i+1),CC tl (W+1),CC tl (W+2),CC tl 0+1,λi=>CC tl (i+1)+1,CC tl (W+1)+1,CC tl (W+2)+1,q,Wm⟩
theorem ao8(h:GO c m S Kk w P n0 n1 n2 n3 n4 n5 Bb Bu Bd Q QB Gf GB Ob OB tv tl V){q:Nat}{Wm:Wa}{rs:Lb}{vs:List TVw}{sa ka:Option Addr}{D sc kn kc:Nat}(ho:∀k,w.heap.size<=k->o0 k=1000000)(hs:BY (λk=>o0 k=2) S sa D sc vs rs c.br 0 w)(B:D<=1000000)
  (hk:CN (λk=>o0 k=3) Kk ka kn kc (T O 0 0) c.ans [] 0 w) (hm:∀V,Fk q Wm V->Nz m c V) (J:Fk q Wm w) (hz:∀k,q<=k->k<Wm.heap.size->o0 k=0) (hr:1<=c.R) (hq:1<=c.Q) (a1:1<=c.O) :
  ∃g cap,AI (adN P m S Kk Bb Bu Bd Q QB Gf GB Ob OB g cap c.W q tl Wm) c (Cp o0 w.heap.size c.W P n1 n2 n3 n4 n5 V.heap.size tl) (Bn c rs) V:=by
 obtain⟨g,cap,s,r2,r3,r4,r5,r6⟩:=h.row (o0:=o0);subst s;have hl:=h.grp.lt;have a6:=h.lo;have a2:=h.np.lt;have a7:=h.below.size;obtain⟨A,hA⟩:∃A,adN P m S Kk Bb Bu Bd Q QB Gf GB Ob OB g cap c.W q tl Wm=A:=⟨_,rfl⟩;have X:∀k,k<w.heap.size->Cp o0 w.heap.size c.W P n1 n2 n3 n4 n5 V.heap.size tl k=o0 k:=λk hk=>Lq hk;have hcw:Chg (λ_=>False) w V:=.of_same h.below;refine⟨g,cap,λt C=>?_,λk hk=>?_⟩
 ·match t,C with
  |0,_=>
   have mk:∀j,j<c.W+3->∀f:Nat->Option Vk,(∀t,t=CY c.W P j t.a->t.a=CC tl j->t.f=f)->ES V (CC tl j+1) f/\Cp o0 w.heap.size c.W P n1 n2 n3 n4 n5 V.heap.size tl (CC tl j+1)=0:=λj hj f hf=>by obtain⟨t,h1,h2,h3⟩:=h.get hj;have:=(h.ti.el j t h1).1.2.1;rw[hf t h3 h2,h2]at this;exact⟨this,(h.own hj).2⟩
   refine⟨λt C=>?_,⟨r4,r3⟩,mk 0 om _ λt h1 h2=>?_,λi U=>mk (i+1) om _ λt h1 h2=>?_,mk (c.W+1) om _ λt h1 h2=>?_,mk (c.W+2) om _ λt h1 h2=>?_,⟨hm,J.below h.below,λk h1 h2=>by rw[X k (Af h2 J.1)];exact hz k h1 h2⟩,r2⟩
   ·obtain⟨u,h1,h2,h3⟩:=h.get C;refine(r6 t u h1).trans ?_;rw[h3,h2];unfold CY Mo adN
    by_cases t0:t=0
    ·subst t0;rfl
    ·rw[Lc t0,Lc t0]
     by_cases I:t<=c.W
     ·rw[Lq I,Lq I];show E (Value.iface _ (L (E ⟨CC tl t,0,O⟩)))=E (Value.iface _ (L (E ⟨CC tl (t-1+1),0,O⟩)));rw[show t-1+1=t by omega]
      rfl
     ·rw[Lc I,Lc I]
      by_cases H:t=c.W+1
      ·subst H;rw[Lq rfl,Lq rfl];rfl
      ·rw[Lc H,Lc H];obtain rfl:t=c.W+2:=by omega
       rfl
   ·rw[h1];unfold CY;rw[Lq rfl,h2];rfl
   ·rw[h1];unfold CY;rw[Lc om,Lq om,h2];rfl
   ·rw[h1];unfold CY;rw[Lc om,Lc om,Lq rfl,h2];rfl
   ·rw[h1];unfold CY;rw[Lc om,Lc om,Lc om,h2];rfl
  |1,_=>
   refine⟨T O 0 0,h.np.box,?_,CO.nil _ _ _ _,by simp[Value.ownBlock]⟩;show Cp o0 w.heap.size c.W P n1 n2 n3 n4 n5 V.heap.size tl P=1;unfold Cp;rw[Lc om,Lc om,Lq rfl]
  |2,_=>exact⟨sa,D,sc,vs,(hs.keep hcw λ_ _ _ h=>h).wide λk hk Z=>by
    have N:k<w.heap.size:=Nat.lt_of_not_le λv=>by have:=ho k v;have Z:o0 k=2:=Z;omega
    exact(X k N).trans Z,B⟩
  |3,_=>exact⟨ka,kn,kc,T O 0 0,(hk.keep hcw λ_ _ _ h=>h).wide λk hk Z=>by
    have N:k<w.heap.size:=Nat.lt_of_not_le λv=>by have:=ho k v;have Z:o0 k=3:=Z;omega
    exact(X k N).trans Z⟩
  |4,_=>
   refine h.grp.buf.wide6 λk hk Z=>?_;show Cp o0 w.heap.size c.W P n1 n2 n3 n4 n5 V.heap.size tl k=4;unfold Cp;rw[Lc om,Lc om,Lc om,Lq Z]
  |5,_=>
   refine⟨0,_,h.grp.que.wide λk hk Z=>?_,CS,λi b U=>by simp[Bn]at U⟩;show Cp o0 w.heap.size c.W P n1 n2 n3 n4 n5 V.heap.size tl k=5;unfold Cp;rw[Lc om,Lc om,Lc om,Lc om,Lq Z]
  |6,_=>
   refine⟨_,h.grp.rng.wide λk hk Z=>?_,CS,CS,λi x U=>?_⟩
   ·show Cp o0 w.heap.size c.W P n1 n2 n3 n4 n5 V.heap.size tl k=6;unfold Cp;rw[Lc om,Lc om,Lc om,Lc om,Lc om,Lq Z]
   ·have Z:=Ho (AX (show(List.replicate c.R (O:Option (List AF)))[i]?=E x from U));subst Z;exact⟨((O,0,0),M),List.getElem?_replicate_of_lt (Ek _ om),rfl⟩
  |7,_=>
   refine⟨0,_,h.grp.out.wide λk hk Z=>?_,CS,λi b U=>by simp[Bn]at U⟩;show Cp o0 w.heap.size c.W P n1 n2 n3 n4 n5 V.heap.size tl k=7;unfold Cp;rw[Lc om,Lc om,Lc om,Lc om,Lc om,Lc om,Lq Z]
  |8,_=>
   obtain⟨t,h1,h2,h3⟩:=h.get (j:=0) om;have Y:=(h.ti.el 0 t h1).1.1;rw[h3,h2]at Y;refine⟨T O 0 0,Y,?_,Cv.nil _ _,by simp[Value.ownBlock]⟩;exact(h.own (o0:=o0) (j:=0) om).1.trans (Lq rfl)
  |9,_=>
   obtain⟨t,h1,h2,h3⟩:=h.get (j:=c.W+1) om;have Y:=(h.ti.el _ t h1).1.1;rw[h3,h2]at Y;unfold CY at Y;rw[Lc om,Lc om,Lq rfl]at Y;refine⟨O,0,0,Y,?_,⟨⟨rfl,.inl rfl⟩,λh=>absurd rfl h⟩,AC _⟩;exact(h.own (o0:=o0) (j:=c.W+1) om).1.trans (by rw[Lc om,Lc om,Lq rfl])
  |10,_=>
   obtain⟨t,h1,h2,h3⟩:=h.get (j:=c.W+2) om;have Y:=(h.ti.el _ t h1).1.1;rw[h3,h2]at Y;unfold CY at Y;rw[Lc om,Lc om,Lc om]at Y;refine⟨Y,?_⟩;exact(h.own (o0:=o0) (j:=c.W+2) om).1.trans (by rw[Lc om,Lc om,Lc om])
  |i+11,_=>
   show CP (adN P m S Kk Bb Bu Bd Q QB Gf GB Ob OB g cap c.W q tl Wm) (Bn c rs) (λk=>Cp o0 w.heap.size c.W P n1 n2 n3 n4 n5 V.heap.size tl k=i+11) (λk=>Cp o0 w.heap.size c.W P n1 n2 n3 n4 n5 V.heap.size tl k=0) V i;unfold CP
   by_cases U:i<c.W
   ·have e:(Bn c rs).wk[i]?=E (wk0 1):=List.getElem?_replicate_of_lt U;rw[e];obtain⟨t,h1,h2,h3⟩:=h.get (j:=i+1) om;have Y:=(h.ti.el _ t h1).1.1;rw[h3,h2]at Y;unfold CY at Y;rw[Lc om,Lq om]at Y;refine⟨⟨0,0,0,O,0,0,0⟩,T O 0 0,Y,?_,⟨rfl,rfl,rfl,rfl,⟨⟨⟨rfl,.inl rfl⟩,λx Z=>by cases Z⟩,λh=>absurd rfl h⟩⟩,CO.nil _ _ _ _,by simp[Value.ownBlock],λ_ g hg=>by simp[Value.ownBlock]at hg⟩;exact(h.own (o0:=o0) (j:=i+1) om).1.trans (by rw[Lc om,Lq om];omega)
   ·have e:(Bn c rs).wk[i]?=O:=by show(List.replicate c.W (wk0 1))[i]?=O;simp;omega
    rw[e]
    trivial
 ·unfold Cp;rw[Lc om,Lq hk]
end
end
theorem ajG(a:Option Addr)(n c:Nat)(ans:List Bool)(w:Wa)(h:Sl1 i6 w a n ans)(A:n<=1000000) :Calls ZP 53 #[T a n c] w λe w'=>∃KB a' j,e=ra (L (E ⟨KB,0,O⟩))/\CN (λk=>w.heap.size<=k) KB a' n j (T O 0 0) ans [] 0 w'/\La w w':=by
 have HC:=AA (ahR a n c (ans.map i6) w (Jz h) (λu C=>by obtain⟨x,_,rfl⟩:=Be.1 C;rfl) A);have HL:=AA h.1;clear h;go_enter func53,ntmps53
 go_wp2_with (go_at_call 94;refine HC.out.mono ?_;rintro e Y ⟨v1,rfl,ho,H⟩;obtain⟨N,c1,V,_,X⟩:=SlK.own ho;subst V;have HO:=AA ho;have HS:=AA X;have J:=AA H;clear ho X H)
 go_ret;obtain⟨W,hW⟩:∃U,U=Y.alloc (i7 #[T N n c1,T O 0 0,R K 0] 113):=⟨_,rfl⟩;have Z:La Y W:=by rw[hW];exact AL _ _
 have D:W.heap[Y.heap.size]?=E (i7 #[T N n c1,T O 0 0,R K 0] 113 (0,0)):=by rw[hW];exact AT _ _
 refine⟨Y.heap.size,N,c1,rfl,⟨by rw[<-hW];exact D,J.out.size,?_,λh0 q B=>?_,CO.nil _ _ _ _,by simp[Value.ownBlock]⟩,by rw[<-hW];exact J.out.trans (Z.mono J.out.size)⟩
 ·refine⟨HL.out,?_⟩
  rcases HS.out.2 with h|⟨b,off,e,I,s⟩
  ·exact .inl h
  ·refine .inr ⟨b,off,e,by rw[<-hW];exact Af I Z.size,λi x v=>?_⟩;rw[<-hW,Z.cell (p:=⟨b,off+i,O⟩) I];exact s i _ (by rw[BU,v];rfl)
 ·subst B;have:=Gw HO.out q.block rfl;refine⟨this.1,by omega,by simp[Value.ownBlock]⟩
theorem Wds.rds{w:Wa}{a:Option Addr}{n:Nat}{Z:Lb}(h:Wds w a n Z):∃Y,aph w a n Y Z:=by obtain⟨Y,h1,h2,h3⟩:=h;exact⟨Y,h1,h2,λi v xs V X=>(h3 i v xs V X).1⟩
theorem amg{wk bl rg Y X Z fr:Int}(h:Ce wk bl rg Y X Z fr=G):∃W KB Ra Q Ob S F:Nat,wk=W/\bl=KB/\rg=Ra/\Y=Q/\X=Ob/\Z=S/\fr=F:=by have h:=Gi.1 h;exact⟨wk.toNat,bl.toNat,rg.toNat,Y.toNat,X.toNat,Z.toNat,fr.toNat,by omega,by omega,by omega,by omega,by omega,by omega,by omega⟩
theorem aok{c:CfM}(h:Ce c.W c.K c.R c.Q c.O c.S c.F=G)(Z:c.L<=32):OkC c:=by have h:=Gi.1 h;exact⟨by omega,by omega,by omega,by omega,by omega,by omega,by omega,by unfold CfM.wm;omega⟩
section
attribute[local go_sem] Oper.semAt_some
attribute[local simp] Ak Al
attribute[local go_sem] Ak Al
theorem aqv:(ZP.info? 126).map (λi=>(i.zero,i.size,i.bytes))=E (E (i8 #[R K 0,R K 0,R K 0,T O 0 0,R K 0]),5,56):=by kernel_rfl
theorem aqe(l m:List PcW):EY (l++m)=EY l++EY m:=by simp[EY]
def PF(w:Wa)(base:Nat)(v:Vk)(l:List PcW):Prop:=w.ownsRow base 126 5 v (lc l) (EY l)
def ar5(b base:Nat)(l:List PcW)(W:Wa):Prop:=∃v,Boxed W b 128 v/\PF W base v l
theorem aqg{α:Type}{B b base:Nat}{Pb:Nat->Wa->Wa->Prop}(D:base<=b)(N:∀r W J,Pb r W J->r<base)(f:α->List PcW):BT B Pb (λs W=>ar5 b base (f s) W):=by
 rintro s W J row ⟨v,Z,ho⟩ U V;have X:∀{k:Nat}{cs:Array Vk}{t:TypeId},W.heap[k]?=E (i7 cs t (0,0))->base<=k->row≠E k:=λ{k cs t} hk I e=>by
  rcases V k e with⟨_,o,h1,h2⟩|h
  ·rw[hk]at h1;cases h1;cases h2
  ·have:=N k _ _ h;omega
 refine⟨v,(U.block b Z.lt (λe=>X Z D e.symm)).trans Z,ho.kept U ?_⟩
 rcases ho.2 with⟨rfl,_⟩|⟨g,cap,A,rfl,H,Y,_⟩
 ·exact .inl rfl
 ·refine .inr λe=>?_;have C:row=E g:=by rw[<-e];rfl
  rcases V g C with⟨_,o,h1,h2⟩|h
  ·rw[Y]at h1;cases h1;cases h2
  ·have:=N g _ _ h;omega
theorem arf(V:Wa)(x:PcW):SlK 5 (V.alloc (i7 #[R K x.num,R K x.start,R K x.warm,T x.a x.m x.c,R K x.buf] 126)) (E ⟨V.heap.size,0,O⟩) 1 [R K x.num,R K x.start,R K x.warm,T x.a x.m x.c,R K x.buf]:=by
 refine⟨rfl,.inr ⟨V.heap.size,0,rfl,by simp,λi u Z=>?_⟩⟩;have:=GI (w:=V) #[R K x.num,R K x.start,R K x.warm,T x.a x.m x.c,R K x.buf] 126 rfl i u (by simpa using Z)
 rwa[Cf]at this
def pcA(x:PcW):Array Vk:=#[i8 #[R K x.num,R K x.start,R K x.warm,T x.a x.m x.c,R K x.buf]]
theorem aq0{gf:Nat}{lb:Array Vk}{B:Nat}{Pb:Nat->Wa->Wa->Prop}{S:List PcW->Wa->Prop}{Sp:List PcW->Prop}{N n₀:Nat}(w:Wa)
  (eg:∀args w,(callFunc gf args).run ZP w=.ok (.enter gf args) w)
  (a8:Hi Fence.wide 8 ZP gf lb pcA (KpB B) Pb S Sp N w) (hB:B<=w.heap.size) (s:∀r W W',Pb r W W'->r<w.heap.size) (hSk:∀(xs:List PcW)(W:Wa)(l:Nat)(o o':Obj),w.heap.size<=l->W.heap[l]?=E o->o.isCells=M->S xs W->S xs (W.putObj l o'))
  (aa:n₀<=w.heap.size) (am:∀r W W',Pb r W W'->n₀<=r) (hN:N<=1000000000) (al:∀xs W,S xs W->lc xs<=1000000000) :
  Calls ZP 172 #[T O 0 0,.func (.func gf) #[] lb] w λe w'=>∃v xs W,e=ra v/\S xs W/\(∃D,w.heap.size<=D/\w'=W.putObj D (.deferred O))/\PF w' w.heap.size v xs/\Below n₀ w w':=by
 obtain⟨i0,hi,af,ae,ac⟩:=Vh aqv;obtain⟨W1,hW⟩:∃W,W=w.alloc (i7 #[T O 0 0] 128):=⟨_,rfl⟩;have U:Below w.heap.size w W1:=by rw[hW];exact AL _ _
 have bS:Boxed W1 w.heap.size 128 (T O 0 0):=by rw[hW];exact Boxed.new _ _ _
 have aj:W1.heap.size=w.heap.size+1:=by rw[hW];simp
 have a7:Hi Fence.wide 8 ZP gf lb pcA (KpB B) Pb S Sp N W1:=λl J Jx W hb=>a8 l J Jx W (U.trans (hb.mono U.size));refine Hc func172 rfl ?_;simp only[ntmps172,Cw,Ao,Bw,Nat.reduceAdd,Nat.reduceSub,Dd,Dc,DX,Da,Av,CT];go_upto_region 1 with fail
 rw[<-hW];clear hW a8;go_wp2;obtain⟨g,hg⟩:∃g,w.heap.size=g:=⟨_,rfl⟩;rw[hg]at bS aj U hB s hSk aa⊢;have HG:=AA hg
 apply NL rfl eg a7 (λr W W' hr=>by have:=s r W W' hr;omega) (λxs W l o o' hl=>hSk xs W l o o' om) KpB.t ?hKb (λ_=>rfl)
  (λH V=>ar5 g g H V/\Below n₀ w V/\W1.heap.size<=V.heap.size)
  (λ_ _ _=>False)
 case hKb=>exact λW l o o' hl _ _ _=>⟨by simp[World.putObj],λk h1 _=>Cm om⟩
 case wA=>exact λx W=>W.alloc (i7 #[R K x.num,R K x.start,R K x.warm,T x.a x.m x.c,R K x.buf] 126)
 case hwA=>exact λx W=>AL _ _
 case hKg=>exact λx W hW=>KpB.of_below ((AL _ _).mono om)
 case hI=>exact BT.and (aqg (AC _) s id) (BT.and (BT.below om om am) (BT.size _ _ _))
 case hIx=>exact λ_ _ _ _ _ hs _ _=>hs
 case h0=>exact⟨⟨_,bS,BN _ _ _ _⟩,U.mono aa,AC _⟩
 case hassign=>
  intro l x W KB hK;unfold pcA
  gi_wp2
  exact hK
 case hbody=>
  rintro l H x I V ao ⟨⟨v,hv,Z⟩,j,a2⟩ ap
  try dsimp only
  have Y:=ao.2 I.heap.size _ _ _ (AT I (i7 #[R K x.num,R K x.start,R K x.warm,T x.a x.m x.c,R K x.buf] 126));have ay:V.cell? ⟨I.heap.size,0,O⟩=E (R K x.num):=by simp[cell?,Y]
  have ax:V.cell? ⟨I.heap.size,1,O⟩=E (R K x.start):=by simp[cell?,Y]
  have aw:V.cell? ⟨I.heap.size,2,O⟩=E (R K x.warm):=by simp[cell?,Y]
  have au:V.cell? ⟨I.heap.size,3,O⟩=E (T x.a x.m x.c):=by simp[cell?,Y]
  have ar:V.cell? ⟨I.heap.size,4,O⟩=E (R K x.buf):=by simp[cell?,Y]
  have k2:I.heap.size<V.heap.size:=(AD.1 Y).1;obtain⟨m,C⟩:∃m,lc H=m:=⟨_,rfl⟩;have az:m<=1000000001:=by omega
  unfold PF at Z;rw[C]at Z;have a1:=AA C;clear C;obtain⟨av,cv,rfl,ak,ai⟩:=SlK.own Z;have c2:=hv.cell;have aA:=hv.lt;clear Y
  gi_wp2_with (gi_at_builtin;refine aa2 _ rfl _ _ 128 rfl g 126 i0 (i8 #[.int .i64 0,.int .i64 0,.int .i64 0,.slice O 0 0,.int .i64 0]) 5 56 underlying128 hi af ae ac rfl (by decide) _ _ _ rfl (Z.alloc _) (E ⟨V.heap.size,0,O⟩) 1 1 [.int .i64 x.num,.int .i64 x.start,.int .i64 x.warm,.slice x.a x.m x.c,.int .i64 x.buf] rfl (arf V x) (by simp[Value.oneCell']) (by unfold maxLen;omega) om (by simp;omega) ?_;intro v' w5 X A aB;obtain⟨g',aq,rfl⟩:=ownsRow_succ X;obtain⟨b1,b2,b3,b4,b5⟩:=hv.appended (Kf kr) Z om (AC _) X A;have d1:=b1.cell;have d2:=b1.frozen;have d3:=b1.lt)
  refine⟨b4.from _,?_,⟨_,b2,?_⟩,j.trans (b5.mono om),AS a2 (by have:=b5.size;simpa using this)⟩
  ·exact KpB.of_below (b5.mono om)
  ·unfold PF;rw[List.length_append,a1.out,aqe];exact b3
 case hstop=>exact λ_ _ _ _ _ _ h _=>h.elim
 case hdone=>
  rintro D xs V hD hS ⟨⟨v,hv,Z⟩,j,a2⟩ ab;have ag:=al xs V hS;obtain⟨m,C⟩:∃m,lc xs=m:=⟨_,rfl⟩;unfold PF at Z;rw[C]at Z ag;have a1:=AA C;clear C;obtain⟨av,cv,rfl,ak,ai⟩:=SlK.own Z;have c2:=hv.cell;have a6:=ownsRow_putObj Z (.deferred O) ab rfl;have HS:=AA hS;clear Z hS;go_wp2;refine Gg rfl ab (results_tmp rfl _ _ _) ⟨_,xs,V,rfl,HS.out,⟨D,by omega,rfl⟩,?_,FZ j om om _⟩;unfold PF;rw[a1.out,HG.out];exact a6
theorem aqa{U:Nat}{C:Array Vk}{B:Nat}{Pb:Nat->Wa->Wa->Prop}{S:List PcW->Wa->Prop}{Sp:List PcW->Prop}{N J:Nat}(w:Wa)
  (eg:∀args w,(callFunc U args).run ZP w=.ok (.enter U args) w)
  (Z:Hi Fence.wide 8 ZP U C pcA (KpB B) Pb S Sp N w) (hB:B<=w.heap.size) (V:∀r W H,Pb r W H->r<w.heap.size) (hSk:∀(xs:List PcW)(W:Wa)(l:Nat)(o o':Obj),w.heap.size<=l->W.heap[l]?=E o->o.isCells=M->S xs W->S xs (W.putObj l o'))
  (I:J<=w.heap.size) (X:∀r W H,Pb r W H->J<=r) (hN:N<=1000000000) (Y:∀xs W,S xs W->lc xs<=1000000000) :
  Calls ZP 120 #[.func (.func U) #[] C] w λe w'=>∃v xs W,e=ra v/\S xs W/\(∃D,w.heap.size<=D/\w'=W.putObj D (.deferred O))/\PF w' w.heap.size v xs/\Below J w w':=by
 have HC:=AA (aq0 w eg Z hB V hSk I X hN Y);clear Z V hSk X Y;go_enter func120,ntmps120
 go_wp2_with fail
 refine HC.out.mono ?_;rintro e w1 ⟨v,xs,W,rfl,j,hD,A,s⟩;go_wp2;go_ret;exact⟨v,xs,W,rfl,j,hD,A,s⟩
end
section
attribute[local go_sem] Oper.semAt_some
attribute[local simp] Ak Al
attribute[local go_sem] Ak Al
def qlP(Z:List PcW)(first many:Nat):List PcW:=(List.range many).map λi=>Z.getD ((first+i) % lc Z) ⟨0,0,0,O,0,0,0⟩
theorem aqW{Z:List PcW}{first many j:Nat}(h:j<many):(qlP Z first many).take (j+1)=(qlP Z first many).take j++[Z.getD ((first+j) % lc Z) ⟨0,0,0,O,0,0,0⟩]:=by
 have Y:(qlP Z first many)[j]?=E (Z.getD ((first+j) % lc Z) ⟨0,0,0,O,0,0,0⟩):=by
  unfold qlP;rw[BU,It h]
  rfl
 exact As Y
theorem aqb{X:Nat->Prop}(p Q B first many:Nat)(closed:Bool)(C:List PcW)(I m:Nat)(w:Wa)(hp:w.heap[p]?=E (i7 #[L (E ⟨Q,0,O⟩)] 269 (0,0)))(v:Ab X Q B first many closed C w)(ae:p<I)(ai:Q<I)(aj:B<I)(hB:I<=w.heap.size) :Hi Fence.wide m ZP 173 #[L (E ⟨p,0,O⟩)] pcA (KpB I) (λ_ _ _=>False) (λxs _=>xs=qlP C first many) (λ_=>True) 1000001 w:=by
 intro lo J Jx W hW hJ ap hY h0;have base:Hid (∀V,(w.heap.size<=V.heap.size/\∀k,k<I->V.heap[k]?=w.heap[k]?)->V.cell? ⟨p,0,O⟩=E (L (E ⟨Q,0,O⟩))/\Ab X Q B first many closed C V):=λV hV=>by have e1:=(hV.2 p ae).trans hp;exact⟨by simp[cell?,e1],(hV.2 Q ai).trans v.box,(hV.2 B aj).trans v.places,v.inX,v.ne,v.room⟩
 have a6:Hid (w.heap.size<=W.heap.size/\∀k,k<I->W.heap[k]?=w.heap[k]?):=⟨hW.size,λk hk=>hW.block k om⟩;have ab:=AA hB;obtain⟨r1,r2,r3,r4⟩:=v.room;obtain⟨LO,hL⟩:∃LO,lc C=LO:=⟨_,rfl⟩;have HL:=AA hL;rw[hL]at r1 r2 r3 r4;clear hp v hL;obtain⟨c1,Z⟩:=base.out W a6.out;have c2:W.cell? ⟨Q,2,O⟩=E (R K (many:Int)):=by simp[cell?,Z.box]
 clear Z;refine callsIn_of_wp func173 rfl trivial ?_ rfl;simp only[ntmps173,Cw,Ao,Bw,Nat.reduceAdd,Nat.reduceSub,Dd,Dc,DX,Da,Av,CT]
 gi_wp2
 clear c1 c2
 gi_loopw[8] (λi wr=>∃(j:Nat)(pre:List PcW),j<=many/\i=R K j/\Hid (pre=(qlP C first many).take j)/\J pre wr/\Hid (w.heap.size<=wr.heap.size/\∀k,k<I->wr.heap[k]?=w.heap[k]?)) (λi _=>many-(intOf i).toNat)
 case atStart=>exact⟨0,[],AR _,rfl,rfl,h0,a6⟩
 case round=>
  obtain⟨j,pre,hk,rfl,HP,hj,D⟩:=hrel
  by_cases H:j<many
  ·have af:decide ((j:Int)<(many:Int))=G:=by simp;omega
   have ao:decide (j<many)=G:=by simp;omega
   obtain⟨b1,Z⟩:=base.out wr D.out;have hl:=HL.out;have b2:wr.cell? ⟨Q,0,O⟩=E (T (E ⟨B,0,O⟩) LO LO):=by simp[cell?,Z.box,hl]
   have b3:wr.cell? ⟨Q,1,O⟩=E (R K (first:Int)):=by simp[cell?,Z.box]
   have e1:IntKind.i64.wrap ((first:Int)+(j:Int))=((first+j:Nat):Int):=by rw[BK];omega
   have e2:((first+j:Nat):Int).tmod (LO:Int)=(((first+j) % LO:Nat):Int):=by rw[Jq om];simp
   have A:(first+j) % LO<LO:=Ek _ om;obtain⟨x,hx⟩:∃x,C[(first+j) % LO]?=E x:=⟨_,Ar om⟩;obtain⟨y0,y1,y2,y3,y4⟩:=ag4 hx;have HS:Hid (pre++[x]=(qlP C first many).take (j+1)):=by rw[Hid,HP.out,aqW H,hl,DZ,hx];rfl
   have Y:lc pre<1000001:=by rw[HP.out,Ag];omega
   obtain⟨s,hs⟩:∃s,first+j=s:=⟨_,rfl⟩;rw[hs]at e1 e2 A y0 y1 y2 y3 y4;obtain⟨i,hi⟩:∃i,s % LO=i:=⟨_,rfl⟩;rw[hi]at e2 A y0 y1 y2 y3 y4;have x0:wr.cell? ⟨B,i*5,O⟩=E (R K x.num):=by simp[cell?,Z.places];exact y0
   have x1:wr.cell? ⟨B,i*5+1,O⟩=E (R K x.start):=by simp[cell?,Z.places];exact y1
   have x2:wr.cell? ⟨B,i*5+2,O⟩=E (R K x.warm):=by simp[cell?,Z.places];exact y2
   have x3:wr.cell? ⟨B,i*5+3,O⟩=E (T x.a x.m x.c):=by simp[cell?,Z.places];exact y3
   have x4:wr.cell? ⟨B,i*5+4,O⟩=E (R K x.buf):=by simp[cell?,Z.places];exact y4
   have i1:(0:Int)<=(i:Int):=by omega
   have i2:(i:Int)<(LO:Int):=by omega
   have z0:¬(LO:Int)=0:=by omega
   have z1:¬LO=0:=by omega
   have al:=AA hj;have ak:=AA Y;have aa:=AA H;clear hx y0 y1 y2 y3 y4 Z hl hs hi hj Y H
   gi_wp2
   refine Ld (FL _ _) 19 mixed kr kr ?_;dsimp only[List.take_succ_cons,List.take_zero,List.drop_succ_cons,List.drop_zero]
   repeat (go_big_quiet_step (fail))
   refine wpQuiet_nil ?_;rintro _ ⟨a1,rfl⟩;have N:La wr (wr.drewN a1):=⟨rfl,rfl,rfl,AC _,λ_ _=>rfl⟩;obtain⟨W4,a8⟩:∃X,X=wr.drewN a1:=⟨_,rfl⟩;rw[<-a8]at N⊢;clear a8;have a7:=Jf hJ al.out N;have U:Hid (w.heap.size<=W4.heap.size/\∀k,k<I->W4.heap[k]?=w.heap[k]?):=
    ⟨AS D.out.1 N.size,λk hk=>(N.block k (by have:=D.out.1;have:=ab.out;omega)).trans (D.out.2 k hk)⟩
   obtain⟨fn,tmps,assign,body,ac,ag⟩:=hY pre x W4 a7 ak.out;dsimp only[pcA]at ac;clear b1 b2 b3 x0 x1 x2 x3 x4 N a7
   gi_wp2
   refine ag.mono ?_;rintro e W5 (⟨rfl,hJ4,hk4⟩|⟨rfl,hJx4⟩)
   ·have a2:Hid (w.heap.size<=W5.heap.size/\∀k,k<I->W5.heap[k]?=w.heap[k]?):=⟨AS U.out.1 hk4.1,λk hk=>(hk4.2 k hk (by have:=U.out.1;have:=ab.out;omega)).trans (U.out.2 k hk)⟩;have am:=AA hJ4;clear hk4 hJ4
    gi_wp2
    go_roundw
    case rel=>exact⟨j+1,_,aa.out,by go_num,HS,am.out,a2⟩
    case measure=>
     have:=aa.out;simp[intOf];omega
   ·gi_wp2
    refine Vi (results_none rfl _ _ _) rfl ?_;exact⟨⟨_,rfl⟩,.inr ⟨_,trivial,hJx4⟩⟩
  ·obtain rfl:j=many:=by omega
   have af:decide ((j:Int)<(j:Int))=M:=by simp
   have HF:Hid (pre=qlP C first j):=by
    have h:=HP.out
    rwa[Ap (by unfold qlP;simp)]at h
   clear H
   gi_wp2
   go_end0
   exact⟨⟨_,rfl⟩,.inl ⟨pre,HF.out,hj⟩⟩
theorem aqC(Q:Nat)(w:Wa) :Calls ZP 121 #[L (E ⟨Q,0,O⟩)] w λe w'=>e=ra (.func (.func 173) #[] #[L (E ⟨w.heap.size,0,O⟩)])/\w'=w.alloc (i7 #[L (E ⟨Q,0,O⟩)] 269):=by go_enter func121,ntmps121;go_wp2;go_ret;exact⟨rfl,rfl⟩
theorem aqK{X:Nat->Prop}{Q B first many:Nat}{closed:Bool}{U:List PcW}(w:Wa)(h:Ab X Q B first many closed U w) :Calls ZP 73 #[L (E ⟨Q,0,O⟩)] w λe w'=>∃v,e=ra v/\PF w' w.heap.size v (qlP U first many)/\La w w':=by
 have D:=AA (aqC Q w);obtain⟨W,hW⟩:∃W,W=w.alloc (i7 #[L (E ⟨Q,0,O⟩)] 269):=⟨_,rfl⟩;rw[<-hW]at D;have hB:La w W:=by rw[hW];exact AL _ _
 have N:W.heap[w.heap.size]?=E (i7 #[L (E ⟨Q,0,O⟩)] 269 (0,0)):=by rw[hW];exact AT _ _
 have Y:=h.below hB;have Z:=aqb (X:=X) w.heap.size Q B first many closed U W.heap.size 8 W N Y (AD.1 N).1 (AD.1 Y.box).1 (AD.1 Y.places).1 (AC _);have C:=h.room;have s:=AA (aqa W (Vj func173 kr rfl) Z (AC _) (λ_ _ _ h=>h.elim) (λ_ _ _ _ _ _ _ _ h=>h) (AC _) (λ_ _ _ h=>h.elim) om (λxs V h=>by rw[h];unfold qlP;simp;omega));have I:=AA hB;clear h hW hB N Y Z C;go_enter func73,ntmps73
 go_wp2_with fail
 refine D.out.mono ?_;rintro e w1 ⟨rfl,rfl⟩
 go_wp2_with fail
 refine s.out.mono ?_;rintro e j ⟨v,xs,V,rfl,rfl,_,ho,H⟩;have A:=AA ho;have J:=AA H;clear ho H;go_wp2;go_ret;exact⟨v,rfl,NC A.out I.out.size,I.out.trans (J.out.mono I.out.size)⟩
end
theorem PS(Ta:Nat)(a:Int)(w:Wa)(h:w.cell? ⟨Ta,1,O⟩=E (.int .u8 a)) :Calls ZP 320 #[L (E ⟨Ta,0,O⟩)] w λe w'=>e=ra (.int .u8 a)/\La w w':=by have Z:=AA (AH w.heap.size w);go_enter func320,ntmps320;go_wp2;go_ret;exact⟨rfl,Z.out⟩
def phT(c:CfM)(s:PlM)(t:Nat):Nat:=if t=0 then s.rd.ph else if t<=c.W then phW s (t-1) else if t=c.W+1 then s.mph else s.eph
theorem aqx{A:PAd}{c:CfM}{s:PlM}{o:Nat->Nat}(w:Wa)(h:AI A c o s w)(Y:OkC c)(V:lc s.wk=c.W)(t:Nat)(X:t<c.W+3):Calls ZP 320 #[L (E ⟨adT A c t,0,O⟩)] w λe w'=>e=ra (.int .u8 (phT c s t:Nat))/\La w w':=by
 unfold phT adT
 split
 ·exact PS _ _ w h.tcR.c1
 ·split
  ·have Z:t-1<lc s.wk:=by omega
   rw[IZ (Ar Z)];exact PS _ _ w (h.tcW (Ar Z) (by have:=Y.W;omega)).c1
  ·split
   ·exact PS _ _ w h.tcM.c1
   ·exact PS _ _ w h.tcE.c1
def phF(c:CfM)(s:PlM)(i:Nat):List Int:=(List.range i).map λt=>(phT c s t:Int)
theorem aqX(c:CfM)(s:PlM)(i:Nat):phF c s (i+1)=phF c s i++[(phT c s i:Int)]:=by unfold phF;rw[El,Aj];rfl
theorem aqN(c:CfM)(s:PlM)(i:Nat):(phF c s i).length=i:=by simp[phF]
theorem aqP{w:Wa}{base n size:Nat}{e:TypeId}{v:Vk}{xs:List Vk}(h:w.ownsRow base e size v n xs):∃a Z,v=T a n Z:=by
 rcases h.2 with⟨rfl,rfl⟩|⟨g,cap,Y,rfl,_⟩
 ·exact⟨_,_,rfl⟩
 ·exact⟨_,_,rfl⟩
theorem ara{Z:Nat->Prop}{w:Wa}{X:List PcW}{first n:Nat}{q:List Bc}(V:lc X=n)(h:∀i b,q[i]?=E b->∃p,X[(first+i) % n]?=E p/\PcD Z w p b):(qlP X first (lc q)).map (λp=>p.num)=q.map λb=>(b.num:Int):=by
 refine Hn λi=>?_;unfold qlP;rw[List.map_map,BU,BU]
 by_cases Y:i<lc q
 ·rw[It Y,Ar Y];obtain⟨p,h1,h2⟩:=h i _ (Ar Y);simp only[Dw,Function.comp,DZ,V,h1,CG,h2.1]
 ·rw[GT (by simpa using Y),GT (by simpa using Y)]
  rfl
structure VwL(X1:World)(p f:Nat)(C:Array Value)(e:TypeId)(v:Value)(n:Nat)(xs:List Value)(w:World):Prop where
 c:Chg (λk=>k=p) X1 w
 b:w.heap[p]?=some (.cells (C.setIfInBounds f v) 63 (0,0))
 r:w.ownsRow X1.heap.size e 1 v n xs
theorem VwL.bel{X Y U:Wa}{p f n:Nat}{C:Array Vk}{e:TypeId}{v:Vk}{xs:List Vk}(h:VwL X p f C e v n xs Y)(Z:La Y U):VwL X p f C e v n xs U:=⟨h.c.same Z,(Z.block p (AD.1 h.b).1).trans h.b,Fu h.r λk hk=>Z.block k (Gw h.r k hk).2⟩
theorem VwL.cell{X Z:Wa}{p f n:Nat}{C:Array Vk}{e:TypeId}{v:Vk}{xs:List Vk}(h:VwL X p f C e v n xs Z)(Y:f<C.size):Z.cell? ⟨p,f,O⟩=E v:=by simp[cell?,h.b,Y]
theorem VwL.app{V U0 U:Wa}{p f q n bytes:Nat}{C:Array Vk}{e t ty:TypeId}{i:TypeInfo}{z v x:Vk}{xs:List Vk}(h:VwL V p f C e v n xs U0)(hp:p<V.heap.size)(hf:f<C.size)(D:La U0 U)(hq:U.heap[q]?=E (i7 #[x] e (0,0)))(hx:x.oneCell'=G)(hn:n<=1000000)(ht:ZP.underlying t=E (.slice e))(hi:ZP.info? e=E i)(hz:i.zero=E z)(hs:i.size=1)(a7:i.bytes=bytes)(hB:bytes<=8)(A:z.cells.size=1) :∃J c1 Z,(Builtin.append_ #[t,t] ty #[v,T (E ⟨q,0,O⟩) 1 1]).run ZP U=.ok (T J (n+1) c1) Z/\Chg (λk=>k=p) V Z/\Z.frozen? ⟨p,f,O⟩=M/\Z.cell? ⟨p,f,O⟩=E v/\VwL V p f C e (T J (n+1) c1) (n+1) (xs++[x]) (Z.setCell ⟨p,f,O⟩ (T J (n+1) c1)):=by
 have aa:=D.size;have h0:=h.c.size;have a6:=(D.block p om).trans h.b;have Y:U.ownsRow V.heap.size e 1 v n xs:=Fu h.r λk hk=>D.block k (Gw h.r k hk).2;have a2:SlK 1 U (E ⟨q,0,O⟩) 1 [x]:=⟨rfl,.inr ⟨q,0,rfl,(AD.1 hq).1,λj u N=>by
  match j,N with
  |0,N=>cases N;simp[cell?,hq]⟩⟩
 obtain⟨v',Z,hr,ho,hg,a8⟩:=Gu (P:=ZP) U V.heap.size t ty e i z 1 bytes ht hi hz hs a7 A (by decide) v n xs Y (E ⟨q,0,O⟩) 1 1 [x] a2 (λu N=>by simp at N;subst N;exact hx) (by unfold maxLen;omega) (AS (Nat.mul_le_mul_left _ hB) om) om;obtain⟨J,c1,s,_,_⟩:=SlK.own ho;subst s;have I:v.ownBlock≠E p:=λe2=>by have:=(Gw Y p e2).1;omega
 have X:=(hg.block p om λe2=>I e2.symm).trans a6;have H:Chg (λk=>k=p) V Z:=(h.c.same D).grown hg λg e2 hl=>by have:=(Gw Y g e2).1;omega
 refine⟨J,c1,Z,hr,H,by simp[frozen?,X],by simp[cell?,X,hf],H.set rfl,?_,?_⟩
 ·have:=AJ (i:=f) X (T J (n+1) c1)
  simpa using this
 ·refine Fu ho λk hk=>AQ Z ⟨p,f,O⟩ _ k λe2=>?_;have e2:k=p:=e2
  rcases a8 with B|B
  ·exact I (by rw[<-B,hk,e2])
  ·rw[hk]at B;have:=AK B;omega
theorem aqU:(ZP.info? 5).map (λi=>(i.zero,i.size,i.bytes))=E (E (.int .u8 0),1,1):=by kernel_rfl
theorem aqM:(ZP.info? 3).map (λi=>(i.zero,i.size,i.bytes))=E (E (R K 0),1,8):=by kernel_rfl
theorem Pa{w:Wa}{base n size p:Nat}{e t:TypeId}{v:Vk}{xs:List Vk}{C:Array Vk}(h:w.ownsRow base e size v n xs)(Y:w.heap[p]?=E (i7 C t (0,0)))(X:e≠t):v.ownBlock≠E p:=λe2=>by
 rcases h.2 with⟨rfl,_⟩|⟨g,cap,V,rfl,U,Z,_⟩
 ·cases e2
 ·cases e2
  rw[Y]at Z
  cases Z
  exact X rfl
theorem PI{w w':Wa}{base n size p:Nat}{e:TypeId}{v:Vk}{xs:List Vk}(h:w.ownsRow base e size v n xs)(Y:Chg (λk=>k=p) w w')(Z:v.ownBlock≠E p):w'.ownsRow base e size v n xs:=Fu h λk hk=>Y.block k (Gw h k hk).2 λe=>Z (by rw[hk,e])
theorem arg(N U V X Z:Int)(a4 B:Option Addr)(I c4 J H:Nat)(C D Y:Bool):ZP.built 63 [(1,R K N),(2,R K U),(4,T a4 I c4),(5,R K V),(6,T B J H),(7,R K X),(8,i6 C),(9,i6 D),(10,i6 Y),(11,R K Z)]=E #[T O 0 0,R K N,R K U,T O 0 0,T a4 I c4,R K V,T B J H,R K X,i6 C,i6 D,i6 Y,R K Z]:=by kernel_rfl
section
attribute[local go_sem] Oper.semAt_some
attribute[local simp] Ak Al
attribute[local go_sem] Ak Al
def Oy(us:List Bool):Nat->List Int
 |0=>[]
 |j+1=>Oy us j++(if us.getD j M then [(j:Int)] else [])
theorem PN(us:List Bool):∀j,(Oy us j).length<=j
 |0=>AC _
 |j+1=>by
  have:=PN us j;unfold Oy;rw[List.length_append]
  split<;>simp<;>omega
theorem aq6(p B U:Nat)(fv sv dv:Vk)(us:List Bool)(H m:Nat)(w:Wa)(hp:w.heap[p]?=E (i7 #[L (E ⟨B,0,O⟩)] 104 (0,0)))(D:w.heap[B]?=E (i7 #[fv,sv,T (E ⟨U,0,O⟩) (lc us) (lc us),dv] 210 (0,0)))(hu:w.heap[U]?=E (i7 (us.map i6).toArray 4 (0,0)))(ab:lc us<=1000000)(a6:p<H)(ac:B<H)(a8:U<H)(hB:H<=w.heap.size) :Hi Fence.wide m ZP 171 #[L (E ⟨p,0,O⟩)] Kg (KpB H) (λ_ _ _=>False) (λxs _=>xs=Oy us (lc us)) (λ_=>True) 1000001 w:=by
 intro lo J Jx W hW hJ aj hY h0;obtain⟨LO,hL⟩:∃LO,lc us=LO:=⟨_,rfl⟩;rw[hL]at D ab⊢;have base:Hid (∀V:Wa,(w.heap.size<=V.heap.size/\∀k,k<H->V.heap[k]?=w.heap[k]?)->V.cell? ⟨p,0,O⟩=E (L (E ⟨B,0,O⟩))/\V.cell? ⟨B,2,O⟩=E (T (E ⟨U,0,O⟩) LO LO)/\∀i y,us[i]?=E y->V.cell? ⟨U,i,O⟩=E (i6 y)):=λV hV=>by have e1:=(hV.2 p a6).trans hp;have e2:=(hV.2 B ac).trans D;have e3:=(hV.2 U a8).trans hu;exact⟨by simp[cell?,e1],by simp[cell?,e2],λi y C=>by simp[cell?,e3,C]⟩
 have v:Hid (w.heap.size<=W.heap.size/\∀k,k<H->W.heap[k]?=w.heap[k]?):=⟨hW.size,λk hk=>hW.block k om⟩;have ag:=AA hB;have HL:=AA hL;clear hp D hu hL;obtain⟨c1,c2,_⟩:=base.out W v.out;refine callsIn_of_wp func171 rfl trivial ?_ rfl;simp only[ntmps171,Cw,Ao,Bw,Nat.reduceAdd,Nat.reduceSub,Dd,Dc,DX,Da,Av,CT]
 gi_wp2
 clear c1 c2
 gi_loopw[10] (λi wr=>∃(j:Nat)(pre:List Int),j<=LO/\i=R K j/\Hid (pre=Oy us j)/\J pre wr/\Hid (w.heap.size<=wr.heap.size/\∀k,k<H->wr.heap[k]?=w.heap[k]?)) (λi _=>LO-(intOf i).toNat)
 case atStart=>exact⟨0,[],AR _,rfl,rfl,h0,v⟩
 case round=>
  obtain⟨j,pre,hk,rfl,HP,hj,X⟩:=hrel
  by_cases N:j<LO
  ·have a7:decide ((j:Int)<(LO:Int))=G:=by simp;omega
   have ai:decide (j<LO)=G:=by simp;omega
   obtain⟨_,_,b3⟩:=base.out wr X.out;obtain⟨y,C⟩:∃y,us[j]?=E y:=⟨_,Ar (by rw[HL.out];exact N)⟩;have x0:=b3 j y C;have Z:Oy us (j+1)=Oy us j++(if y then [(j:Int)] else []):=by
    show Oy us j++_=_;rw[DZ,C]
    rfl
   have Y:lc pre<1000001:=by rw[HP.out];have:=PN us j;omega
   have i1:(0:Int)<=(j:Int):=by omega
   have i2:(j:Int)<(LO:Int):=by omega
   have s:=AA Z;have I:=AA N;have ae:=AA Y;have a1:=AA hj;clear b3 C Z Y N hj
   cases y with
   |false=>
    gi_wp2
    go_roundw
    case rel=>exact⟨j+1,pre,I.out,by go_num,by rw[Hid,s.out,HP.out];simp,a1.out,X⟩
    case measure=>
     have:=I.out;simp[intOf];omega
   |true=>
    obtain⟨fn,tmps,assign,body,a2,aa⟩:=hY pre (j:Int) wr a1.out ae.out;dsimp only[Kg]at a2
    gi_wp2
    refine aa.mono ?_;rintro e W5 (⟨rfl,hJ4,hk4⟩|⟨rfl,hJx4⟩)
    ·have A:Hid (w.heap.size<=W5.heap.size/\∀k,k<H->W5.heap[k]?=w.heap[k]?):=⟨AS X.out.1 hk4.1,λk hk=>(hk4.2 k hk (by have:=X.out.1;have:=ag.out;omega)).trans (X.out.2 k hk)⟩;have af:=AA hJ4;clear hk4 hJ4
     gi_wp2
     go_roundw
     case rel=>exact⟨j+1,_,I.out,by go_num,by rw[Hid,s.out,HP.out];simp,af.out,A⟩
     case measure=>
      have:=I.out;simp[intOf];omega
    ·gi_wp2
     refine Vi (results_none rfl _ _ _) rfl ?_;exact⟨⟨_,rfl⟩,.inr ⟨_,trivial,hJx4⟩⟩
  ·obtain rfl:j=LO:=by omega
   have a7:decide ((j:Int)<(j:Int))=M:=by simp
   clear N
   gi_wp2
   go_end0
   exact⟨⟨_,rfl⟩,.inl ⟨pre,HP.out,hj⟩⟩
theorem aqi(B:Nat)(w:Wa) :Calls ZP 118 #[L (E ⟨B,0,O⟩)] w λe w'=>e=ra (.func (.func 171) #[] #[L (E ⟨w.heap.size,0,O⟩)])/\w'=w.alloc (i7 #[L (E ⟨B,0,O⟩)] 104):=by go_enter func118,ntmps118;go_wp2;go_ret;exact⟨rfl,rfl⟩
theorem aqz{X:Nat->Prop}{B U D size:Nat}{fr:List Int}{us:List Bool}{ds:Lb}(w:Wa)(h:DM X B U D size fr us ds w)(j:lc us<=1000000) :Calls ZP 69 #[L (E ⟨B,0,O⟩)] w λe w'=>∃v,e=ra v/\FR w' w.heap.size v (Oy us (lc us))/\La w w':=by
 obtain⟨s,fv,dv,h⟩:=h;have A:=AA (aqi B w);obtain⟨W,hW⟩:∃W,W=w.alloc (i7 #[L (E ⟨B,0,O⟩)] 104):=⟨_,rfl⟩;rw[<-hW]at A;have hB:La w W:=by rw[hW];exact AL _ _
 have J:W.heap[w.heap.size]?=E (i7 #[L (E ⟨B,0,O⟩)] 104 (0,0)):=by rw[hW];exact AT _ _
 have N:=h.keep (Y:=λ_=>False) (.of_same hB) λ_ _ _ h=>h;have Z:=aq6 w.heap.size B U _ _ _ us W.heap.size 8 W J N.box N.used j (AD.1 J).1 (AD.1 N.box).1 (AD.1 N.used).1 (AC _);have HC:=AA (aex W (Vj func171 kr rfl) Z (AC _) (λ_ _ _ h=>h.elim) (λ_ _ _ _ _ _ _ _ h=>h) (AC _) (λ_ _ _ h=>h.elim) om (λxs V h=>by rw[h];have:=PN us (lc us);omega));have H:=AA hB;clear h hW hB J N Z;go_enter func69,ntmps69
 go_wp2_with fail
 refine A.out.mono ?_;rintro e w1 ⟨rfl,rfl⟩
 go_wp2_with fail
 refine HC.out.mono ?_;rintro e w2 ⟨v,xs,V,rfl,rfl,_,ho,C⟩;have HO:=AA ho;have I:=AA C;clear ho C;go_wp2;go_ret;exact⟨v,rfl,NC HO.out H.out.size,H.out.trans (I.out.mono H.out.size)⟩
end
end Go.Proofs.YtaamacoicojhnaaGreat
