/- Proofs over the given program, part 17. -/
import Derived.Test.YtaamacoicojhnaaGreatZR16
set_option linter.unusedVariables false
set_option linter.unusedSimpArgs false
set_option maxRecDepth 100000
set_option maxHeartbeats 16000000
open Go.Proofs.Tryz
open Go.Proofs.Tryz renaming prog→ZP
open Go.World(cell? frozen?)
open Go.Value(int slice pointer bool)
open Go.IntKind(i64)
namespace Go.Proofs.YtaamacoicojhnaaGreat
open Go.RowKit Go.Sort
section
attribute[local go_sem] Oper.semAt_some
attribute[local simp] Ak Al
attribute[local go_sem] Ak Al
theorem ag1{α:Type}{B b base:Nat}{Pb:Nat->World->World->Prop}(hB:base<=B)(C:b<B)(H:∀r W N,Pb r W N->r≠b/\r<base)(f:α->List AF):BT B Pb (λs W=>amS b base (f s) W):=by
 rintro s W N row ⟨v,Y,ho⟩ U J;have Z:∀{k:Nat}{cs:Array Value}{t:TypeId},W.heap[k]?=some (.cells cs t (0,0))->k=b∨base<=k->row≠some k:=λ{k cs t} hk I e=>by
  rcases J k e with⟨_,o,h1,h2⟩|h
  ·rw[hk]at h1;cases h1;cases h2
  ·have:=H k _ _ h;omega
 refine⟨v,(U.block b Y.lt (λe=>Z Y (.inl rfl) e.symm)).trans Y,ho.kept U ?_⟩
 rcases ho.2 with⟨rfl,_⟩|⟨g,cap,D,rfl,V,X,_⟩
 ·exact .inl rfl
 ·exact .inr λe=>Z X (.inr V) (by rw[<-e];rfl)
theorem SbX.owns{α:Type}{B g q:Nat}{V X wm:Int}{b:Option Addr}{n c:Nat}(Y:g≠q)(f:α->Int):BT B (PbN g q) (λs W=>∃d,SbX g V X wm b n c (f s) d W):=by
 rintro s W J row ⟨d,Z⟩ N U
 by_cases e:row=some g
 ·rcases U g e with⟨_,o,h1,h2⟩|h
  ·unfold SbX at Z;rw[Z]at h1;cases h1;cases h2
  ·rcases h with h|⟨_,h⟩
   ·exact absurd h Y
   ·exact h V X wm b n c (f s) d Z
 ·exact⟨d,(N.block g Z.lt (Ne.symm e)).trans Z⟩
theorem KpN.node{bl g:Nat}(Z:bl≠g)(W:World)(y:Int):KpN bl g W (W.setCell ⟨g,4,none⟩ (int i64 y)):=by refine⟨by simp[World.setCell],λk cs t f hk _ Y _=>(AQ W ⟨g,4,none⟩ _ k Y).trans hk,.inl ?_,λU V wm b n c z d X=>⟨y,X.node y⟩⟩;unfold Cb;rw[BC (a:=⟨bl,0,none⟩) (AQ W ⟨g,4,none⟩ _ bl Z)]
theorem acC{V Z:World}{bl g base n m:Nat}{v v':Value}{xs ys:List Value}(H:Boxed V bl 69 v)(X:V.ownsRow base 116 2 v m ys)(C:V.grownBy Z v.ownBlock)(a2:v'.ownBlock=v.ownBlock∨v'.ownBlock=some V.heap.size)
  (Y:Z.ownsRow base 116 2 v' n xs) (j:bl<base) (s:g<base) (a1:bl≠g) (a6:base<=V.heap.size) :
  KpN bl g V (Z.setCell ⟨bl,0,none⟩ v')/\Boxed Z bl 69 v/\Boxed (Z.setCell ⟨bl,0,none⟩ v') bl 69 v'/\(Z.setCell ⟨bl,0,none⟩ v').ownsRow base 116 2 v' n xs/\KeepsOthers V (Z.setCell ⟨bl,0,none⟩ v')/\(∀k,k<base->k≠bl->(Z.setCell ⟨bl,0,none⟩ v').heap[k]?=V.heap[k]?)/\base<=Z.heap.size:=by
 have B:∀k,k<base->v.ownBlock≠some k:=λk hk e=>by have:=(BA X k e).1;omega
 have N:Boxed Z bl 69 v:=(C.block bl H.lt (λe=>B bl j e.symm)).trans H;have hs:V.heap.size<=Z.heap.size:=C.size;have J:(Z.setCell ⟨bl,0,none⟩ v').heap.size=Z.heap.size:=by simp[World.setCell]
 have e1:Cb bl V=v.ownBlock:=by unfold Cb;rw[H.cell];rfl
 have e2:Cb bl (Z.setCell ⟨bl,0,none⟩ v')=v'.ownBlock:=by unfold Cb;rw[(N.set v').cell];rfl
 have U:∀k,k<base->k≠bl->(Z.setCell ⟨bl,0,none⟩ v').heap[k]?=V.heap[k]?:=λk hk I=>(AQ Z ⟨bl,0,none⟩ v' k I).trans (C.block k om (λe=>B k hk e.symm));have x:=BH Z bl 0 v';refine⟨⟨by rw[J];exact hs,λk cs t f hk hb _ hr=>?_,?_,λnu st wm b n c z d A=>⟨z,(U g s (Ne.symm a1)).trans A⟩⟩,N,N.set v',Y.kept x (.inr λe=>by have:=(BA Y bl e).1;omega),⟨by rw[J];exact hs,λk o ho hc=>?_⟩,U,by omega⟩
 ·rw[e1]at hr;rw[AQ Z ⟨bl,0,none⟩ v' k hb,C.block k (KpL.lt (bl:=bl) hk) (λe=>hr e.symm)];exact hk
 ·rw[e1,e2,J]
  rcases a2 with h|h
  ·exact .inl h
  ·refine .inr ⟨_,h,AC _,?_⟩;have:=(BA Y _ h).2;exact this
 ·have I:k≠bl:=λe=>by rw[e]at ho;unfold Boxed at H;rw[H]at ho;cases ho;cases hc
  have y:=(AD.1 ho).1;rw[AQ Z ⟨bl,0,none⟩ v' k I];refine(C.block k y (λe=>?_)).trans ho
  rcases X.2 with⟨h0,_⟩|⟨g',cap,a7,h0,_,D,_⟩
  ·rw[h0]at e;cases e
  ·rw[h0]at e;have e':k=g':=by simpa[Value.ownBlock]using e
   rw[e',D]at ho
   cases ho
   cases hc
theorem afi{W0:World}{B:Nat}{fold:Bool}{wss:La}(nu Y wm:Int)(b:Option Addr)(n c z d:Nat)(m:Int)(bs:List Int)(w:World)(h:ET W0 B fold wss w)(hD:Bys w b n bs)(hn:n<=900000)(hr:An fold wss=true)(hm:-9223372036854775808<=m/\m<=9223372036854775807)(ao:KK (AB wss).length (Au wss) Y wm n z d=true) :Calls ZP 200 #[pointer (some ⟨B,0,none⟩),.agg (blV nu Y wm b n c),prV (z:Int) (d:Int),int i64 m] w λe w'=>∃v,e=.returned (.tuple #[prV (Bp fold wss z (CU bs d m):Nat) (d+(Am n d m:Nat)),v,bool (decide ((d:Int)+(Am n d m:Nat)=(n:Int)))])/\Ax w' w.heap.size v (Fs fold wss Y wm bs z d m)/\Bt w w':=by
 obtain⟨i0,hi,bR,bQ,bP⟩:=Ve IG;obtain⟨W,hW⟩:∃W,W=((((w.alloc (.cells #[pointer (some ⟨B,0,none⟩)] 88)).alloc (.cells (blV nu Y wm b n c) 120)).alloc (.cells #[int i64 (z:Int),int i64 (d:Int)] 247)).alloc (.cells #[int i64 0,int i64 0] 247)).alloc (.cells #[slice none 0 0] 69):=⟨_,rfl⟩;have hB:Bt w W:=by rw[hW];exact(((((AH _ _).alloc (AC _) _).alloc sm _).alloc (by simp;omega) _).alloc (by simp;omega) _).alloc (by simp;omega) _
 have cA:W.heap.size=w.heap.size+1+1+1+1+1:=by rw[hW];simp
 have hO:Bx w.heap.size [.cells #[pointer (some ⟨B,0,none⟩)] 88,.cells (blV nu Y wm b n c) 120,.cells #[int i64 (z:Int),int i64 (d:Int)] 247,.cells #[int i64 0,int i64 0] 247,.cells #[slice none 0 0] 69] W:=by rw[hW];exact(((((Bx.nil _ w).snoc _ rfl).snoc _ sm).snoc _ sm).snoc _ sm).snoc _ sm
 have HC:Hid (∀V,RowKit.Below W.heap.size W V->V.cell? ⟨w.heap.size,0,none⟩=some (.pointer (some ⟨B,0,none⟩))/\(V.cell? ⟨w.heap.size+1,0,none⟩=some (.int .i64 nu)/\V.cell? ⟨w.heap.size+1,1,none⟩=some (.int .i64 Y)/\V.cell? ⟨w.heap.size+1,2,none⟩=some (.int .i64 wm)/\V.cell? ⟨w.heap.size+1,3,none⟩=some (.slice b n c))/\(V.cell? ⟨w.heap.size+1+1,0,none⟩=some (.int .i64 (z:Int))/\V.cell? ⟨w.heap.size+1+1,1,none⟩=some (.int .i64 (d:Int)))/\
   V.heap[w.heap.size]?=some (.cells #[pointer (some ⟨B,0,none⟩)] 88 (0,0))/\V.heap[w.heap.size+1+1+1]?=some (.cells #[int i64 0,int i64 0] 247 (0,0))/\V.heap[w.heap.size+1+1+1+1]?=some (.cells #[slice none 0 0] 69 (0,0))/\Bt w V):=λV J=>by
  have h:=hO.below J;exact⟨h.cell (i:=0) rfl rfl,⟨h.cell (i:=1) rfl rfl,h.cell (i:=1) rfl rfl,h.cell (i:=1) rfl rfl,h.cell (i:=1) rfl rfl⟩,⟨h.cell (i:=2) rfl rfl,h.cell (i:=2) rfl rfl⟩,h 0 _ rfl,h 3 _ rfl,h 4 _ rfl,hB.trans (J.mono hB.size)⟩
 have HR:=AA (aao nu Y wm b n c z d W (h.below hB) om);rw[ao]at HR;unfold KK at ao;rw[Bq]at ao;obtain⟨b8,c7⟩:=ao;have cy:=Lj c7;have cx:z<(AB wss).length:=by omega
 have cD:d<=n:=by omega
 obtain⟨s1,s2,s3,s4,s5,s6,s7⟩:=Lj b8;have cH:=(agK h.len).2;have bT:wm<=1000000:=by omega
 have ce:bs.length=n:=hD.len;have al:(CU bs (d:Int) m).length=Am n d m:=by rw[agu bs d m om,ce]
 have hT:=Jw (n:=n) (d:=(d:Int)) (m:=m) om om;rw[Aa]at hT;have bG:∀x∈CU bs (d:Int) m,0<=x/\x<256:=λx hx=>by have:=hD.2 x (Iq (EG hx));omega
 obtain⟨F,hF⟩:∃F,CU bs (d:Int) m=F:=⟨_,rfl⟩;obtain⟨T,bC⟩:∃T,Am n (d:Int) m=T:=⟨_,rfl⟩;rw[hF]at al bG;rw[bC]at al hT;rw[hF,bC];have HF:=AA hF;have HU:=AA h;have HD:=AA hD;have HB:=AA hB;clear hF bC;obtain⟨q1,⟨q2,q3,q4,q5⟩,⟨q6,q7⟩,_⟩:=HC.out W (AH _ _);clear hO h hD hB b8 c7 cy s6 s7 cH ce;refine Hc func200 rfl ?_;simp only[ntmps200,Cw,Ao,Bw,Nat.reduceAdd,Nat.reduceSub,Dd,Dc,DX,Da,Av,CT];go_upto_region 1 with fail
 rw[<-hW];clear hW;go_upto_region 3 with(go_at_call 241;refine HR.out.mono ?_;rintro e w1 ⟨rfl,bA⟩)
 clear q1 q2 q3 q4 q5 q6 q7 HR;obtain⟨q1,⟨q2,q3,q4,q5⟩,⟨q6,q7⟩,q8,q9,bO,bN⟩:=HC.out w1 bA;have bv:=hm.1;have bZ:=hm.2;have cm:=AA q8;have cl:=AA q9;have bm:=AA bO;have aO:=AA bN;clear q8 q9 bO bN;go_upto_region 4 with fail
 go_wp2_with (go_at_call 242;refine(aid _ _ _).mono ?_;rintro e w' ⟨rfl,rfl⟩)
 obtain⟨I,aH⟩:∃X,X=((w1.alloc (.cells (sbQ nu Y wm b n c z d) 329)).alloc (.cells #[pointer (some ⟨w1.heap.size,0,none⟩)] 368)).alloc (.cells #[int i64 m] 3):=⟨_,rfl⟩;have b0:Bx w1.heap.size [.cells (sbQ nu Y wm b n c z d) 329,.cells #[pointer (some ⟨w1.heap.size,0,none⟩)] 368,.cells #[int i64 m] 3] I:=by rw[aH];exact(((Bx.nil _ w1).snoc _ rfl).snoc _ sm).snoc _ sm
 have aF:Bt w1 I:=by rw[aH];exact((AL w1 _).alloc sm _).alloc (by simp;omega) _
 have cB:I.heap.size=w1.heap.size+1+1+1:=by rw[aH];simp
 rw[show((w1.alloc (.cells #[int i64 nu,int i64 Y,int i64 wm,slice b n c,int i64 (z:Int),int i64 (d:Int)] 329)).alloc (.cells #[pointer (some ⟨w1.heap.size,0,none⟩)] 368)).alloc (.cells #[int i64 m] 3)=I from aH.symm];clear aH q1 q2 q3 q4 q5 q6 q7;have g4:SbX w1.heap.size nu Y wm b n c z d I:=b0 0 _ rfl;have b2:Boxed I (w1.heap.size+1) 368 (pointer (some ⟨w1.heap.size,0,none⟩)):=b0 1 _ rfl;have b3:Boxed I (w1.heap.size+1+1) 3 (int i64 m):=b0 2 _ rfl;have bY:w.heap.size+1+1+1+1<w1.heap.size:=by have:=bA.size;omega
 have aE:Bt w I:=aO.out.trans (aF.mono aO.out.size);have ca:Jh w I:=⟨aE.size,λk cs t f hk=>(aE.block k (KpL.lt (bl:=0) hk)).trans hk⟩;have b4:Boxed I (w.heap.size+1+1+1+1) 69 (slice none 0 0):=(aF.block _ om).trans bm.out;have cK:I.heap[w.heap.size]?=some (.cells #[pointer (some ⟨B,0,none⟩)] 88 (0,0)):=(aF.block _ om).trans cm.out;have cJ:I.heap[w.heap.size+1+1+1]?=some (.cells #[int i64 0,int i64 0] 247 (0,0)):=(aF.block _ om).trans cl.out;have bb:∀r,Cb (w.heap.size+1+1+1+1) I≠some r:=λr e=>by
  unfold Cb at e;rw[b4.cell]at e
  cases e
 have aC:=aew (g:=w1.heap.size) (q:=w1.heap.size+1+1) (p2:=w1.heap.size+1) (bl:=w.heap.size+1+1+1+1) nu Y wm z b n c d m bs 8 w I HD.out ca om om om ⟨⟨by omega,by omega,by omega⟩,by omega,by omega,by omega⟩ b4.lt b3 b2 g4 bb cD om ⟨s1,s2⟩ ⟨s3,bT⟩ hm;rw[HF.out,al]at aC;have cL:Hid (ndN fold wss z F (List.range T)=Bp fold wss z F):=by rw[Hid,<-al,abB z F.length (AC _),Hl]
 have cq:Hid (hsN fold wss Y (Y-wm+d) F z (List.range T)=Fs fold wss Y wm bs z d m):=by rw[Hid,<-al,aeT Y _ z F.length (AC _),Hl];unfold Fs;rw[HF.out,Aa]
 have cO:=AA bG;have cr:Hid (∀j,enN (Y-wm+d) F j<=4611686020574871551+900000+1/\-1000000<enN (Y-wm+d) F j):=λj=>by have:=aor (F:=F) (Y-wm+d) j;rw[al]at this;omega
 have ch:=AA cx;have co:Hid ((AB wss).length<=1000):=(abE hr).1;have cN:=AA (abE hr).2;obtain⟨p,hp⟩:∃p:Int,Y-wm+d=p:=⟨_,rfl⟩;rw[hp]at aC cq cr;obtain⟨g,hg⟩:∃g,w1.heap.size=g:=⟨_,rfl⟩;rw[hg]at aC cB g4 bY⊢;obtain⟨bl,bz⟩:∃k,w.heap.size+1+1+1+1=k:=⟨_,rfl⟩;rw[bz]at aC b4 bY⊢;have d5:T<=900000:=by omega
 clear b0 aF b2 b3 ca bb cm cl bm aO HC hg hp bG al bA cA hm;have cU:w.heap.size+1+1+1<bl:=by omega
 have de:=AA bz;clear bz
 apply NL rfl (enters_of func270 kr rfl) aC (PbN.lt om om) ?hSk KpN.t (KpN.b om om) (λ_=>rfl)
  (λa1 V=>amS bl I.heap.size (hsN fold wss Y p F z a1) V/\(∃d',SbX g nu Y wm b n c ((ndN fold wss z F a1:Nat):Int) d' V)/\Bt w V/\(I.heap.size<=V.heap.size/\V.heap[w.heap.size]?=some (.cells #[pointer (some ⟨B,0,none⟩)] 88 (0,0))/\V.heap[w.heap.size+1+1+1]?=some (.cells #[int i64 0,int i64 0] 247 (0,0))))
  (λ_ _ _=>False)
 case wA=>exact λ_ W=>W
 case hwA=>exact λx W=>AH _ _
 case hSk=>
  rintro xs V l o o' hl ho hc ⟨e,z',hG⟩;refine⟨e,z',?_⟩;unfold SbX at hG⊢;rw[Cm om];exact hG
 case hKg=>exact λx W hW=>KpN.of_below (AH _ _) om
 case hI=>exact BT.and (ag1 (AC _) om (λr W W' hr=>by rcases hr with rfl|⟨rfl,_⟩<;>omega) (hsN fold wss Y p F z)) (BT.and (SbX.owns om (λa1=>((ndN fold wss z F a1:Nat):Int))) (BT.and (BT.below om om (λr W W' hr=>by rcases hr with rfl|⟨rfl,_⟩<;>omega)) (BT.and (BT.size _ _ _) (BT.and (BT.block _ _ _ _ _ _ (λW W' hr=>by rcases hr with h|⟨h,_⟩<;>omega)) (BT.block _ _ _ _ _ _ (λW W' hr=>by rcases hr with h|⟨h,_⟩<;>omega))))))
 case hIx=>exact λ_ _ _ _ _ hs _ _=>hs
 case h0=>exact⟨⟨_,b4,BN _ _ _ _⟩,⟨_,g4⟩,aE,AC _,cK,cJ⟩
 case hassign=>
  intro l x W K C;unfold an4
  gi_wp2
  exact C
 case hbody=>
  rintro l a1 j Wb V d8 ⟨⟨v,hv,U⟩,⟨d',a6⟩,aI,cz,aw,au⟩ cT
  try dsimp only
  obtain⟨zc,az⟩:∃zc,ndN fold wss z F a1=zc:=⟨_,rfl⟩;have b6:zc<(AB wss).length:=by rw[<-az];exact aoR ch.out a1
  rw[az]at a6;obtain⟨cF,cE⟩:=alM cO.out j;obtain⟨cb,aY⟩:∃cb:Nat,byN F j=(cb:Int):=⟨(byN F j).toNat,by omega⟩;have bh:cb<256:=by omega
  obtain⟨d0,cZ⟩:=cr.out j;obtain⟨E,hE⟩:∃E,enN p F j=E:=⟨_,rfl⟩;obtain⟨y,hy⟩:∃y,EN fold wss zc (cb:Int)=y:=⟨_,rfl⟩;have bK:Hid (ndN fold wss z F (a1++[j])=y):=by rw[Hid,agY,az,aY,hy]
  have am:Hid (hsN fold wss Y p F z (a1++[j])=hsN fold wss Y p F z a1++(if Y<E then(CA wss y).map (λv=>((E,v):AF)) else [])):=by rw[Hid,acW,az,aY,hy,hE]
  have bv:=aj7 (fold:=fold) (ws:=wss) (F:=F) Y p a1 z ch.out;have bZ:(AB wss).length*a1.length<=1000*900000:=GR co.out om;obtain⟨Hp,bF⟩:∃X,hsN fold wss Y p F z a1=X:=⟨_,rfl⟩;rw[bF]at U bv am;obtain⟨m0,bw⟩:∃X,Hp.length=X:=⟨_,rfl⟩;have cX:m0<=900000000:=by omega
  obtain⟨x,hx⟩:∃x,(AB wss)[zc]?=some x:=⟨_,Ar b6⟩;have bu:=(KU (fold:=fold) hx (cb:Int));have bS:=(AP.1 bu.1).1;rw[hy]at bS;have b7:Dz wss (y:Int)=CA wss y:=by unfold Dz;rw[Lc ⟨by omega,by omega⟩,Aa]
  have KS:Hid (∀X,Bt w X->Calls ZP 243 #[pointer (some ⟨B,0,none⟩),int i64 (zc:Int),.int .u8 (cb:Int)] X λe w'=>e=.returned (.tuple #[int i64 (y:Int),bool true])/\Bt X w'):=λX hX=>by have h:=(HU.out.below hX).step (zc:Int) cb bh;rw[aju (HU.out.below hX).ok hx bh,bu.2,hy]at h;exact h
  obtain⟨nw,aW⟩:∃X,(CA wss y).length=X:=⟨_,rfl⟩;have cS:nw<=1000:=by rw[<-aW];exact AS (LL wss y) (by have:=co.out;omega)
  obtain⟨D,b1⟩:∃X,(CA wss y).map (λv=>((E,v):AF))=X:=⟨_,rfl⟩;rw[b1]at am;have KH:Hid (∀X,Bt w X->Calls ZP 244 #[pointer (some ⟨B,0,none⟩),int i64 (y:Int),int i64 E] X λe w'=>∃(a:Option Addr)(c:Nat),e=.returned (slice a nw c)/\Hts w' a nw D/\Bt X w'):=λX hX=>by have h:=(HU.out.below hX).hits (y:Int) E (by unfold I64;omega) (cN.out _);rw[b7,b1,aW]at h;exact h.mono λe w' ⟨a,c,h1,h2,h4,h3⟩=>⟨a,c,h1,h2,h3⟩
  have ct:Hid (D.length=nw):=by rw[Hid,<-b1,BP,aW]
  have KC:Hid (∀X,Bt V X->X.cell? ⟨w.heap.size,0,none⟩=some (pointer (some ⟨B,0,none⟩))):=λX hX=>by have h:=(hX.block _ (AD.1 aw).1).trans aw;simp[cell?,h]
  have bL:=AA bw;have db:=AA bF;unfold Ax at U;rw[bw]at U;obtain⟨av,cv,rfl,_,_⟩:=SlK.own U;have HV:=AA hv;have ay:=AA U;have b5:=AA a6;have ah:=AA aI;have cp:=AA aw;have aN:=AA au;have bi:=hv.lt;rw[hE,aY];obtain⟨⟨g0,g1,g2,g3,g4,g5⟩,f4,f5⟩:=a6.cells;have c0:=KC.out V (AH _ _);clear az b6 cF cE hE aY hy bv bZ bF bw hx bu bS b7 aW b1 hv U a6 aI aw au
  gi_wp2_with fail
  refine(callsIn_wide.2 (KS.out V ah.out)).mono ?_;rintro e w2 ⟨rfl,a2⟩;clear g0 g1 g2 g3 g4 g5 f4 f5 c0;have aB:=b5.out.below a2;obtain⟨⟨g0,g1,g2,g3,g4,g5⟩,f4,f5⟩:=aB.cells;obtain⟨W5,aj⟩:∃X,X=w2.setCell ⟨g,4,none⟩ (int i64 (y:Int)):=⟨_,rfl⟩;have cY:g<V.heap.size:=b5.out.lt;have aa:=BH w2 g 4 (int i64 (y:Int));rw[<-aj]at aa;have b9:SbX g nu Y wm b n c (y:Int) d' W5:=by rw[aj];exact aB.node _
  have bf:KpN bl g V W5:=by rw[aj];exact(KpN.of_below a2 bi).t (KpN.node om w2 _)
  have bV:Boxed W5 bl 69 (slice av m0 cv):=(aa.block bl (by have:=a2.size;omega) (λe=>by have:=AK e;omega)).trans ((a2.block bl bi).trans HV.out);have aD:W5.ownsRow I.heap.size 116 2 (slice av m0 cv) m0 (AV Hp):=(DJ ay.out a2).kept aa (.inr λe=>by have:=(BA ay.out g e).1;omega);have bj:Bt w W5:=by rw[aj];exact(ah.out.trans (a2.mono ah.out.size)).setCell (by show w.heap.size<=g;omega) _
  have be:W5.heap[w.heap.size]?=some (.cells #[pointer (some ⟨B,0,none⟩)] 88 (0,0)):=(aa.block _ (by have:=a2.size;omega) (λe=>by have:=AK e;omega)).trans ((a2.block _ om).trans cp.out);have bd:W5.heap[w.heap.size+1+1+1]?=some (.cells #[int i64 0,int i64 0] 247 (0,0)):=(aa.block _ (by have:=a2.size;omega) (λe=>by have:=AK e;omega)).trans ((a2.block _ om).trans aN.out);have bX:V.heap.size<=W5.heap.size:=by rw[aj];have:=a2.size;simpa[World.setCell]using this
  have bg:KeepsOthers V W5:=⟨bX,λk o ho hc=>by
   have hk:=(AD.1 ho).1;refine(aa.block k (by have:=a2.size;omega) (λe=>?_)).trans ((a2.block k hk).trans ho);have e':k=g:=AK e;have h:=b5.out;unfold SbX at h;rw[e',h]at ho
   cases ho
   cases hc⟩
  have ap:=AA b9;have aS:=AA bf;have ac:=AA bV;have aP:=AA aD;have s:=AA bj;have aq:=AA be;have aM:=AA bd;have aU:=AA bg;clear aa b9 bf bV aD bj be bd bg b5 HV ay ah cp aN KC KS aB
  by_cases aX:Y<E
  case neg=>
   have d1:decide (Y<E)=false:=by simpa using aX
   rw[Lb aX,Cx]at am
   gi_wp2
   rw[<-aj];refine⟨aU.out.from _,aS.out,⟨_,ac.out,?_⟩,⟨d',by rw[bK.out];exact ap.out⟩,s.out,by omega,aq.out,aM.out⟩;rw[am.out];unfold Ax;rw[bL.out];exact aP.out
  case pos=>
   have d1:decide (Y<E)=true:=by simpa using aX
   rw[Lc aX]at am
   gi_wp2
   rw[<-aj];clear g0 g1 g2 g3 g4 g5 f4 f5;refine aa4 (S:=DW I.heap.size bl W5) mixed kr ⟨λ_ _ _=>rfl,(by show I.heap.size<=W5.heap.size;omega)⟩ (λcd=>?_);obtain⟨W6,bB⟩:∃X,X=W5.drew:=⟨_,rfl⟩;have N:Bt W5 W6:=by rw[bB];exact AN W5 1
   rw[<-bB]at cd⊢;clear bB;have aJ:Hid (∀X,DW I.heap.size bl W5 X->X.cell? ⟨w.heap.size,0,none⟩=some (pointer (some ⟨B,0,none⟩))/\X.cell? ⟨g,4,none⟩=some (int i64 (y:Int))):=λX hX=>by have h1:=(hX.1 _ om om).trans aq.out;have h2:SbX g nu Y wm b n c (y:Int) d' X:=(hX.1 g om om).trans ap.out;exact⟨by simp[cell?,h1],h2.cells.1.2.2.2.2.1⟩
   refine tkB 1 aJ.out ?_;refine tkB 2 aJ.out ?_;refine tkB 3 aJ.out ?_;refine tkB 4 aJ.out ?_;refine tkB 5 aJ.out ?_;refine apE 0 6 (λK C=>?_) (λK C=>?_)
   ·have q3:Boxed W6 bl 69 (slice av m0 cv):=(N.block bl ac.out.lt).trans ac.out;have q2:=q3.cell;clear q3;go_simp;refine C.out _ _ cd (λ_=>?_);clear C K q2
    try simp only[pq]
    refine rdy 6 (λK C=>?_);go_simp
    go_at_call 244;refine(KH.out W6 (s.out.trans (N.mono s.out.size))).mono ?_;rintro e w7 ⟨a9,c9,rfl,aA,ai⟩
    refine C.out _ _ (⟨λk h1 _=>(N.trans (ai.mono N.size)).block k om,AS om (N.trans (ai.mono N.size)).size⟩) (λA=>?_);clear C K
    try simp only[pq]
    have Z:=N.trans (ai.mono N.size);have bJ:=AA aA;clear aA ai A;have A:DW I.heap.size bl W5 w7:=⟨λk h1 _=>Z.block k om,AS om Z.size⟩;have bI:Hid (Boxed w7 bl 69 (.slice av m0 cv)):=(Z.block bl ac.out.lt).trans ac.out;have ad:Hid (w7.ownsRow I.heap.size 116 2 (.slice av m0 cv) m0 (AV Hp)):=DJ aP.out Z;have ag:Hid (Bt w w7):=s.out.trans (Z.mono s.out.size);have aQ:Hid (w7.heap[w.heap.size]?=some (.cells #[.pointer (some ⟨B,0,none⟩)] 88 (0,0))):=(Z.block _ om).trans aq.out;have aL:Hid (w7.heap[w.heap.size+1+1+1]?=some (.cells #[.int .i64 0,.int .i64 0] 247 (0,0))):=(Z.block _ om).trans aM.out;have aK:Hid (SbX g nu Y wm b n c (y:Int) d' w7):=ap.out.below Z;have aT:Hid (KeepsOthers W5 w7):=⟨Z.size,λk o ho hc=>(Z.block k (AD.1 ho).1).trans ho⟩;have aR:Hid (KpN bl g V w7):=aS.out.t (KpN.of_below Z ac.out.lt);clear Z;refine rdy 7 (λK C=>?_);refine Mi kr ?_;refine NT _ _ _ 69 rfl I.heap.size 116 i0 (.agg #[.int .i64 0,.int .i64 0]) 2 16 underlying69 hi bR bQ bP rfl (by decide) _ m0 _ rfl ad.out a9 nw c9 (AV D) rfl bJ.out.1 (MC _) (by unfold maxLen;omega) om A.2 ?_;intro v' w8 a7 H aG;obtain⟨a8,c8,rfl,_,_⟩:=SlK.own a7;obtain⟨k1,k2,k3,k4,k5,k6,k7⟩:=acC (g:=g) bI.out ad.out H aG a7 om om om A.2;have bE:DW I.heap.size bl W5 w8:=⟨λk h1 h2=>(AQ w8 ⟨bl,0,none⟩ _ k h2).symm.trans ((k6 k h1 h2).trans (A.1 k h1 h2)),k7⟩;have bD:DW I.heap.size bl W5 (w8.setCell ⟨bl,0,none⟩ (.slice a8 (m0+nw) c8)):=⟨λk h1 h2=>(k6 k h1 h2).trans (A.1 k h1 h2),by simpa[World.setCell]using k7⟩;have bM:Hid (Bt w (w8.setCell ⟨bl,0,none⟩ (.slice a8 (m0+nw) c8))):=(ag.out.grown H ag.out.size (λj hj=>by have:=(BA ad.out j hj).1;omega)).setCell (by show w.heap.size<=bl;omega) _;refine C.out _ _ bE (λab=>?_);clear C K ab aG H;have d2:=k2.cell;have d3:=k2.frozen;have d4:=k2.lt;have K1:=AA k1;have K3:=AA k3;have K4:=AA k4;have K5:=AA k5;have K6:=AA k6;clear k1 k2 k3 k4 k5 k6
    try simp only[pq]
    refine rdy 8 (λK C=>?_);go_simp;refine C.out _ _ bD (λab=>?_);clear C K ab
    try simp only[pq]
    refine Vd kr ?_ _;refine Gn.normal ?_
    gi_wp2
    refine⟨((aU.out.from _).trans (aT.out.from _)).trans (K5.out.from _),aR.out.t K1.out,⟨_,K3.out,?_⟩,⟨d',?_⟩,bM.out,by simpa[World.setCell]using k7,(K6.out _ om om).trans aQ.out,(K6.out _ om om).trans aL.out⟩
    ·rw[am.out];unfold Ax;rw[List.length_append,bL.out,ct.out,JT];exact K4.out
    ·rw[bK.out];exact(K6.out g om om).trans aK.out
   ·go_simp
    go_at_call 244;refine(KH.out W6 (s.out.trans (N.mono s.out.size))).mono ?_;rintro e w7 ⟨a9,c9,rfl,aA,ai⟩
    have Z:=N.trans (ai.mono N.size);refine C.out _ _ ⟨λk h1 _=>Z.block k om,AS om Z.size⟩ (λA=>?_);clear C K
    try simp only[pq]
    have bJ:=AA aA;have q3:Boxed w7 bl 69 (slice av m0 cv):=(Z.block bl ac.out.lt).trans ac.out;have q2:=q3.cell;clear q3;refine rdy 0 (λK C=>?_);go_simp;refine C.out _ _ A (λ_=>?_);clear C K q2 aA ai A
    try simp only[pq]
    have A:DW I.heap.size bl W5 w7:=⟨λk h1 _=>Z.block k om,AS om Z.size⟩;have bI:Hid (Boxed w7 bl 69 (.slice av m0 cv)):=(Z.block bl ac.out.lt).trans ac.out;have ad:Hid (w7.ownsRow I.heap.size 116 2 (.slice av m0 cv) m0 (AV Hp)):=DJ aP.out Z;have ag:Hid (Bt w w7):=s.out.trans (Z.mono s.out.size);have aQ:Hid (w7.heap[w.heap.size]?=some (.cells #[.pointer (some ⟨B,0,none⟩)] 88 (0,0))):=(Z.block _ om).trans aq.out;have aL:Hid (w7.heap[w.heap.size+1+1+1]?=some (.cells #[.int .i64 0,.int .i64 0] 247 (0,0))):=(Z.block _ om).trans aM.out;have aK:Hid (SbX g nu Y wm b n c (y:Int) d' w7):=ap.out.below Z;have aT:Hid (KeepsOthers W5 w7):=⟨Z.size,λk o ho hc=>(Z.block k (AD.1 ho).1).trans ho⟩;have aR:Hid (KpN bl g V w7):=aS.out.t (KpN.of_below Z ac.out.lt);clear Z;refine rdy 7 (λK C=>?_);refine Mi kr ?_;refine NT _ _ _ 69 rfl I.heap.size 116 i0 (.agg #[.int .i64 0,.int .i64 0]) 2 16 underlying69 hi bR bQ bP rfl (by decide) _ m0 _ rfl ad.out a9 nw c9 (AV D) rfl bJ.out.1 (MC _) (by unfold maxLen;omega) om A.2 ?_;intro v' w8 a7 H aG;obtain⟨a8,c8,rfl,_,_⟩:=SlK.own a7;obtain⟨k1,k2,k3,k4,k5,k6,k7⟩:=acC (g:=g) bI.out ad.out H aG a7 om om om A.2;have bE:DW I.heap.size bl W5 w8:=⟨λk h1 h2=>(AQ w8 ⟨bl,0,none⟩ _ k h2).symm.trans ((k6 k h1 h2).trans (A.1 k h1 h2)),k7⟩;have bD:DW I.heap.size bl W5 (w8.setCell ⟨bl,0,none⟩ (.slice a8 (m0+nw) c8)):=⟨λk h1 h2=>(k6 k h1 h2).trans (A.1 k h1 h2),by simpa[World.setCell]using k7⟩;have bM:Hid (Bt w (w8.setCell ⟨bl,0,none⟩ (.slice a8 (m0+nw) c8))):=(ag.out.grown H ag.out.size (λj hj=>by have:=(BA ad.out j hj).1;omega)).setCell (by show w.heap.size<=bl;omega) _;refine C.out _ _ bE (λab=>?_);clear C K ab aG H;have d2:=k2.cell;have d3:=k2.frozen;have d4:=k2.lt;have K1:=AA k1;have K3:=AA k3;have K4:=AA k4;have K5:=AA k5;have K6:=AA k6;clear k1 k2 k3 k4 k5 k6
    try simp only[pq]
    refine rdy 8 (λK C=>?_);go_simp;refine C.out _ _ bD (λab=>?_);clear C K ab
    try simp only[pq]
    refine Vd kr ?_ _;refine Gn.normal ?_
    gi_wp2
    refine⟨((aU.out.from _).trans (aT.out.from _)).trans (K5.out.from _),aR.out.t K1.out,⟨_,K3.out,?_⟩,⟨d',?_⟩,bM.out,by simpa[World.setCell]using k7,(K6.out _ om om).trans aQ.out,(K6.out _ om om).trans aL.out⟩
    ·rw[am.out];unfold Ax;rw[List.length_append,bL.out,ct.out,JT];exact K4.out
    ·rw[bK.out];exact(K6.out g om om).trans aK.out
 case hstop=>exact λ_ _ _ _ _ _ h _=>h.elim
 case hdone=>
  rintro D zs V hD ⟨rfl,z',hG⟩ ⟨⟨v,hv,U⟩,⟨d2,a6⟩,aI,cz,aw,au⟩ cg;obtain⟨-,rfl⟩:=a6.same hG;rw[cq.out]at U;rw[cL.out]at a6;obtain⟨zf,bq⟩:∃X,Bp fold wss z F=X:=⟨_,rfl⟩;rw[bq]at a6;obtain⟨av,cv,rfl,_,_⟩:=SlK.own U;obtain⟨nl,bt⟩:∃X,(Fs fold wss Y wm bs z d m).length=X:=⟨_,rfl⟩;rw[bt]at hv U;obtain⟨dT,bx⟩:∃X:Int,(d:Int)+(T:Int)=X:=⟨_,rfl⟩;rw[bx]at a6;have ci:=AA bq;have cP:=AA bx;have cV:=AA bt;obtain⟨Dr,bH⟩:∃k,w.heap.size+1+1+1=k:=⟨_,rfl⟩;have cc:bl≠Dr:=by omega
  have cC:g≠Dr:=by omega
  have cf:D≠Dr:=by omega
  have bU:w.heap.size<=Dr:=by omega
  have d7:Dr<bl:=by omega
  have dd:=AA bH;rw[bH]at au⊢;clear bH;have KX:Hid (∀X,((∀k,k≠Dr->k≠bl->X.heap[k]?=V.heap[k]?)/\X.cell? ⟨bl,0,none⟩=some (slice av nl cv))->SbX g nu Y wm b n c (zf:Int) dT X):=λX hX=>(hX.1 g cC om).trans a6;have HV:=AA hv;have ay:=AA U;have aN:=AA au;have ah:=AA aI;have cu:=AA cg;clear U a6 hG aw au aI bq bx bt cg
  go_wp2_with fail
  refine Vb ?_;refine Va (S:=λX=>((∀k,k≠Dr->k≠bl->X.heap[k]?=V.heap[k]?)/\X.cell? ⟨bl,0,none⟩=some (slice av nl cv))) kr ⟨λ_ _ _=>rfl,hv.cell⟩ (λhS=>?_);obtain⟨V1,ak⟩:∃X,X=V.drew:=⟨_,rfl⟩;have ck:Hid (Boxed V1 bl 69 (slice av nl cv)):=by rw[ak];exact HV.out
  have bo:Hid (Ax V1 I.heap.size (slice av nl cv) (Fs fold wss Y wm bs z d m)):=by rw[ak];exact ay.out
  have bk:Hid (V1.heap[Dr]?=some (.cells #[int i64 0,int i64 0] 247 (0,0))):=by rw[ak];exact aN.out
  have bp:Hid (Bt w V1):=by rw[ak];exact ah.out.trans ((AN V 1).mono ah.out.size)
  have cw:Hid (V1.heap[D]?=some (.deferred (some []))):=by rw[ak];exact cu.out
  rw[<-ak]at hS⊢;clear ak hv HV ay aN ah cu;refine tkW 0 (v:=?_) ?_ ?_;rotate_left
  ·intro V J;have c2:=J.2;obtain⟨⟨g0,g1,g2,g3,g4,g5⟩,f4,f5⟩:=(KX.out V J).cells
   first|(go_simp;done)|(go_simp;with_reducible rfl)
  try simp only[pq]
  refine tkW 1 (v:=?_) ?_ ?_;rotate_left
  ·intro V J;have c2:=J.2;obtain⟨⟨g0,g1,g2,g3,g4,g5⟩,f4,f5⟩:=(KX.out V J).cells
   first|(go_simp;done)|(go_simp;with_reducible rfl)
  try simp only[pq]
  refine tkW 2 (v:=?_) ?_ ?_;rotate_left
  ·intro V J;have c2:=J.2;obtain⟨⟨g0,g1,g2,g3,g4,g5⟩,f4,f5⟩:=(KX.out V J).cells
   first|(go_simp;done)|(go_simp;with_reducible rfl)
  try simp only[pq]
  refine tkW 3 (v:=?_) ?_ ?_;rotate_left
  ·intro V J;have c2:=J.2;obtain⟨⟨g0,g1,g2,g3,g4,g5⟩,f4,f5⟩:=(KX.out V J).cells
   first|(go_simp;done)|(go_simp;with_reducible rfl)
  try simp only[pq]
  refine tkW 4 (v:=?_) ?_ ?_;rotate_left
  ·intro V J;have c2:=J.2;obtain⟨⟨g0,g1,g2,g3,g4,g5⟩,f4,f5⟩:=(KX.out V J).cells
   first|(go_simp;done)|(go_simp;with_reducible rfl)
  try simp only[pq]
  refine tkW 5 (v:=?_) ?_ ?_;rotate_left
  ·intro V J;have c2:=J.2;obtain⟨⟨g0,g1,g2,g3,g4,g5⟩,f4,f5⟩:=(KX.out V J).cells
   first|(go_simp;done)|(go_simp;with_reducible rfl)
  try simp only[pq]
  refine tkW 6 (v:=?_) ?_ ?_;rotate_left
  ·intro V J;have c2:=J.2;obtain⟨⟨g0,g1,g2,g3,g4,g5⟩,f4,f5⟩:=(KX.out V J).cells
   first|(go_simp;done)|(go_simp;with_reducible rfl)
  try simp only[pq]
  refine tkW 7 (v:=?_) ?_ ?_;rotate_left
  ·intro V J;have c2:=J.2;obtain⟨⟨g0,g1,g2,g3,g4,g5⟩,f4,f5⟩:=(KX.out V J).cells
   first|(go_simp;done)|(go_simp;with_reducible rfl)
  try simp only[pq]
  refine tkW 8 (v:=?_) ?_ ?_;rotate_left
  ·intro V J;have c2:=J.2;obtain⟨⟨g0,g1,g2,g3,g4,g5⟩,f4,f5⟩:=(KX.out V J).cells
   first|(go_simp;done)|(go_simp;with_reducible rfl)
  try simp only[pq]
  refine tkW 9 (v:=?_) ?_ ?_;rotate_left
  ·intro V J;have c2:=J.2;obtain⟨⟨g0,g1,g2,g3,g4,g5⟩,f4,f5⟩:=(KX.out V J).cells
   first|(go_simp;done)|(go_simp;with_reducible rfl)
  try simp only[pq]
  refine tkW 10 (v:=?_) ?_ ?_;rotate_left
  ·intro V J;have c2:=J.2;obtain⟨⟨g0,g1,g2,g3,g4,g5⟩,f4,f5⟩:=(KX.out V J).cells
   first|(go_simp;done)|(go_simp;with_reducible rfl)
  try simp only[pq]
  have ae:=bk.out;have r0:V1.cell? ⟨Dr,0,none⟩=some (int i64 0):=by simp[cell?,ae]
  have r1:V1.cell? ⟨Dr,1,none⟩=some (int i64 0):=by simp[cell?,ae]
  have r2:V1.frozen? ⟨Dr,0,none⟩=false:=by simp[frozen?,ae]
  have r3:V1.frozen? ⟨Dr,1,none⟩=false:=by simp[frozen?,ae]
  have aV:=apy (u0:=int i64 (zf:Int)) (u1:=int i64 dT) ae;clear ae;refine rdy 11 (λK C=>?_);go_simp;obtain⟨V2,aZ⟩:∃X,X=(V1.setCell ⟨Dr,0,none⟩ (int i64 (zf:Int))).setCell ⟨Dr,1,none⟩ (int i64 dT):=⟨_,rfl⟩;rw[<-aZ]at aV⊢;have af:∀k,k≠Dr->V2.heap[k]?=V1.heap[k]?:=λk hk=>by rw[aZ];exact(AQ _ ⟨Dr,1,none⟩ _ k hk).trans (AQ V1 ⟨Dr,0,none⟩ _ k hk)
  have ar:Boxed V2 bl 69 (slice av nl cv):=(af bl cc).trans ck.out;have cR:Hid (Bt w V2):=by rw[aZ];exact(bp.out.setCell bU _).setCell bU _
  have cM:Hid (V2.heap[Dr]?=some (.cells #[int i64 (zf:Int),int i64 dT] 247 (0,0))):=aV.1;have cn:Hid (Ax V2 I.heap.size (slice av nl cv) (Fs fold wss Y wm bs z d m)):=by have h:=bo.out;unfold Ax at h⊢;exact h.kept aV.2 (.inr (λe=>by have:=(BA h _ e).1;omega))
  have cQ:Hid (V2.heap[D]?=some (.deferred (some []))):=(af D cf).trans cw.out;refine C.out _ _ ⟨λk h1 h2=>(af k h1).trans (hS.1 k h1 h2),ar.cell⟩ (λcG=>?_);clear C K r0 r1 r2 r3 aV af aZ ck bo bk bp cw hS
  try simp only[pq]
  have c2:=ar.cell;have c3:=ar.lt;have c4:=ar.frozen;have bW:=ar.set (slice av nl cv);have cj:=AA bW;clear bW ar;refine rdy 12 (λK C=>?_);go_simp;refine C.out _ _ ⟨λk h1 h2=>(AQ V2 ⟨bl,0,none⟩ _ k h2).trans (cG.1 k h1 h2),cj.out.cell⟩ (λd6=>?_);clear C K c2 c3 c4
  try simp only[pq]
  refine tkA 13 ?_;refine Vd kr ?_ _;refine At ?_;obtain⟨V3,ax⟩:∃X,X=V2.setCell ⟨bl,0,none⟩ (slice av nl cv):=⟨_,rfl⟩;have x1:V3.heap[D]?=some (.deferred (some [])):=by rw[ax];exact(AQ V2 ⟨bl,0,none⟩ _ D (by show D≠bl;omega)).trans cQ.out
  have x2:V3.heap[Dr]?=some (.cells #[int i64 (zf:Int),int i64 dT] 247 (0,0)):=by rw[ax];exact(AQ V2 ⟨bl,0,none⟩ _ Dr (Ne.symm cc)).trans cM.out
  have x3:Bt w V3:=by rw[ax];exact cR.out.setCell (by show w.heap.size<=bl;omega) _
  have x4:Ax V3 I.heap.size (slice av nl cv) (Fs fold wss Y wm bs z d m):=by rw[ax];have h:=cn.out;unfold Ax at h⊢;exact h.kept (BH V2 bl 0 _) (.inr (λe=>by have:=(BA h _ e).1;omega))
  have x5:Boxed V3 bl 69 (slice av nl cv):=by rw[ax];exact cj.out
  have cI:D≠bl:=by omega
  go_wp2;rw[<-ax];refine Gg rfl x1 (aah rfl rfl rfl ((Cm (Ne.symm cf)).trans x2) ((BC (a:=⟨bl,0,none⟩) (Cm (Ne.symm cI))).trans x5.cell)) ⟨slice av nl cv,?_,?_,FZ x3 om (AC _) _⟩
  ·rw[ci.out,cP.out]
   rfl
  ·have h:=abM x4 (show w.heap.size<=I.heap.size by omega);unfold Ax at h⊢;refine h.kept (grownBy_putObj' V3 D _) ?_
   rcases x4.2 with⟨e0,_⟩|⟨g',cap,d9,e0,_,c6,_⟩
   ·rw[e0];exact .inl rfl
   ·refine .inr λe=>?_;rw[e0]at e;have e':g'=D:=by simpa[Value.ownBlock]using e
    rw[e',x1]at c6
    cases c6
end
def slZ(fold:Bool)(wss:La)(Y wm:Int)(Z:List Int)(z d m:Int):Int:=if DI fold wss Y wm Z.length z d=true then((Bp fold wss z.toNat (CU Z d m):Nat):Int) else z
def slD(fold:Bool)(wss:La)(Y wm:Int)(Z:List Int)(z d m:Int):Int:=if DI fold wss Y wm Z.length z d=true then d+((Am Z.length d m:Nat):Int) else d
def slH(fold:Bool)(wss:La)(Z wm:Int)(Y:List Int)(z d m:Int):List AF:=if DI fold wss Z wm Y.length z d=true then Fs fold wss Z wm Y z d m else []
def slO(fold:Bool)(wss:La)(Y wm:Int)(Z:List Int)(z d m:Int):Bool:=if DI fold wss Y wm Z.length z d=true then decide (d+((Am Z.length d m:Nat):Int)=(Z.length:Int)) else false
section
variable {fold:Bool}{wss:La}
theorem NP{Z wm:Int}{n:Nat}{z d:Int}(h:DI fold wss Z wm n z d=true):An fold wss=true/\Dh (Au wss) Z wm n=true/\(0<=z/\z<((AB wss).length:Int))/\0<=d/\d<=(n:Int):=by unfold DI at h;rw[Bq,Bq,Bq]at h;obtain⟨⟨⟨h1,h2⟩,h3⟩,h4⟩:=h;unfold KA at h2;have h2:=Lj h2;have h4:=Lj h4;exact⟨h1,h3,h2.1,h4⟩
theorem akC(Y:An fold wss=true)(Z wm:Int)(n:Nat)(z d:Int):KK (AB wss).length (Au wss) Z wm n z d=DI fold wss Z wm n z d:=by
 unfold DI KK KA;rw[Y,FJ,Db];simp only[Bq,decide_eq_true_eq]
 constructor
 ·rintro⟨h1,h2⟩;exact⟨⟨⟨h2.1,by omega⟩,h1⟩,h2.2⟩
 ·rintro⟨⟨h1,h2⟩,h3⟩;exact⟨h2,h1.1,h3⟩
end
structure aoP(W:World)(p:Option Addr)(fold:Bool)(wss:La):Prop where
 right:∀V,Bt W V->∀(nu st wm:Int)(b:Option Addr)(n c:Nat)(z d:Int),n<=900000->Calls ZP 241 #[pointer p,.agg (blV nu st wm b n c),prV z d] V λe w'=>e=.returned (bool (DI fold wss st wm n z d))/\Bt V w'
 slice:∀V,Below W.heap.size W V->∀(nu st wm:Int) (b:Option Addr) (n c:Nat) (bs:List Int) (z d m:Int),Bys V b n bs->n<=900000->(-9223372036854775808<=m/\m<=9223372036854775807)->
  Calls ZP 200 #[pointer p,.agg (blV nu st wm b n c),prV z d,int i64 m] V λe w'=>∃v,e=.returned (.tuple #[prV (slZ fold wss st wm bs z d m) (slD fold wss st wm bs z d m),v,bool (slO fold wss st wm bs z d m)])/\Ax w' V.heap.size v (slH fold wss st wm bs z d m)/\Bt V w'
theorem afe{p:Option Addr}{fold:Bool}{wss:La}(X Z wm:Int)(b:Option Addr)(n c:Nat)(Y:List Int)(z d m:Int)(V:World)(H:Bys V b n Y)(N:DI fold wss Z wm n z d=false)
  (I:∀W,Bt V W->Calls ZP 241 #[pointer p,.agg (blV X Z wm b n c),prV z d] W λe w'=>e=.returned (bool false)/\Bt W w') :
  Calls ZP 200 #[pointer p,.agg (blV X Z wm b n c),prV z d,int i64 m] V λe w'=>∃v,e=.returned (.tuple #[prV (slZ fold wss Z wm Y z d m) (slD fold wss Z wm Y z d m),v,bool (slO fold wss Z wm Y z d m)])/\Ax w' V.heap.size v (slH fold wss Z wm Y z d m)/\Bt V w':=by
 have U:Y.length=n:=H.len;unfold slZ slD slH slO;rw[U,N];refine(aio p X Z wm b n c z d m V I).mono ?_;rintro e w' ⟨rfl,J⟩;simp only[Bool.false_eq_true,if_false];exact⟨_,rfl,BN _ _ _ _,J⟩
theorem ahf{s W:World}{B:Nat}{fold:Bool}{wss:La}(I:ET s B fold wss W)(U:An fold wss=true):aoP W (some ⟨B,0,none⟩) fold wss:=by
 refine⟨λV N Y Z wm b n c z d A=>?_,λV N Y Z wm b n c C z d m D A y=>?_⟩
 ·rw[<-akC U];exact aao Y Z wm b n c z d V (I.below N) om
 ·cases X:DI fold wss Z wm n z d with
  |false=>
   refine afe Y Z wm b n c C z d m V D X (λx J=>?_);have h:=aao Y Z wm b n c z d x ((I.below N).below J) om
   rwa[akC U,X]at h
  |true=>
   have H:C.length=n:=D.len;unfold slZ slD slH slO;rw[H,X];obtain⟨h1,h2,⟨h3,h4⟩,h5,h6⟩:=NP X;obtain⟨z,rfl⟩:∃k:Nat,z=(k:Int):=⟨z.toNat,by omega⟩;obtain⟨d,rfl⟩:∃k:Nat,d=(k:Int):=⟨d.toNat,by omega⟩;simp only[if_true,Aa];exact afi Y Z wm b n c z d m C V (I.below N) D A U y (by rw[akC U,X])
def scF(fold:Bool)(wss:La)(S:Nat)(st wm:Nat)(bs:List Int)(z d:Nat):Nat×Nat×List AF×Bool:=((slZ fold wss st wm bs z d S).toNat,(slD fold wss st wm bs z d S).toNat,slH fold wss st wm bs z d S,slO fold wss st wm bs z d S)
section
variable {fold:Bool}{wss:La}{S st wm z d:Nat}{bs:List Int}{c:CfM}
theorem ap8:((scF fold wss S st wm bs z d).1:Int)=slZ fold wss st wm bs z d S:=by
 show(((slZ fold wss st wm bs z d S).toNat:Nat):Int)=_;unfold slZ
 split<;>omega
theorem aoS:((scF fold wss S st wm bs z d).2.1:Int)=slD fold wss st wm bs z d S:=by
 show(((slD fold wss st wm bs z d S).toNat:Nat):Int)=_;unfold slD
 split<;>omega
theorem ap3{q B:Nat}{Wm:World}(I:Hj q B fold wss Wm)(Y:An fold wss=true)(U:c.scan=scF fold wss c.S)(C:c.S<=256)(V:World)(N:Fk q Wm V):Nz B c V:=by intro Z st wm b n D bs z d H X;have J:ET V B fold wss V:=(I.kept N).use;refine((ahf J Y).slice V (AH _ _) Z st wm b n D bs z d c.S H X om).mono ?_;rintro e w' ⟨v,rfl,h1,h2⟩;rw[U];exact⟨v,by rw[ap8,aoS];rfl,h1,h2⟩
theorem ap2{q B L:Nat}{Wm:World}(X:Hj q B fold wss Wm)(Y:Au wss=(L:Int))(V:World)(Z:Fk q Wm V):Calls ZP 95 #[pointer (some ⟨B,0,none⟩)] V λe w'=>e=.returned (int i64 (L:Int))/\V=w':=by rw[<-Y];exact(X.kept Z).use.longest
theorem ao2(V:c.scan=scF fold wss c.S)(Y:(AB wss).length<=400):ML c 400 (c.K+c.wm):=by
 intro st wm bs z d U X;rw[V];unfold scF slD slH;dsimp only
 split
 ·rename_i h
  obtain⟨_,_,⟨h1,h2⟩,h3,h4⟩:=NP h;have Z:=Jw (n:=bs.length) (d:=(d:Int)) (m:=(c.S:Int)) h3 h4;rw[Aa]at Z;have e:((d:Int)+((Am bs.length d c.S:Nat):Int)).toNat=d+Am bs.length d c.S:=by omega
  rw[e];refine⟨by omega,by omega,?_⟩;unfold Fs Dj;refine AS (List.length_filter_le _ _) (AS (Mx _ _ _ om) (GR Y ?_));unfold CU;rw[Ag];omega
 ·rw[Aa];exact⟨AC _,X,AR _⟩
end
theorem aiv:(ZP.info? 32).map (λi=>(i.zero,i.size,i.bytes))=some (some (slice none 0 0),1,24):=by kernel_rfl
theorem aoQ{n i:Nat}(h2:n<=1000000)(h:i<n):wrap64 ((i:Int)+1)=((i+1:Nat):Int):=by unfold wrap64;omega
structure NwS(base S:Nat)(tv:Value)(vs:List TVw)(rs:La)(br:Bool)(w:World):Prop where
 box:w.heap[S]?=some (.cells #[tv,bool br,int i64 0] 186 (0,0))
 inX:base<=S
 row:w.ownsRow base 32 1 tv rs.length (vs.map svW)
 tS:tv.ownBlock≠some S
 len:vs.length=rs.length
 el:∀(i:Nat)(v:TVw)(xs:List Int),vs[i]?=some v->rs[i]?=some xs->Bys w v.1 v.2.1 xs/\v.2.1<=v.2.2/\∀q,v.1=some q->base<=q.block/\q.block<w.heap.size/\q.block≠S/\tv.ownBlock≠some q.block
section
variable {base S:Nat}{tv:Value}{vs:List TVw}{rs:La}{br:Bool}{w D:World}
theorem NwS.keep(h:NwS base S tv vs rs br w)(Z:Bt w D):NwS base S tv vs rs br D:=by refine⟨(Z.block _ (AD.1 h.box).1).trans h.box,h.inX,DJ h.row Z,h.tS,h.len,λi v xs X Y=>?_⟩;obtain⟨h1,h2,h3⟩:=h.el i v xs X Y;exact⟨h1.below Z,h2,λq e=>let⟨g1,g2,g3⟩:=h3 q e;⟨g1,Af g2 Z.size,g3⟩⟩
theorem NwS.src(h:NwS base S tv vs rs br w):∃a c,BY (λk=>base<=k) S a rs.length c vs rs br 0 w:=by
 obtain⟨a,c,rfl,H,U⟩:=SlK.own h.row;refine⟨a,c,h.box,h.inX,⟨h.len,?_⟩,λh0 q N=>?_,h.len,H,λi v xs V X=>?_⟩
 ·rcases U.2 with h|⟨b,off,e,J,Z⟩
  ·exact .inl h
  ·exact .inr ⟨b,off,e,J,λi x I=>Z i _ (by rw[BU,I];rfl)⟩
 ·subst N
  rcases h.row.2 with⟨e,C⟩|⟨g,cap,Y,e,h1,h2,_⟩
  ·cases e
  ·cases e
   exact⟨h1,λe=>h.tS (by rw[<-e];rfl),Y,h2⟩
 ·obtain⟨h1,h2,h3⟩:=h.el i v xs V X;refine⟨h1,h2,λ_ q e=>?_⟩;obtain⟨z,j,A,B⟩:=h3 q e;exact⟨z,A,λq' s y=>B (by rw[s,y];rfl)⟩
theorem NwS.app(h:NwS base S tv vs rs br D)(x:List Int)(hx:∀y∈x,0<=y/\y<=255){Z:World}{v:TVw}(ho:Z.ownsRow D.heap.size 5 1 (svW v) x.length (x.map (Value.int .u8)))(hb:Bt D Z)(hn:rs.length<=1000000) :∃I c1 X,(Builtin.append_ #[22,22] 22 #[tv,.slice (some ⟨Z.heap.size,0,none⟩) 1 1]).run ZP (Z.alloc (.cells #[svW v] 32))=.ok (.slice I (rs.length+1) c1) X/\X.frozen? ⟨S,0,none⟩=false/\X.cell? ⟨S,0,none⟩=some tv/\
   NwS base S (slice I (rs.length+1) c1) (vs++[v]) (rs++[x]) br (X.setCell ⟨S,0,none⟩ (slice I (rs.length+1) c1))/\Below base D (X.setCell ⟨S,0,none⟩ (slice I (rs.length+1) c1)):=by
 obtain⟨i0,hi,af,ae,ad⟩:=Ve aiv;obtain⟨A,hA⟩:∃A,A=Z.alloc (.cells #[svW v] 32):=⟨_,rfl⟩;have J:Bt Z A:=by rw[hA];exact AL _ _
 have ao:A.heap.size=Z.heap.size+1:=by rw[hA];simp
 have ac:Bt D A:=hb.trans (J.mono hb.size);have ar:=(AD.1 h.box).1;have h5:=h.keep hb;have ag:SlK 1 A (some ⟨Z.heap.size,0,none⟩) 1 [svW v]:=by
  have hx:A.heap[Z.heap.size]?=some (.cells #[svW v] 32 (0,0)):=by rw[hA];exact AT _ _
  refine⟨rfl,.inr ⟨_,0,rfl,by omega,λi u hu=>?_⟩⟩;have e:A.cell? ⟨Z.heap.size,0+i,none⟩=(#[svW v]:Array Value)[0+i]?:=by simp only[cell?,hx];simp
  rw[e,DD];show(List.toArray [svW v])[i]?=some u;rw[Dy];exact hu
 have a6:=DJ h5.row J;rw[<-hA];obtain⟨v1,X,hr,a7,j,ab⟩:=Gu (P:=ZP) A base 22 22 32 i0 (.slice none 0 0) 1 24 underlying22 hi af ae ad rfl (by decide) tv rs.length (vs.map svW) a6 (some ⟨Z.heap.size,0,none⟩) 1 1 [svW v] ag (by simp[Value.oneCell',svW]) (by unfold maxLen;omega) om (by have:=h.inX;have:=ac.size;omega);obtain⟨I,c1,rfl,_,_⟩:=SlK.own a7;have aa:=j.size;have au:=hb.size;have Y:∀k,k<Z.heap.size->tv.ownBlock≠some k->X.heap[k]?=Z.heap[k]?:=λk hk H=>(j.block k om (λe=>H e.symm)).trans (J.block k hk);have a2:X.heap[S]?=some (.cells #[tv,.bool br,.int .i64 0] 186 (0,0)):=(Y S om h.tS).trans h5.box;have s:∀g,(Value.slice I (rs.length+1) c1).ownBlock=some g->tv.ownBlock=some g∨g=A.heap.size:=λg e=>by
  rcases ab with V|V
  ·rw[V]at e;exact .inl e
  ·rw[V]at e;exact .inr (AK e).symm
 have C:(slice I (rs.length+1) c1).ownBlock≠some S:=λe=>by
  rcases s S e with V|V
  ·exact h.tS V
  ·omega
 have N:∀k,k≠S->(X.setCell ⟨S,0,none⟩ (slice I (rs.length+1) c1)).heap[k]?=X.heap[k]?:=λk hk=>AQ X ⟨S,0,none⟩ _ k hk;have z:X.heap.size<=(X.setCell ⟨S,0,none⟩ (slice I (rs.length+1) c1)).heap.size:=by simp[World.setCell]
 have B:∀g,tv.ownBlock=some g->base<=g/\g<D.heap.size:=λg e=>Gw h.row g e;refine⟨I,c1,X,hr,by simp[frozen?,a2],by simp[cell?,a2],⟨AJ (i:=0) a2 _,h.inX,?_,C,by simp[h.len],λi v' xs hv U=>?_⟩,?_⟩
 ·rw[List.length_append,Aj];exact Fu a7 λg aj=>N g λe=>C (by rw[<-e];exact aj)
 ·by_cases a8:i<vs.length
  ·rw[By a8]at hv;rw[By (by rw[<-h.len];exact a8)]at U;obtain⟨h1,h2,h3⟩:=h5.el i v' xs hv U;obtain⟨_,_,am⟩:=h.el i v' xs hv U;refine⟨h1.same (AS (AS J.size aa) z) λh0 q e=>?_,h2,λq e=>?_⟩
   ·obtain⟨g1,g2,g3,g4⟩:=h3 q e;exact(N _ g3).trans (Y _ g2 g4)
   ·obtain⟨g1,g2,g3,g4⟩:=am q e;refine⟨g1,by omega,g3,λV=>?_⟩
    rcases s _ V with e3|e3
    ·exact g4 e3
    ·omega
  ·obtain rfl:i=vs.length:=by
    have:=(AP.1 hv).1;simp at this;omega
   rw[DY (AC _),FG]at hv;rw[h.len,DY (AC _),FG]at U
   cases AK hv
   cases AK U
   have ai:=Gw ho;obtain⟨a5,c5,ev,aq,ah⟩:=SlK.own ho;have e1:=congrArg (λu=>match u with|slice a _ _=>a|_=>none) ev;have V:=congrArg (λu=>match u with|slice _ n _=>n|_=>0) ev;have e3:=congrArg (λu=>match u with|slice _ _ c=>c|_=>0) ev;dsimp only[svW]at e1 V e3;have hq:∀q,v.1=some q->D.heap.size<=q.block/\q.block<Z.heap.size:=λq e=>ai _ (by rw[ev,<-e1,e];rfl);have H:∀q,v.1=some q->tv.ownBlock≠some q.block:=λq e e4=>by have:=hq q e;have:=B _ e4;omega
   have al:Bys Z v.1 v.2.1 x:=by
    refine⟨⟨V.symm,?_⟩,hx⟩;rw[e1,V]
    rcases ah.2 with h|⟨b,off,e,hl,ak⟩
    ·exact .inl h
    ·exact .inr ⟨b,off,e,hl,λi x hi=>ak i _ (by rw[BU,hi];rfl)⟩
   refine⟨al.same (AS (AS J.size aa) z) λh0 q e=>?_,by omega,λq e=>?_⟩
   ·have:=hq q e;exact(N _ om).trans (Y _ this.2 (H q e))
   ·have h7:=hq q e;have h8:=h.inX;refine⟨by omega,by omega,by omega,λV=>?_⟩
    rcases s _ V with e3|e3
    ·exact H q e e3
    ·omega
 ·have hX:Chg (λk=>base<=k) D (X.setCell ⟨S,0,none⟩ (slice I (rs.length+1) c1)):=((Chg.of_same ac).grown j λg e _=>(B g e).1).set h.inX;exact hX.below (by have:=h.inX;omega) λk hk ap=>by omega
theorem NwS.new{base:Nat}{br:Bool}{w:World}{S:Nat}(hB:w.heap[S]?=some (.cells #[slice none 0 0,bool br,int i64 0] 186 (0,0)))(h:base<=S):NwS base S (slice none 0 0) [] [] br w:=⟨hB,h,BN _ _ _ _,by simp[Value.ownBlock],rfl,λi v xs Z=>by simp at Z⟩
end
def aph(w:World)(a:Option Addr)(n:Nat)(vs:List TVw)(rs:La):Prop:=Sl1 svW w a n vs/\vs.length=rs.length/\∀(i:Nat)(v:TVw)(xs:List Int),vs[i]?=some v->rs[i]?=some xs->Bys w v.1 v.2.1 xs
theorem aiT(a:Option Addr)(n c:Nat)(vs:List TVw)(rs:La)(br:Bool)(w:World)(h:aph w a n vs rs)(hn:n<=1000000)(hl:∀x∈rs,x.length<=1000000) :Calls ZP 55 #[bool br,slice a n c] w λe w'=>∃S a' c' X,e=.returned (pointer (some ⟨S,0,none⟩))/\BY (λk=>w.heap.size<=k) S a' rs.length c' X rs br 0 w'/\Bt w w':=by
 have aa:rs.length=n:=by rw[<-h.2.1];exact h.1.1
 have H:=AA h;have HL:=AA hl;have HN:=AA aa;clear h hl aa;go_enter func55,ntmps55;go_upto_region 3 with fail
 obtain⟨W0,B⟩:∃W,W=w.alloc (.cells #[slice none 0 0,bool br,int i64 0] 186):=⟨_,rfl⟩;obtain⟨S,hS⟩:∃S,S=w.heap.size:=⟨_,rfl⟩;have V:Bt w W0:=by rw[B];exact AL _ _
 have U:∃tv X,NwS w.heap.size S tv X (rs.take 0) br W0:=⟨_,_,NwS.new (by rw[B,hS];exact AT _ _) om⟩;rw[<-B,<-hS];have HS:=AA hS;clear B hS;have ah:=AA U;have ai:=AA V;clear U V
 go_loopw[13] (λaj wr=>∃(i:Nat),i<=n/\aj=int i64 i/\Hid (∃tv X,NwS w.heap.size S tv X (rs.take i) br wr)/\Hid (Bt w wr)) (λs _=>n-(intOf s).toNat)
 case atStart=>exact⟨0,AR _,rfl,ah,ai⟩
 case round=>
  clear ah ai;obtain⟨i,ao,rfl,U,V⟩:=hrel
  by_cases ad:i<n
  ·have hd:decide ((i:Int)<n)=true:=by simp;omega
   have y:i<rs.length:=by rw[HN.out];exact ad
   have ac:i<vs.length:=by rw[H.out.2.1];exact y
   obtain⟨x,hx⟩:∃x,rs[i]?=some x:=⟨rs[i],Ar y⟩;obtain⟨v,hv⟩:∃v,vs[i]?=some v:=⟨vs[i],Ar ac⟩;have j:=H.out.2.2 i v x hv hx;obtain⟨b,o,rfl,ae,af⟩:=H.out.1.2.resolve_left om;have r0:wr.cell? ⟨b,o+i,none⟩=some (slice v.1 v.2.1 v.2.2):=(V.out.cell (p:=⟨b,o+i,none⟩) ae).trans (af i v hv);have ab:x.length<=1000000:=HL.out x (AX hx);have a6:v.2.1=x.length:=j.1.1.symm;have a8:rs.take (i+1)=rs.take i++[x]:=by rw[LH,hx];rfl
   have a7:(rs.take i).length=i:=by rw[Ag];omega
   obtain⟨tv,X,N⟩:=U.out;obtain⟨D,hD⟩:∃D,D=wr.drew:=⟨_,rfl⟩;have C:Bt wr D:=by rw[hD];exact AN wr 1
   have z:=N.keep C;have ag:=V.out.trans (C.mono V.out.size);have sD:D.cell? ⟨S,0,none⟩=some tv:=by simp[cell?,z.box]
   have J:Bys D v.1 v.2.1 x:=(j.below (V.out.mono (AC _))).below C;have HC:=AA (acP v.1 v.2.1 v.2.2 (x.map (Value.int .u8)) D (Jz J.1) (λu hu=>by obtain⟨x,_,rfl⟩:=Be.1 hu;rfl) om);rw[a6]at r0 HC;obtain⟨va,vn,vc⟩:=v;dsimp only at r0 HC;have HX:=AA (Lq J.2 (Lq ab (Lq a8 a7)));have ak:=AA z;have al:=AA ag;have i1:(0:Int)<=(i:Int):=by omega
   have i2:(i:Int)<(n:Int):=by omega
   have am:IntKind.i64.wrap ((i:Int)+1)=((i+1:Nat):Int):=by rw[BK];omega
   have a2:wrap64 ((i:Int)+1)=((i+1:Nat):Int):=aoQ hn ad;clear j af ae ab a6 a8 a7 N C z ag J hx hv y ac U;go_upto_region 5 with fail
   refine Vb ?_;refine Va (S:=λY=>True) kr trivial (λhHeld=>?_);rw[<-hD];clear hD;refine tkA 0 ?_;refine tkA 1 ?_;refine tkA 2 ?_;refine tkA 3 ?_;refine tkA 4 ?_;refine tkA 6 ?_;refine apE 5 7 (λK Z=>?_) (λK Z=>?_)
   focus
    go_simp;refine Z.out _ _ trivial (λh5=>?_);clear Z K
    try simp only[pq]
    refine rdy 7 (λK Z=>?_);go_simp
    go_at_call 104;refine HC.out.mono ?_;rintro e I ⟨v5,rfl,ho,hb⟩
    obtain⟨a5,c5,A,_,_⟩:=SlK.own ho;subst A;refine Z.out _ _ trivial (λh7=>?_);clear Z K
    try simp only[pq]
    have s5:I.cell? ⟨S,0,none⟩=some tv:=(hb.cell (p:=⟨S,0,none⟩) (DO D _ sD)).trans sD;have sA:(I.alloc (.cells #[slice a5 x.length c5] 32)).cell? ⟨S,0,none⟩=some tv:=((AL I _).cell (p:=⟨S,0,none⟩) (DO I _ s5)).trans s5;have HO:=AA ho;have HB:=AA hb;clear ho hb;refine rdy 8 (λK Z=>?_);go_simp;refine Z.out _ _ trivial (λh8=>?_);clear Z K
    try simp only[pq]
   rotate_left
   focus
    go_simp
    go_at_call 104;refine HC.out.mono ?_;rintro e I ⟨v5,rfl,ho,hb⟩
    obtain⟨a5,c5,A,_,_⟩:=SlK.own ho;subst A;refine Z.out _ _ trivial (λh7=>?_);clear Z K
    try simp only[pq]
    have s5:I.cell? ⟨S,0,none⟩=some tv:=(hb.cell (p:=⟨S,0,none⟩) (DO D _ sD)).trans sD;have sA:(I.alloc (.cells #[slice a5 x.length c5] 32)).cell? ⟨S,0,none⟩=some tv:=((AL I _).cell (p:=⟨S,0,none⟩) (DO I _ s5)).trans s5;have HO:=AA ho;have HB:=AA hb;clear ho hb;refine apE 5 8 (λK Z=>?_) (λK Z=>?_)
    focus
     go_simp;refine Z.out _ _ trivial (λh5=>?_);clear Z K
     try simp only[pq]
     refine rdy 8 (λK Z=>?_);go_simp;refine Z.out _ _ trivial (λh8=>?_);clear Z K
     try simp only[pq]
    rotate_left
    focus
     go_simp;refine Z.out _ _ trivial (λh8=>?_);clear Z K
     try simp only[pq]
     refine rdy 5 (λK Z=>?_);go_simp;refine Z.out _ _ trivial (λh5=>?_);clear Z K
     try simp only[pq]
   all_goals
    clear s5 sA sD;obtain⟨a1,c1,W1,hr,f1,k1,g1,g2⟩:=ak.out.app (v:=(a5,x.length,c5)) x HX.out.1 HO.out HB.out (by have:=HX.out.2.2.2;omega);have HR:=AA hr;have G1:Hid (∃tv X,NwS w.heap.size S tv X (rs.take (i+1)) br (W1.setCell ⟨S,0,none⟩ (slice a1 ((rs.take i).length+1) c1))):=⟨_,_,by rw[HX.out.2.2.1];exact g1⟩;have G2:=AA (al.out.trans g2);obtain⟨L,hL⟩:∃L,(rs.take i).length+1=L:=⟨_,rfl⟩;rw[hL]at HR G1 G2;clear g1 g2 hr hL HC;refine rdy 9 (λK Z=>?_);refine GU (.tmp 22) (.tmp 25) 22 rfl _ _ rfl rfl rfl HR.out ?_;refine Z.out _ _ trivial (λh9=>?_);clear Z K
    try simp only[pq]
    refine tkA 10 ?_;refine tkA 11 ?_;refine tkA 12 ?_;refine rdy 13 (λK Z=>?_);go_simp;refine Z.out _ _ trivial (λap=>?_);clear Z K
    try simp only[pq]
    refine Vd kr ?_ _;refine At ?_;go_wp2
    go_roundw
    case rel=>exact⟨i+1,by omega,by first|rfl|simp[a2],G1,G2⟩
    case measure=>(try simp only[a2]);simp[intOf];omega
  ·obtain rfl:i=n:=by omega
   have hd:decide ((i:Int)<i)=false:=by simp
   go_wp2;go_ret;obtain⟨tv,X,N⟩:=U.out;rw[<-HN.out,Hl]at N;obtain⟨a',c',hs⟩:=N.src;exact⟨S,a',c',X,rfl,hs,V.out⟩
theorem ahY:(ZP.info? 4).map (λi=>(i.zero,i.size,i.bytes))=some (some (bool false),1,1):=by kernel_rfl
theorem alz:(ZP.info? 5).map (λi=>(i.zero,i.size,i.bytes))=some (some (.int .u8 0),1,1):=by kernel_rfl
theorem al9:(ZP.info? 32).map (λi=>(i.zero,i.size,i.bytes))=some (some (slice none 0 0),1,24):=by kernel_rfl
theorem agf(z:Value)(n:Nat):madeCells #[z] n=(List.replicate n z).toArray:=by rw[<-toList_madeCells_one z n,Array.toArray_toList]
theorem apt{n i:Nat}(h2:n<=16)(h:i<n):wrap64 ((i:Int)+1)=((i+1:Nat):Int):=by unfold wrap64;omega
def frN(n i:Nat):List Int:=((List.range n).reverse.take i).map λx:Nat=>(x:Int)
theorem ao7(n:Nat):frN n n=(List.range n).reverse.map λx:Nat=>(x:Int):=by unfold frN;rw[Ap sm]
theorem al4{n i:Nat}(h:i<n):frN n (i+1)=frN n i++[(n:Int)-1-i]:=by
 unfold frN;have Z:i<(List.range n).reverse.length:=by simp;exact h
 rw[List.take_succ_eq_append_getElem Z,Aj];congr 1;simp;omega
theorem ao3(n i:Nat):(frN n i).length<=i:=by unfold frN;simp;omega
theorem BB.new{base U D B n size:Nat}{w:World}(N:w.heap[U]?=some (.cells (List.replicate n (bool false)).toArray 4 (0,0)))(J:w.heap[D]?=some (.cells (List.replicate n (slice none 0 0)).toArray 32 (0,0)))
  (hB:w.heap[B]?=some (.cells #[slice none 0 0,int i64 (size:Int),slice (some ⟨U,0,none⟩) n n,slice (some ⟨D,0,none⟩) n n] 210 (0,0))) (h1:base<=U) (h2:base<=D) (h3:base<=B) (h4:U≠D) (h5:U≠B) (h6:D≠B) :
  BB (λk=>base<=k) (λk=>if k=B then 1 else if k=U then 2 else 3) B U D (slice none 0 0) (List.replicate n (slice none 0 0)) size (frN n 0) (List.replicate n false) (List.replicate n []) w:=by
 have V:(List.replicate n false).length=n:=CS;refine⟨by rw[V];exact hB,by rw[List.map_replicate];exact N,J,⟨h3,h1,h2⟩,⟨Lc rfl,by rw[Lb h5,Lc rfl],by rw[Lb h6,Lb (Ne.symm h4)]⟩,⟨CO.nil _ _ _ _,λg Z=>by cases Z⟩,by simp,λi v xs X Y=>?_⟩;have H:=Ho (AX X);have I:=Ho (AX Y);subst H I;exact⟨CO.nil _ _ _ _,λg Z=>by cases Z⟩
theorem BB.room{X:Nat->Prop}{Y:Nat->Nat}{B U D size:Nat}{A:Value}{I:List Value}{fr:List Int}{us:List Bool}{n i cap:Nat}{cs:Array Value}{w:World}(h:BB X Y B U D A I size fr us (List.replicate n []) w)(hi:i<n)(a1:cs.size=cap)(C:cap<=1000) :∃Z J,BB (λk=>X k∨w.heap.size<=k) Z B U D A J size fr us (List.replicate n []) ((w.alloc (.cells cs 5)).setCell ⟨D,i,none⟩ (slice (some ⟨w.heap.size,0,none⟩) 0 cap))/\Chg X w ((w.alloc (.cells cs 5)).setCell ⟨D,i,none⟩ (slice (some ⟨w.heap.size,0,none⟩) 0 cap))/\(w.alloc (.cells cs 5)).frozen? ⟨D,i,none⟩=false/\(∃u,(w.alloc (.cells cs 5)).cell? ⟨D,i,none⟩=some u):=by
 have j:=h.dl;rw[CS]at j;have N:i<I.length:=by omega
 have s:(w.alloc (.cells cs 5)).heap[w.heap.size]?=some (.cells cs 5 (0,0)):=AT _ _;obtain⟨H,x,y,z⟩:=h.setD (v:=I[i]) (v':=slice (some ⟨w.heap.size,0,none⟩) 0 cap) (xs':=[]) (V:=w.alloc (.cells cs 5)) i (Ar N) ⟨rfl,.inr ⟨_,cap,cs,rfl,AR _,s,AR _,by unfold maxLen;omega,by omega,by simp⟩⟩ (.of_same (AL _ _)) (λg e=>.inr (by have:=AK e;exact Gq this));rw[List.set_replicate_self]at H;exact⟨_,_,H,x,y,z⟩
theorem alQ(n size:Nat)(w:World)(h1:1<=n)(h2:n<=16)(h3:1<=size)(h4:size<=288) :Calls ZP 96 #[int i64 (n:Int),int i64 (size:Int)] w λe w'=>∃B U D,e=.returned (.tuple #[pointer (some ⟨B,0,none⟩),int i64 0])/\DM (λk=>w.heap.size<=k) B U D size ((List.range n).reverse.map λx:Nat=>(x:Int)) (List.replicate n false) (List.replicate n []) w'/\Bt w w':=by
 have ai:∀V:World,(Instr.makeSlice 27 (int i64 n) (int i64 n)).run ZP V=.ok (slice (some ⟨V.heap.size,0,none⟩) n n) (V.alloc (.cells (List.replicate n (bool false)).toArray 4)):=λV=>by obtain⟨i0,hi,y,H,z⟩:=Ve ahY;have h:=run_makeSlice (P:=ZP) (w:=V) 27 4 i0 (.bool false) underlying27 hi y .i64 .i64 (n:Int) (n:Int) om om (by rw[H];omega) (by rw[z];omega) om;rw[H,Aa,Hk]at h;exact h.trans (by rw[<-agf];rfl)
 have aj:∀V:World,(Instr.makeSlice 22 (int i64 n) (int i64 n)).run ZP V=.ok (slice (some ⟨V.heap.size,0,none⟩) n n) (V.alloc (.cells (List.replicate n (slice none 0 0)).toArray 32)):=λV=>by obtain⟨i0,hi,y,H,z⟩:=Ve al9;have h:=run_makeSlice (P:=ZP) (w:=V) 22 32 i0 (.slice none 0 0) underlying22 hi y .i64 .i64 (n:Int) (n:Int) om om (by rw[H];omega) (by rw[z];omega) om;rw[H,Aa,Hk]at h;exact h.trans (by rw[<-agf];rfl)
 obtain⟨cs,a7⟩:∃cs:Array Value,cs=madeCells #[Value.int .u8 0] size:=⟨_,rfl⟩;have a6:∀V:World,(Instr.makeSlice 32 (int i64 0) (int i64 size)).run ZP V=.ok (slice (some ⟨V.heap.size,0,none⟩) 0 size) (V.alloc (.cells cs 5)):=λV=>by obtain⟨i0,hi,y,H,z⟩:=Ve alz;have h:=run_makeSlice (P:=ZP) (w:=V) 32 5 i0 (.int .u8 0) underlying32 hi y .i64 .i64 0 (size:Int) om om (by rw[H];omega) (by rw[z];omega) om;rw[H,Aa,Hk]at h;rw[a7];exact h
 have ab:cs.size=size:=by rw[a7,size_madeCells]
 have d0:decide ((n:Int)<1)=false:=by simp;omega
 have d1:decide ((n:Int) > 16)=false:=by simp;omega
 have aJ:decide ((16:Int)<(n:Int))=false:=by simp;omega
 have d2:decide (n<1)=false:=by simp;omega
 have d3:decide (16<n)=false:=by simp;omega
 have d4:decide (n=0)=false:=by simp;omega
 have f0:decide ((size:Int)<1)=false:=by simp;omega
 have f1:decide ((size:Int) > 288)=false:=by simp;omega
 have aI:decide ((288:Int)<(size:Int))=false:=by simp;omega
 have f2:decide (size<1)=false:=by simp;omega
 have f3:decide (288<size)=false:=by simp;omega
 have f4:decide (size=0)=false:=by simp;omega
 have a2:=AA (Lq h1 (Lq h2 (Lq h3 h4)));have ay:=AA (Lq a7 ab);have al:=AA a6;clear h1 h2 h3 h4 a7 ab a6;go_enter func96,ntmps96;go_upto_region 3 with fail
 go_region
 focus
  obtain⟨W,hW⟩:∃W,W=((w.alloc (.cells (Array.replicate n (bool false)) 4)).alloc (.cells (Array.replicate n (slice none 0 0)) 32)).alloc (.cells #[slice none 0 0,int i64 (size:Int),slice (some ⟨w.heap.size,0,none⟩) n n,slice (some ⟨w.heap.size+1,0,none⟩) n n] 210):=⟨_,rfl⟩;have hO:Bx w.heap.size [.cells (Array.replicate n (bool false)) 4,.cells (Array.replicate n (slice none 0 0)) 32,.cells #[slice none 0 0,int i64 (size:Int),slice (some ⟨w.heap.size,0,none⟩) n n,slice (some ⟨w.heap.size+1,0,none⟩) n n] 210] W:=by rw[hW];exact(((Bx.nil _ w).snoc _ rfl).snoc _ sm).snoc _ sm
  have J:Bt w W:=by rw[hW];exact((AL _ _).alloc sm _).alloc (by simp;omega) _
  have C:=hO 0 _ rfl;have a1:=hO 1 _ rfl;have j:=hO 2 _ rfl;rw[DQ]at C;rw[<-List.toArray_replicate]at C a1;have HS:Hid (∃Z N X,BB (λk=>w.heap.size<=k) Z (w.heap.size+1+1) (w.heap.size) (w.heap.size+1) N X size (frN n 0) (List.replicate n false) (List.replicate n []) W):=⟨_,_,_,BB.new (by assumption) (by assumption) j om om om om om om⟩;obtain⟨B,hB⟩:∃B,B=w.heap.size+1+1:=⟨_,rfl⟩;obtain⟨D,hD⟩:∃D,D=w.heap.size+1:=⟨_,rfl⟩;obtain⟨U,hU⟩:∃U,U=w.heap.size:=⟨_,rfl⟩;rw[<-hB,<-hD]at HS;have A:Hid (∃Z N X,BB (λk=>w.heap.size<=k) Z B U D N X size (frN n 0) (List.replicate n false) (List.replicate n []) W):=by rw[hU];exact HS
  have I:=AA J;rw[<-hW,<-hB,<-hD,<-hU]
  replace A:Hid (∃Z N X,BB (λk=>w.heap.size<=k) Z B U D N X size (frN n 0) (List.replicate n false) (List.replicate n []) W.drew):=by obtain⟨Z,N,X,h⟩:=A.out;exact⟨Z,N,X,h.keep (Y:=λ_=>False) (.of_same (AN W 1)) λ_ _ _ h=>h⟩
  replace I:Hid (Bt w W.drew):=I.out.trans ((AN W 1).mono I.out.size)
  clear hW hB hD hU J hO C a1 j HS ai aj
 rotate_left
 focus
  obtain⟨W,hW⟩:∃W,W=((w.alloc (.cells (Array.replicate n (slice none 0 0)) 32)).alloc (.cells (Array.replicate n (bool false)) 4)).alloc (.cells #[slice none 0 0,int i64 (size:Int),slice (some ⟨w.heap.size+1,0,none⟩) n n,slice (some ⟨w.heap.size,0,none⟩) n n] 210):=⟨_,rfl⟩;have hO:Bx w.heap.size [.cells (Array.replicate n (slice none 0 0)) 32,.cells (Array.replicate n (bool false)) 4,.cells #[slice none 0 0,int i64 (size:Int),slice (some ⟨w.heap.size+1,0,none⟩) n n,slice (some ⟨w.heap.size,0,none⟩) n n] 210] W:=by rw[hW];exact(((Bx.nil _ w).snoc _ rfl).snoc _ sm).snoc _ sm
  have J:Bt w W:=by rw[hW];exact((AL _ _).alloc sm _).alloc (by simp;omega) _
  have C:=hO 0 _ rfl;have a1:=hO 1 _ rfl;have j:=hO 2 _ rfl;rw[DQ]at C;rw[<-List.toArray_replicate]at C a1;have HS:Hid (∃Z N X,BB (λk=>w.heap.size<=k) Z (w.heap.size+1+1) (w.heap.size+1) (w.heap.size) N X size (frN n 0) (List.replicate n false) (List.replicate n []) W):=⟨_,_,_,BB.new (by assumption) (by assumption) j om om om om om om⟩;obtain⟨B,hB⟩:∃B,B=w.heap.size+1+1:=⟨_,rfl⟩;obtain⟨U,hD⟩:∃D,D=w.heap.size+1:=⟨_,rfl⟩;obtain⟨D,hU⟩:∃U,U=w.heap.size:=⟨_,rfl⟩;rw[<-hB,<-hD]at HS;have A:Hid (∃Z N X,BB (λk=>w.heap.size<=k) Z B U D N X size (frN n 0) (List.replicate n false) (List.replicate n []) W):=by rw[hU];exact HS
  have I:=AA J;rw[<-hW,<-hB,<-hD,<-hU]
  replace A:Hid (∃Z N X,BB (λk=>w.heap.size<=k) Z B U D N X size (frN n 0) (List.replicate n false) (List.replicate n []) W.drew):=by obtain⟨Z,N,X,h⟩:=A.out;exact⟨Z,N,X,h.keep (Y:=λ_=>False) (.of_same (AN W 1)) λ_ _ _ h=>h⟩
  replace I:Hid (Bt w W.drew):=I.out.trans ((AN W 1).mono I.out.size)
  clear hW hB hD hU J hO C a1 j HS ai aj
 all_goals
  go_upto_region 5 with fail
  go_loopw[30] (λam wr=>∃(i:Nat),i<=n/\am=int i64 i/\Hid (∃Z N X,BB (λk=>w.heap.size<=k) Z B U D N X size (frN n i) (List.replicate n false) (List.replicate n []) wr)/\Hid (Bt w wr)) (λs _=>n-(intOf s).toNat)
  case atStart=>exact⟨0,AR _,rfl,A,I⟩
  case round=>
   clear A I;obtain⟨i,aG,rfl,hS,J⟩:=hrel
   by_cases ad:i<n
   ·have hd:decide ((i:Int)<n)=true:=by simp;omega
    obtain⟨Z,N,X,hs⟩:=hS.out;have a8:=hs.box;rw[CS]at a8;have c3:wr.cell? ⟨B,3,none⟩=some (slice (some ⟨D,0,none⟩) n n):=by simp[cell?,a8]
    have ac:=hs.keep (Y:=λ_=>False) (.of_same (AN wr 1)) λ_ _ _ h=>h;have aa:=J.out.trans ((AN wr 1).mono J.out.size);obtain⟨Y,hY⟩:∃Y,Y=wr.drew:=⟨_,rfl⟩;have ao:wr.drewN 1=Y:=hY.symm;rw[ao]at ac aa;obtain⟨az,aw,q1,q2,q3,u,q4⟩:=ac.room ad ay.out.2 (by have:=a2.out;omega);have a6:=al.out;obtain⟨V,hV⟩:∃V,V=(Y.alloc (.cells cs 5)).setCell ⟨D,i,none⟩ (slice (some ⟨Y.heap.size,0,none⟩) 0 size):=⟨_,rfl⟩;rw[<-hV]at q1 q2;rw[hY]at q3 q4;have aA:=hs.inX.2.2;have ar:=(AD.1 hs.data).1;have ae:wr.heap[D]?=some (.cells X.toArray 32 (0,0)):=hs.data;have j1:wr.frozen? ⟨D,i,none⟩=false:=by simp[frozen?,ae]
    have ap:i<X.length:=by have:=hs.dl;simp at this;omega
    have j2:wr.cell? ⟨D,i,none⟩=some X[i]:=by simp[cell?,ae,ap]
    have av:=(AD.1 a8).1;have au:(wr.alloc (.cells cs 5)).cell? ⟨B,3,none⟩=some (slice (some ⟨D,0,none⟩) n n):=((AL wr (.cells cs 5)).cell (p:=⟨B,3,none⟩) av).trans c3;clear hs a8 ae;go_upto_region 7 with fail
    go_region
    have ak:((wr.setCell ⟨D,i,none⟩ (slice (some ⟨wr.heap.size,0,none⟩) 0 size)).alloc (.cells cs 5)).drew=V:=by
     rw[hV,World.setCell_alloc_past _ _ _ _ (show D<Y.heap.size by rw[hY];exact ar),hY]
     rfl
    rw[ak];clear ak hV q3 q4 j1 j2 c3 au a6 al;have HP:=abn ((n:Int)-1-i) V q1 (by have:=ao3 n i;have:=a2.out;omega);have ax:Hid (Calls ZP 138 #[pointer (some ⟨B,0,none⟩),int i64 ((n:Int)-1-i)] V λe w'=>(∃v,e=.returned v)/\(∃Z N X,BB (λk=>w.heap.size<=k) Z B U D N X size (frN n (i+1)) (List.replicate n false) (List.replicate n []) w')/\Bt w w'):=HP.mono λe w' ⟨h1,⟨fv',af,h2⟩,h3⟩=>by
     have aq:w.heap.size<=Y.heap.size:=aa.size;have aH:Y.heap.size<=V.heap.size:=q2.size;refine⟨h1,⟨af,fv',aw,?_⟩,?_⟩
     ·rw[al4 ad];exact h2.wide λk _ hk=>by rcases hk with(h|h)|h<;>omega
     ·exact aa.trans ((q2.trans h3 λk _ hk=>hk.elim id λh=>by omega).below aq λk aF aE=>by omega)
    clear HP q1 q2 ac aa;have i1:(0:Int)<=(i:Int):=by omega
    have i2:(i:Int)<(n:Int):=by omega
    have aD:IntKind.i64.wrap ((n:Int)-1)=(n:Int)-1:=by have:=a2.out;rw[BK];omega
    have aC:IntKind.i64.wrap ((n:Int)-1-i)=(n:Int)-1-i:=by have:=a2.out;rw[BK];omega
    have ah:=a2.out.2.1;have aB:IntKind.i64.wrap ((i:Int)+1)=((i+1:Nat):Int):=by rw[BK];omega
    have ag:wrap64 ((i:Int)+1)=((i+1:Nat):Int):=apt ah ad
    go_wp2_with (go_at_call 138;refine ax.out.mono ?_;rintro e w3 ⟨⟨v,rfl⟩,h2,h3⟩;have H2:=AA h2;have H3:=AA h3;clear h2 h3)
    go_roundw
    case rel=>exact⟨i+1,by omega,by first|rfl|(go_num;done)|simp[ag],H2,H3⟩
    case measure=>(try simp only[ag]);simp[intOf];omega
   ·obtain rfl:i=n:=by omega
    have hd:decide ((i:Int)<i)=false:=by simp
    go_wp2;go_ret2;obtain⟨Z,N,X,hs⟩:=hS.out;rw[ao7]at hs;exact⟨B,U,D,rfl,⟨Z,N,X,hs⟩,J.out⟩
section
theorem NA{Z:World}{es:Array MapEntry}{Y n:Nat}{k:Int}{x:Value}(V:n=Z.heap.size)(U:Instr.findNow (.int .u8) (.int .u8 k) es.toList 0=some none) :Sem.run ZP (Instr.mapUpdate 239 (.map (some n)) (.int .u8 k) x) (Z.alloc (.map es Y))=.ok () (Z.alloc (.map (es.push ⟨.int .u8 k,x,Y⟩) (Y+1))):=by
 subst V;have X:(Z.alloc (.map es Y)).heap[Z.heap.size]?=some (.map es Y):=(Bx.nil _ Z).snoc (.map es Y) rfl 0 _ rfl;simp[Instr.mapUpdate,run_underlying underlying239,MapKept.run_getObj_map X,MapKept.run_checkKey (k:=.int .u8 k) underlying5 (by simp[MapKept.IsKey]),MapKept.run_findKey underlying5 U,MapKept.run_setObj_map _ X,Result.andThen];unfold World.alloc;congr 1
 apply Array.ext_getElem?
 intro j;simp only[Array.getElem?_setIfInBounds,Array.getElem?_push,Array.size_push]
 by_cases hk:Z.heap.size=j
 ·subst hk;simp
 ·have:j≠Z.heap.size:=λe=>hk e.symm;simp[hk,this]
theorem ale(Z:World)(n:Nat)(x:Value)(Y:n=Z.heap.size):Sem.run ZP (Instr.mapUpdate 239 (.map (some n)) (.int .u8 1) x) (Z.alloc (.map #[] 0))=.ok () (Z.alloc (.map #[⟨.int .u8 1,x,0⟩] 1)):=NA Y rfl
theorem amh(Z:World)(n:Nat)(x y:Value)(Y:n=Z.heap.size):Sem.run ZP (Instr.mapUpdate 239 (.map (some n)) (.int .u8 2) x) (Z.alloc (.map #[⟨.int .u8 1,y,0⟩] 1))=.ok () (Z.alloc (.map #[⟨.int .u8 1,y,0⟩,⟨.int .u8 2,x,1⟩] 2)):=NA Y kr
theorem amx(Z:World)(n:Nat)(x y z:Value)(Y:n=Z.heap.size):Sem.run ZP (Instr.mapUpdate 239 (.map (some n)) (.int .u8 3) x) (Z.alloc (.map #[⟨.int .u8 1,y,0⟩,⟨.int .u8 2,z,1⟩] 2))=.ok () (Z.alloc (.map #[⟨.int .u8 1,y,0⟩,⟨.int .u8 2,z,1⟩,⟨.int .u8 3,x,2⟩] 3)):=NA Y kr
theorem alP(Z:World)(n:Nat)(x y z u:Value)(Y:n=Z.heap.size):Sem.run ZP (Instr.mapUpdate 239 (.map (some n)) (.int .u8 4) x) (Z.alloc (.map #[⟨.int .u8 1,y,0⟩,⟨.int .u8 2,z,1⟩,⟨.int .u8 3,u,2⟩] 3))=.ok () (Z.alloc (.map #[⟨.int .u8 1,y,0⟩,⟨.int .u8 2,z,1⟩,⟨.int .u8 3,u,2⟩,⟨.int .u8 4,x,3⟩] 4)):=NA Y kr
theorem ahg(w:World):Sem.run ZP (Instr.makeMap 239 none) w=.ok (.map (some w.heap.size)) (w.alloc (.map #[] 0)):=rfl
attribute[local go_sem] IW aa0 ahg ale amh amx alP
def MkT(ty:TypeId)(f:Nat->Nat->Option Value)(cs:Nat->Nat->Array Value)(w:World)(e:Ending)(w':World):Prop:=
 e=.returned (pointer (some ⟨w.heap.size,0,none⟩))/\w'.heap[w.heap.size]?=some (.cells (cs w.heap.size (w.heap.size+1)) ty (0,0))/\ES w' (w.heap.size+1) (f w.heap.size)/\w'.heap.size=w.heap.size+2/\Bt w w'
theorem MkT.mk{ty:TypeId}{f:Nat->Nat->Option Value}{cs:Nat->Nat->Array Value}{w:World}{e:Ending}{es:Array MapEntry}{Z:Nat}(V:e=.returned (pointer (some ⟨w.heap.size,0,none⟩)))(X:∀k v,f w.heap.size k=some v->∃i,Instr.findNow (.int .u8) (.int .u8 (k:Int)) es.toList 0=some (some (i,v))) :MkT ty f cs w e ((w.alloc (.cells (cs w.heap.size (w.heap.size+1)) ty)).alloc (.map es Z)):=by have Y:Bx w.heap.size [.cells (cs w.heap.size (w.heap.size+1)) ty,.map es Z] ((w.alloc (.cells (cs w.heap.size (w.heap.size+1)) ty)).alloc (.map es Z)):=((Bx.nil _ w).snoc _ rfl).snoc _ sm;have h0:=Y 0 _ rfl;rw[DQ]at h0;exact⟨V,h0,⟨es,Z,Y 1 _ rfl,X⟩,by simp,(AL _ _).alloc sm _⟩
def csE(P E m:Nat):Array Value:=#[pointer (some ⟨P,0,none⟩),.int .u8 1,.int .u8 2,.map (some m),mvP 158 E,mvP 160 E]
def csM(P M m:Nat):Array Value:=#[pointer (some ⟨P,0,none⟩),.int .u8 1,.int .u8 3,.map (some m),He,mvP 157 M,slice none 0 0]
def csW(P W m:Nat):Array Value:=#[pointer (some ⟨P,0,none⟩),.int .u8 1,.int .u8 4,.map (some m),mvP 151 W,mvP 152 W,int i64 0,int i64 0,int i64 0,slice none 0 0,int i64 0,int i64 0,int i64 0,slice none 0 0]
def csR(P R m:Nat):Array Value:=#[pointer (some ⟨P,0,none⟩),.int .u8 1,.int .u8 5,.map (some m),He,mvP 146 R,bool false,int i64 0,int i64 0,int i64 0,int i64 0,slice none 0 0,bool false]
def Ia:PAd:=⟨0,0,0,0,0,0,0,0,0,0,0,0,0,0,0,0,λ_=>0,0,0,0,λ_=>0,0,0,0,default⟩
theorem alb(P:Nat)(w:World):Calls ZP 103 #[pointer (some ⟨P,0,none⟩)] w (MkT 253 (λX=>stE {Ia with E:=X}) (λX m=>csE P X m) w):=by
 go_enter func103,ntmps103;go_wp2;go_ret;refine MkT.mk (cs:=λX m=>csE P X m) rfl (λk v hk=>?_)
 match k,hk with
 |1,hk=>exact⟨0,by cases AK hk;kernel_rfl⟩
 |0,hk=>cases hk
 |k+2,hk=>cases hk
theorem alo(P:Nat)(w:World):Calls ZP 102 #[pointer (some ⟨P,0,none⟩)] w (MkT 251 (λX=>stM {Ia with M:=X}) (λX m=>csM P X m) w):=by
 go_enter func102,ntmps102;go_wp2;go_ret;refine MkT.mk (cs:=λX m=>csM P X m) rfl (λk v hk=>?_)
 match k,hk with
 |1,hk=>exact⟨0,by cases AK hk;kernel_rfl⟩
 |2,hk=>exact⟨1,by cases AK hk;kernel_rfl⟩
 |0,hk=>cases hk
 |k+3,hk=>cases hk
theorem als(P:Nat)(w:World):Calls ZP 101 #[pointer (some ⟨P,0,none⟩)] w (MkT 249 (λX=>stW {Ia with Wk:=λ_=>X} 0) (λX m=>csW P X m) w):=by
 go_enter func101,ntmps101;go_wp2;go_ret;refine MkT.mk (cs:=λX m=>csW P X m) rfl (λk v hk=>?_)
 match k,hk with
 |1,hk=>exact⟨0,by cases AK hk;kernel_rfl⟩
 |2,hk=>exact⟨1,by cases AK hk;kernel_rfl⟩
 |3,hk=>exact⟨2,by cases AK hk;kernel_rfl⟩
 |0,hk=>cases hk
 |k+4,hk=>cases hk
theorem aiF(P:Nat)(w:World):Calls ZP 100 #[pointer (some ⟨P,0,none⟩)] w (MkT 245 (λX=>stR {Ia with R:=X}) (λX m=>csR P X m) w):=by
 go_enter func100,ntmps100;go_wp2;go_ret;refine MkT.mk (cs:=λX m=>csR P X m) rfl (λk v hk=>?_)
 match k,hk with
 |1,hk=>exact⟨0,by cases AK hk;kernel_rfl⟩
 |2,hk=>exact⟨1,by cases AK hk;kernel_rfl⟩
 |3,hk=>exact⟨2,by cases AK hk;kernel_rfl⟩
 |4,hk=>exact⟨3,by cases AK hk;kernel_rfl⟩
 |0,hk=>cases hk
 |k+5,hk=>cases hk
end
def npV(c:CfM)(m S Kk:Nat)(b q g o tv:Value):Array Value:=
 #[pointer (some ⟨m,0,none⟩),int i64 (c.W:Int),int i64 (c.K:Int),int i64 (c.R:Int),int i64 (c.Q:Int),int i64 (c.O:Int),int i64 (c.S:Int),int i64 (c.F:Int),int i64 (c.wm:Int),pointer (some ⟨S,0,none⟩),pointer (some ⟨Kk,0,none⟩),b,q,g,o,tv,int i64 0,int i64 0,slice none 0 0,bool false]
theorem Fk.below{q:Nat}{W V V':World}(h:Fk q W V)(Z:Bt V V'):Fk q W V':=⟨AS h.1 Z.size,λk h1 h2 h3=>(Z.block k (Af h2 h.1)).trans (h.2 k h1 h2 h3)⟩
def cfV(c:CfM):Array Value:=#[int i64 (c.W:Int),int i64 (c.K:Int),int i64 (c.R:Int),int i64 (c.Q:Int),int i64 (c.O:Int),int i64 (c.S:Int),int i64 (c.F:Int)]
structure NpS(c:CfM)(m S Kk n0 P:Nat)(b q g o tv:Value)(V:World):Prop where
 box:V.heap[P]?=some (.cells (npV c m S Kk b q g o tv) 109 (0,0))
 conf:V.heap[n0]?=some (.cells (cfV c) 26 (0,0))
 lt:n0<P
section
variable {c:CfM}{m S Kk n0 P:Nat}{b q g o tv:Value}{V V':World}
theorem NpS.keep(h:NpS c m S Kk n0 P b q g o tv V)(Z:Bt V V'):NpS c m S Kk n0 P b q g o tv V':=⟨(Z.block _ (AD.1 h.box).1).trans h.box,(Z.block _ (AD.1 h.conf).1).trans h.conf,h.lt⟩
theorem NpS.ce(h:NpS c m S Kk n0 P b q g o tv V)(i:Nat)(v:Value)(e:(npV c m S Kk b q g o tv)[i]?=some v):V.cell? ⟨P,i,none⟩=some v:=by simp only[cell?,h.box];exact e
theorem NpS.fr(h:NpS c m S Kk n0 P b q g o tv V)(i:Nat):V.frozen? ⟨P,i,none⟩=false:=by simp[frozen?,h.box]
theorem NpS.cc(h:NpS c m S Kk n0 P b q g o tv V)(i:Nat)(v:Value)(e:(cfV c)[i]?=some v):V.cell? ⟨n0,i,none⟩=some v:=by simp only[cell?,h.conf];exact e
theorem NpS.plt(h:NpS c m S Kk n0 P b q g o tv V):P<V.heap.size:=(AD.1 h.box).1
theorem NpS.set(h:NpS c m S Kk n0 P b q g o tv V)(i:Nat)(v:Value){b' q' g' o' Z:Value}(e:(npV c m S Kk b q g o tv).setIfInBounds i v=npV c m S Kk b' q' g' o' Z):NpS c m S Kk n0 P b' q' g' o' Z (V.setCell ⟨P,i,none⟩ v):=⟨by rw[<-e];exact AJ (i:=i) h.box v,(AQ V ⟨P,i,none⟩ v n0 (Nat.ne_of_lt h.lt)).trans h.conf,h.lt⟩
end
theorem ahM:(ZP.info? 100).map (λi=>(i.zero,i.size,i.bytes))=some (some .nilIface,1,16):=by kernel_rfl
structure Tk where
 ity:TypeId
 bty:TypeId
 a:Nat
 cs:Array Value
 f:Nat->Option Value
def ifV(t:Tk):Value:=.iface t.ity (pointer (some ⟨t.a,0,none⟩))
def TkM(t:Tk)(V:World):Prop:=V.heap[t.a]?=some (.cells t.cs t.bty (0,0))/\ES V (t.a+1) t.f/\t.a+2<=V.heap.size
structure TkI(n5:Nat)(tv:Value)(tl:List Tk)(V:World):Prop where
 row:V.ownsRow n5 100 1 tv tl.length (tl.map ifV)
 el:∀(i:Nat)(t:Tk),tl[i]?=some t->TkM t V/\n5<=t.a/\tv.ownBlock≠some t.a/\tv.ownBlock≠some (t.a+1)
 dj:∀(i j:Nat)(t u:Tk),tl[i]?=some t->tl[j]?=some u->i<j->t.a+2<=u.a∨u.a+2<=t.a
section
variable {n5 P:Nat}{tv:Value}{tl nw:List Tk}{t:Tk}{V D:World}{Y:Nat->Prop}
theorem TkM.keep(h:TkM t D)(Z:Chg Y D V)(h1:¬Y t.a)(h2:¬Y (t.a+1)):TkM t V:=⟨(Z.block _ (AD.1 h.1).1 h1).trans h.1,h.2.1.keep Z h2,AS h.2.2 Z.size⟩
theorem TkI.keep(h:TkI n5 tv tl D)(Z:Bt D V):TkI n5 tv tl V:=⟨DJ h.row Z,λi t X=>let⟨g1,g2⟩:=h.el i t X;⟨g1.keep (Y:=λ_=>False) (.of_same Z) id id,g2⟩,h.dj⟩
theorem TkI.nil(n5:Nat)(V:World):TkI n5 (slice none 0 0) [] V:=⟨BN _ _ _ _,λi t Z=>by simp at Z,λi j t u Z=>by simp at Z⟩
theorem TkI.app{c:CfM}{m S Kk n0:Nat}{b q g o:Value}(h:TkI n5 tv tl D)(hp:NpS c m S Kk n0 P b q g o tv D)(hP:P<n5)(ar:n5<=D.heap.size)(hl:tl.length<=1000)(hk:nw.length<=1000)(hD:Bt D V)
  (hm:∀(i:Nat)(t:Tk),nw[i]?=some t->TkM t V/\D.heap.size<=t.a) (hj:∀(i j:Nat)(t u:Tk),nw[i]?=some t->nw[j]?=some u->i<j->t.a+2<=u.a∨u.a+2<=t.a) :
  ∃U c1 X,(Builtin.append_ #[103,103] 103 #[tv,.slice (some ⟨V.heap.size,0,none⟩) nw.length nw.length]).run ZP (V.alloc (.cells (nw.map ifV).toArray 100))=.ok (.slice U (tl.length+nw.length) c1) X/\
   NpS c m S Kk n0 P b q g o tv X/\NpS c m S Kk n0 P b q g o (slice U (tl.length+nw.length) c1) (X.setCell ⟨P,15,none⟩ (slice U (tl.length+nw.length) c1))/\
   TkI n5 (slice U (tl.length+nw.length) c1) (tl++nw) (X.setCell ⟨P,15,none⟩ (slice U (tl.length+nw.length) c1))/\
   Chg (λk=>k=P∨n5<=k) D (X.setCell ⟨P,15,none⟩ (slice U (tl.length+nw.length) c1)):=by
 obtain⟨i0,hi,af,ae,ad⟩:=Ve ahM;obtain⟨A,hA⟩:∃A,A=V.alloc (.cells (nw.map ifV).toArray 100):=⟨_,rfl⟩;have B:Bt V A:=by rw[hA];exact AL _ _
 have aq:A.heap.size=V.heap.size+1:=by rw[hA];simp
 have am:=hD.size;have ao:Bt D A:=hD.trans (B.mono am);have hV:=h.keep hD;have a7:=hp.keep hD;have av:=hp.plt;have ag:SlK 1 A (some ⟨V.heap.size,0,none⟩) nw.length (nw.map ifV):=by
  have hx:A.heap[V.heap.size]?=some (.cells (nw.map ifV).toArray 100 (0,0)):=by rw[hA];exact AT _ _
  refine⟨by simp,.inr ⟨_,0,rfl,by omega,λi u H=>?_⟩⟩;have e:A.cell? ⟨V.heap.size,0+i,none⟩=(nw.map ifV).toArray[0+i]?:=by simp only[cell?,hx];rfl
  rw[e,DD,Dy];exact H
 rw[<-hA];obtain⟨v1,X,hr,aa,C,ab⟩:=Gu (P:=ZP) A n5 103 103 100 i0 .nilIface 1 16 underlying103 hi af ae ad rfl (by decide) tv tl.length (tl.map ifV) (DJ hV.row B) (some ⟨V.heap.size,0,none⟩) nw.length nw.length (nw.map ifV) ag (λu H=>by obtain⟨x,_,rfl⟩:=Be.1 H;rfl) (by unfold maxLen;omega) om om;obtain⟨U,c1,rfl,_,_⟩:=SlK.own aa;have au:=C.size;have Z:∀g,tv.ownBlock=some g->n5<=g/\g<D.heap.size:=λg e=>Gw h.row g e;have I:∀k,k<V.heap.size->tv.ownBlock≠some k->X.heap[k]?=V.heap[k]?:=λk hk ai=>(C.block k om (λe=>ai e.symm)).trans (B.block k hk);have N:∀g,(Value.slice U (tl.length+nw.length) c1).ownBlock=some g->tv.ownBlock=some g∨g=A.heap.size:=λg e=>by
  rcases ab with e2|e2
  ·rw[e2]at e;exact .inl e
  ·rw[e2]at e;exact .inr (AK e).symm
 have z:tv.ownBlock≠some P:=λe=>by have:=Z P e;omega
 have a2:(slice U (tl.length+nw.length) c1).ownBlock≠some P:=λe=>by
  rcases N P e with e2|e2
  ·exact z e2
  ·omega
 have a8:NpS c m S Kk n0 P b q g o tv X:=⟨(I P om z).trans a7.box,(I n0 (by have:=hp.lt;omega) (λe=>by have:=Z n0 e;have:=hp.lt;omega)).trans a7.conf,hp.lt⟩;have a6:∀k,k≠P->(X.setCell ⟨P,15,none⟩ (slice U (tl.length+nw.length) c1)).heap[k]?=X.heap[k]?:=λk hk=>AQ X ⟨P,15,none⟩ _ k hk;obtain⟨W2,s⟩:∃W2,W2=X.setCell ⟨P,15,none⟩ (slice U (tl.length+nw.length) c1):=⟨_,rfl⟩;have ap:X.heap.size<=W2.heap.size:=by rw[s];simp[World.setCell]
 have ac:Chg (λk=>k=P∨tv.ownBlock=some k) V W2:=by rw[s];exact((Chg.of_same B).grown C λg e _=>.inr e).set (.inl rfl)
 refine⟨U,c1,X,hr,a8,a8.set 15 _ rfl,⟨?_,λi t J=>?_,λi j t u J H ak=>?_⟩,?_⟩
 ·rw[List.length_append,Aj];exact Fu aa λg al=>a6 g λe=>a2 (by rw[<-e];exact al)
 ·rw[<-s]
  by_cases y:i<tl.length
  ·rw[By y]at J;obtain⟨g1,g2,g3,g4⟩:=hV.el i t J;have ah:=(h.el i t J).1.2.2;refine⟨g1.keep ac (λe=>e.elim (λe=>by omega) g3) (λe=>e.elim (λe=>by omega) g4),g2,λe=>?_,λe=>?_⟩
   ·exact(N _ e).elim g3 λe=>by omega
   ·exact(N _ e).elim g4 λe=>by omega
  ·rw[DY om]at J;obtain⟨g1,g2⟩:=hm _ t J;have ah:=g1.2.2;have n1:tv.ownBlock≠some t.a:=λe=>by have:=Z _ e;omega
   have n2:tv.ownBlock≠some (t.a+1):=λe=>by have:=Z _ e;omega
   refine⟨g1.keep ac (λe=>e.elim (λe=>by omega) n1) (λe=>e.elim (λe=>by omega) n2),by omega,λe=>?_,λe=>?_⟩
   ·exact(N _ e).elim n1 λe=>by omega
   ·exact(N _ e).elim n2 λe=>by omega
 ·by_cases y:i<tl.length
  ·rw[By y]at J
   by_cases aj:j<tl.length
   ·rw[By aj]at H;exact h.dj i j t u J H ak
   ·rw[DY om]at H;have h1:=(h.el i t J).1.2.2;have h2:=(hm _ u H).2;omega
  ·rw[DY om]at J H;exact hj _ _ t u J H om
 ·exact((Chg.of_same ao).grown C λg e _=>.inr (Z g e).1).set (.inl rfl)
end
def Mn(P a:Nat):Tk:=⟨175,245,a,csR P a (a+1),stR {Ia with R:=a}⟩
def Mm(P a:Nat):Tk:=⟨177,249,a,csW P a (a+1),stW {Ia with Wk:=λ_=>a} 0⟩
def JD(P a:Nat):Tk:=⟨179,251,a,csM P a (a+1),stM {Ia with M:=a}⟩
def IQ(P a:Nat):Tk:=⟨181,253,a,csE P a (a+1),stE {Ia with E:=a}⟩
def CY(W P j a:Nat):Tk:=if j=0 then Mn P a else if j<=W then Mm P a else if j=W+1 then JD P a else IQ P a
def Fj(W P:Nat)(tl:List Tk):Prop:=∀(j:Nat)(t:Tk),tl[j]?=some t->t=CY W P j t.a
theorem Fj.snoc{W P:Nat}{tl:List Tk}{t:Tk}(h:Fj W P tl)(X:t=CY W P tl.length t.a):Fj W P (tl++[t]):=λj u Z=>by
 by_cases U:j<tl.length
 ·rw[By U]at Z;exact h j u Z
 ·obtain rfl:j=tl.length:=by
   have:=(AP.1 Z).1;simp at this;omega
  rw[DY (AC _),FG]at Z
  cases AK Z
  exact X
theorem MkT.tkm{ty:TypeId}{f:Nat->Nat->Option Value}{cs:Nat->Nat->Array Value}{w V:World}{e:Ending}{t:Tk}(h:MkT ty f cs w e V)(h1:t.a=w.heap.size)(h2:t.cs=cs t.a (t.a+1))(h3:t.bty=ty)(h4:t.f=f t.a):TkM t V/\w.heap.size<=t.a:=by
 obtain⟨_,X,Z,U,_⟩:=h;refine⟨⟨?_,?_,by omega⟩,by omega⟩
 ·rw[h2,h3,h1];exact X
 ·rw[h4,h1];exact Z
theorem TkI.one{n5 P W:Nat}{tv:Value}{tl:List Tk}{t:Tk}{D V:World}{c:CfM}{m S Kk n0:Nat}{b q g o:Value}(h:TkI n5 tv tl D)(C:NpS c m S Kk n0 P b q g o tv D)(y:P<n5)(N:n5<=D.heap.size)(A:tl.length<=1000)(x:Bt D V)
  (B:TkM t V/\D.heap.size<=t.a) (H:Fj W P tl) (I:t=CY W P tl.length t.a) :
  ∃Z n c1 X,(Builtin.append_ #[103,103] 103 #[tv,.slice (some ⟨V.heap.size,0,none⟩) 1 1]).run ZP (V.alloc (.cells #[ifV t] 100))=.ok (.slice Z n c1) X/\
   NpS c m S Kk n0 P b q g o tv X/\NpS c m S Kk n0 P b q g o (slice Z n c1) (X.setCell ⟨P,15,none⟩ (slice Z n c1))/\
   TkI n5 (slice Z n c1) (tl++[t]) (X.setCell ⟨P,15,none⟩ (slice Z n c1))/\Fj W P (tl++[t])/\
   Chg (λk=>k=P∨n5<=k) D (X.setCell ⟨P,15,none⟩ (slice Z n c1)):=by
 obtain⟨Z,c1,X,g1,g2,g3,e,s⟩:=h.app (nw:=[t]) C y N A sm x (λi u U=>by
  obtain rfl:i=0:=by have:=(AP.1 U).1;simp at this;omega
  cases AK U;exact B) (λi j u v U J z=>by
  have:=(AP.1 J).1;simp at this;omega)
 exact⟨Z,_,c1,X,g1,g2,g3,e,H.snoc I,s⟩
end Go.Proofs.YtaamacoicojhnaaGreat
