/- Proofs over the given program, part 19. -/
import Derived.Test.YtaamacoicojhnaaGreatZB18
set_option linter.unusedVariables false
set_option linter.unusedSimpArgs false
set_option maxRecDepth 100000
set_option maxHeartbeats 16000000
open Go.Proofs.Tryz
open Go.Proofs.Tryz renaming prog→ZP
namespace Go.Proofs.YtaamacoicojhnaaGreat
open Go.RowKit Go.Sort
section
attribute [local go_sem] Oper.semAt_some
attribute [local simp] aab aa6
attribute [local go_sem] aab aa6
theorem am1 {α:Type}{B b base:Nat}{Pb:Nat->World->World->Prop}(z:base<=B)(A:b<B)(D:∀r W N,Pb r W N->r≠b/\r<base)(f:α->List aam):ab8 B Pb (fun s W=>atF b base (f s) W):=by
 rintro s W N row ⟨v,Y,ho⟩ U J;have Z:∀{k:Nat} {cs:Array Value} {t:TypeId},W.heap[k]?=some (.cells cs t (0,0))->k=b∨base<=k->row≠some k:=fun {k cs t} H I e=>by
  rcases J k e with ⟨_,o,h1,h2⟩ | h
  · rw [H] at h1;cases h1;cases h2
  · have:=D k _ _ h;omega
 refine⟨v,(U.block b Y.lt (fun e=>Z Y (.inl rfl) e.symm)).trans Y,ho.kept U ?_⟩
 rcases ho.2 with ⟨rfl,_⟩ | ⟨g,cap,C,rfl,V,X,_⟩
 · exact .inl rfl
 · exact .inr fun e=>Z X (.inr V) (by rw [<-e];rfl)
theorem SbX.owns {α:Type}{B g q:Nat}{V X wm:Int}{b:Option Addr}{n c:Nat}(Y:g≠q)(f:α->Int):ab8 B (PbN g q) (fun s W=>∃d,SbX g V X wm b n c (f s) d W):=by
 rintro s W J row ⟨d,Z⟩ N U
 by_cases e:row=some g
 ·
  rcases U g e with ⟨_,o,h1,h2⟩ | h
  · unfold SbX at Z;rw [Z] at h1;cases h1;cases h2
  ·
   rcases h with h | ⟨_,h⟩
   · exact absurd h Y
   · exact h V X wm b n c (f s) d Z
 · exact⟨d,(N.block g Z.lt (Ne.symm e)).trans Z⟩
theorem KpN.node {bl g:Nat}(Z:bl≠g)(W:World)(y:Int):KpN bl g W (W.setCell ⟨g,4,none⟩ (.int .i64 y)):=by
 refine⟨by simp [World.setCell],fun k cs t f V _ Y _=>(axn W ⟨g,4,none⟩ _ k Y).trans V,.inl ?_,fun N U wm b n c z d X=>⟨y,X.node y⟩⟩;unfold abX;rw [axp (a:=⟨bl,0,none⟩) (axn W ⟨g,4,none⟩ _ bl Z)]
theorem aig {V Z:World}{bl g base n m:Nat}{v v':Value}{xs ys:List Value}(H:Boxed V bl 69 v)(X:V.ownsRow base 116 2 v m ys)(B:V.grownBy Z v.ownBlock)(a6:v'.ownBlock=v.ownBlock∨v'.ownBlock=some V.heap.size)
  (Y:Z.ownsRow base 116 2 v' n xs) (a1:bl<base) (j:g<base) (a2:bl≠g) (a7:base<=V.heap.size) :
  KpN bl g V (Z.setCell ⟨bl,0,none⟩ v')/\Boxed Z bl 69 v/\Boxed (Z.setCell ⟨bl,0,none⟩ v') bl 69 v'/\(Z.setCell ⟨bl,0,none⟩ v').ownsRow base 116 2 v' n xs/\KeepsOthers V (Z.setCell ⟨bl,0,none⟩ v')/\(∀k,k<base->k≠bl->(Z.setCell ⟨bl,0,none⟩ v').heap[k]?=V.heap[k]?)/\base<=Z.heap.size:=by
 have A:∀k,k<base->v.ownBlock≠some k:=fun k D e=>by have:=(aap X k e).1;omega
 have N:Boxed Z bl 69 v:=(B.block bl H.lt (fun e=>A bl a1 e.symm)).trans H;have hs:V.heap.size<=Z.heap.size:=B.size;have J:(Z.setCell ⟨bl,0,none⟩ v').heap.size=Z.heap.size:=by simp [World.setCell]
 have e1:abX bl V=v.ownBlock:=by unfold abX;rw [H.cell];rfl
 have e2:abX bl (Z.setCell ⟨bl,0,none⟩ v')=v'.ownBlock:=by unfold abX;rw [(N.set v').cell];rfl
 have U:∀k,k<base->k≠bl->(Z.setCell ⟨bl,0,none⟩ v').heap[k]?=V.heap[k]?:=fun k D I=>(axn Z ⟨bl,0,none⟩ v' k I).trans (B.block k (by omega) (fun e=>A k D e.symm));have s:=aa9 Z bl 0 v';refine⟨⟨by rw [J];exact hs,fun k cs t f D hb _ hr=>?_,?_,fun nu st wm b n c z d y=>⟨z,(U g j (Ne.symm a2)).trans y⟩⟩,N,N.set v',Y.kept s (.inr fun e=>by have:=(aap Y bl e).1;omega),⟨by rw [J];exact hs,fun k o ho hc=>?_⟩,U,by omega⟩
 · rw [e1] at hr;rw [axn Z ⟨bl,0,none⟩ v' k hb,B.block k (KpL.lt (bl:=bl) D) (fun e=>hr e.symm)];exact D
 ·
  rw [e1,e2,J]
  rcases a6 with h | h
  · exact .inl h
  · refine .inr ⟨_,h,axe _,?_⟩;have:=(aap Y _ h).2;exact this
 ·
  have I:k≠bl:=fun e=>by rw [e] at ho;unfold Boxed at H;rw [H] at ho;cases ho;cases hc
  have x:=(awU.1 ho).1;rw [axn Z ⟨bl,0,none⟩ v' k I];refine (B.block k x (fun e=>?_)).trans ho
  rcases X.2 with ⟨h0,_⟩ | ⟨g',cap,a8,h0,_,C,_⟩
  · rw [h0] at e;cases e
  ·
   rw [h0] at e;have e':k=g':=by simpa [Value.ownBlock] using e
   rw [e',C] at ho
   cases ho
   cases hc
theorem alA {W0:World}{B:Nat}{fold:Bool}{wss:List (List Int)}(nu Y wm:Int)(b:Option Addr)(n c z d:Nat)(m:Int)(bs:List Int)(w:World)(h:alm W0 B fold wss w)(hD:Bys w b n bs)(hn:n<=900000)(hr:aan fold wss=true)(hm:-9223372036854775808<=m/\m<=9223372036854775807)(ao:avc (aa0 wss).length (aaY wss) Y wm n z d=true) :
  Calls ZP 200 #[.pointer (some ⟨B,0,none⟩),.agg (blV nu Y wm b n c),prV (z:Int) (d:Int),.int .i64 m] w fun e w'=>∃v,e=.returned (.tuple #[prV (adf fold wss z (agM bs d m):Nat) (d+(abJ n d m:Nat)),v,.bool (decide ((d:Int)+(abJ n d m:Nat)=(n:Int)))])/\adV w' w.heap.size v (asL fold wss Y wm bs z d m)/\Below w.heap.size w w':=by
 obtain⟨i0,hi,bR,bQ,bP⟩:=info_parts adc;obtain⟨W,hW⟩:∃W,W=((((w.alloc (.cells #[.pointer (some ⟨B,0,none⟩)] 88)).alloc (.cells (blV nu Y wm b n c) 120)).alloc (.cells #[.int .i64 (z:Int),.int .i64 (d:Int)] 247)).alloc (.cells #[.int .i64 0,.int .i64 0] 247)).alloc (.cells #[.slice none 0 0] 69):=⟨_,rfl⟩;have hB:Below w.heap.size w W:=by rw [hW];exact (((((axf _ _).alloc (axe _) _).alloc (by simp) _).alloc (by simp;omega) _).alloc (by simp;omega) _).alloc (by simp;omega) _
 have cA:W.heap.size=w.heap.size+1+1+1+1+1:=by rw [hW];simp
 have hO:Bx w.heap.size [.cells #[.pointer (some ⟨B,0,none⟩)] 88,.cells (blV nu Y wm b n c) 120,.cells #[.int .i64 (z:Int),.int .i64 (d:Int)] 247,.cells #[.int .i64 0,.int .i64 0] 247,.cells #[.slice none 0 0] 69] W:=by rw [hW];exact (((((Bx.nil _ w).snoc _ rfl).snoc _ (by simp)).snoc _ (by simp)).snoc _ (by simp)).snoc _ (by simp)
 have HC:Hid (∀V,RowKit.Below W.heap.size W V->V.cell? ⟨w.heap.size,0,none⟩=some (.pointer (some ⟨B,0,none⟩))/\(V.cell? ⟨w.heap.size+1,0,none⟩=some (.int .i64 nu)/\V.cell? ⟨w.heap.size+1,1,none⟩=some (.int .i64 Y)/\V.cell? ⟨w.heap.size+1,2,none⟩=some (.int .i64 wm)/\V.cell? ⟨w.heap.size+1,3,none⟩=some (.slice b n c))/\(V.cell? ⟨w.heap.size+1+1,0,none⟩=some (.int .i64 (z:Int))/\V.cell? ⟨w.heap.size+1+1,1,none⟩=some (.int .i64 (d:Int)))/\
   V.heap[w.heap.size]?=some (.cells #[.pointer (some ⟨B,0,none⟩)] 88 (0,0))/\V.heap[w.heap.size+1+1+1]?=some (.cells #[.int .i64 0,.int .i64 0] 247 (0,0))/\V.heap[w.heap.size+1+1+1+1]?=some (.cells #[.slice none 0 0] 69 (0,0))/\RowKit.Below w.heap.size w V):=fun V J=>by
  have h:=hO.below J;exact⟨h.cell (i:=0) rfl rfl,⟨h.cell (i:=1) rfl rfl,h.cell (i:=1) rfl rfl,h.cell (i:=1) rfl rfl,h.cell (i:=1) rfl rfl⟩,⟨h.cell (i:=2) rfl rfl,h.cell (i:=2) rfl rfl⟩,h 0 _ rfl,h 3 _ rfl,h 4 _ rfl,hB.trans (J.mono hB.size)⟩
 have HR:=ax3 (aeo nu Y wm b n c z d W (h.below hB) (by omega));rw [ao] at HR;unfold avc at ao;rw [ayz] at ao;obtain⟨b8,c7⟩:=ao;have cy:=of_decide_eq_true c7;have cx:z<(aa0 wss).length:=by omega
 have cD:d<=n:=by omega
 obtain⟨s1,s2,s3,s4,s5,s6,s7⟩:=of_decide_eq_true b8;have cH:=(amK h.len).2;have bT:wm<=1000000:=by omega
 have ce:bs.length=n:=hD.len;have al:(agM bs (d:Int) m).length=abJ n d m:=by rw [an5 bs d m (by omega),ce]
 have hT:=agb (n:=n) (d:=(d:Int)) (m:=m) (by omega) (by omega);rw [axs] at hT;have bG:∀x∈agM bs (d:Int) m,0<=x/\x<256:=fun x hx=>by have:=hD.2 x (ayQ (axk hx));omega
 obtain⟨F,hF⟩:∃F,agM bs (d:Int) m=F:=⟨_,rfl⟩;obtain⟨T,bC⟩:∃T,abJ n (d:Int) m=T:=⟨_,rfl⟩;rw [hF] at al bG;rw [bC] at al hT;rw [hF,bC];have HF:=ax3 hF;have HU:=ax3 h;have HD:=ax3 hD;have HB:=ax3 hB;clear hF bC;obtain⟨q1,⟨q2,q3,q4,q5⟩,⟨q6,q7⟩,_⟩:=HC.out W (axf _ _);clear hO h hD hB b8 c7 cy s6 s7 cH ce;refine aau func200 rfl ?_;simp only [ntmps200,axT,axU,axV,Nat.reduceAdd,Nat.reduceSub,axW,axX,axY,axZ,ay0,ay1];go_upto_region 1 with fail
 rw [<-hW];clear hW;go_upto_region 3 with (go_at_call 241;refine HR.out.mono ?_;rintro e w1 ⟨rfl,bA⟩)
 clear q1 q2 q3 q4 q5 q6 q7 HR;obtain⟨q1,⟨q2,q3,q4,q5⟩,⟨q6,q7⟩,q8,q9,bO,bN⟩:=HC.out w1 bA;have bv:=hm.1;have bZ:=hm.2;have cm:=ax3 q8;have cl:=ax3 q9;have bm:=ax3 bO;have aO:=ax3 bN;clear q8 q9 bO bN;go_upto_region 4 with fail
 go_wp2_with (go_at_call 242;refine (aoK _ _ _).mono ?_;rintro e w' ⟨rfl,rfl⟩)
 obtain⟨I,aH⟩:∃X,X=((w1.alloc (.cells (sbQ nu Y wm b n c z d) 329)).alloc (.cells #[.pointer (some ⟨w1.heap.size,0,none⟩)] 368)).alloc (.cells #[.int .i64 m] 3):=⟨_,rfl⟩;have b0:Bx w1.heap.size [.cells (sbQ nu Y wm b n c z d) 329,.cells #[.pointer (some ⟨w1.heap.size,0,none⟩)] 368,.cells #[.int .i64 m] 3] I:=by rw [aH];exact (((Bx.nil _ w1).snoc _ rfl).snoc _ (by simp)).snoc _ (by simp)
 have aF:RowKit.Below w1.heap.size w1 I:=by rw [aH];exact ((aa1 w1 _).alloc (by simp) _).alloc (by simp;omega) _
 have cB:I.heap.size=w1.heap.size+1+1+1:=by rw [aH];simp
 rw [show ((w1.alloc (.cells #[.int .i64 nu,.int .i64 Y,.int .i64 wm,.slice b n c,.int .i64 (z:Int),.int .i64 (d:Int)] 329)).alloc (.cells #[.pointer (some ⟨w1.heap.size,0,none⟩)] 368)).alloc (.cells #[.int .i64 m] 3)=I from aH.symm];clear aH q1 q2 q3 q4 q5 q6 q7;have g4:SbX w1.heap.size nu Y wm b n c z d I:=b0 0 _ rfl;have b2:Boxed I (w1.heap.size+1) 368 (.pointer (some ⟨w1.heap.size,0,none⟩)):=b0 1 _ rfl;have b3:Boxed I (w1.heap.size+1+1) 3 (.int .i64 m):=b0 2 _ rfl;have bY:w.heap.size+1+1+1+1<w1.heap.size:=by have:=bA.size;omega
 have aE:RowKit.Below w.heap.size w I:=aO.out.trans (aF.mono aO.out.size);have ca:agC w I:=⟨aE.size,fun k cs t f hk=>(aE.block k (KpL.lt (bl:=0) hk)).trans hk⟩;have b4:Boxed I (w.heap.size+1+1+1+1) 69 (.slice none 0 0):=(aF.block _ (by omega)).trans bm.out;have cK:I.heap[w.heap.size]?=some (.cells #[.pointer (some ⟨B,0,none⟩)] 88 (0,0)):=(aF.block _ (by omega)).trans cm.out;have cJ:I.heap[w.heap.size+1+1+1]?=some (.cells #[.int .i64 0,.int .i64 0] 247 (0,0)):=(aF.block _ (by omega)).trans cl.out;have bb:∀r,abX (w.heap.size+1+1+1+1) I≠some r:=fun r e=>by
  unfold abX at e;rw [b4.cell] at e
  cases e
 have aC:=al3 (g:=w1.heap.size) (q:=w1.heap.size+1+1) (p2:=w1.heap.size+1) (bl:=w.heap.size+1+1+1+1) nu Y wm z b n c d m bs 8 w I HD.out ca (by omega) (by omega) (by omega) ⟨⟨by omega,by omega,by omega⟩,by omega,by omega,by omega⟩ b4.lt b3 b2 g4 bb cD (by omega) ⟨s1,s2⟩ ⟨s3,bT⟩ hm;rw [HF.out,al] at aC;have cL:Hid (ndN fold wss z F (List.range T)=adf fold wss z F):=by rw [Hid,<-al,agx z F.length (axe _),ayS]
 have cq:Hid (hsN fold wss Y (Y-wm+d) F z (List.range T)=asL fold wss Y wm bs z d m):=by
  rw [Hid,<-al,ajK Y _ z F.length (axe _),ayS];unfold asL;rw [HF.out,axs]
 have cO:=ax3 bG;have cr:Hid (∀j,enN (Y-wm+d) F j<=4611686020574871551+900000+1/\-1000000<enN (Y-wm+d) F j):=fun j=>by
  have:=avz (F:=F) (Y-wm+d) j;rw [al] at this;omega
 have ch:=ax3 cx;have co:Hid ((aa0 wss).length<=1000):=(agq hr).1;have cN:=ax3 (agq hr).2;obtain⟨p,hp⟩:∃p:Int,Y-wm+d=p:=⟨_,rfl⟩;rw [hp] at aC cq cr;obtain⟨g,hg⟩:∃g,w1.heap.size=g:=⟨_,rfl⟩;rw [hg] at aC cB g4 bY ⊢;obtain⟨bl,bz⟩:∃k,w.heap.size+1+1+1+1=k:=⟨_,rfl⟩;rw [bz] at aC b4 bY ⊢;have d0:T<=900000:=by omega
 clear b0 aF b2 b3 ca bb cm cl bm aO HC hg hp bG al bA cA hm;have cU:w.heap.size+1+1+1<bl:=by omega
 have dd:=ax3 bz;clear bz
 apply apc rfl (enters_of func270 (by kernel_rfl) rfl) aC (PbN.lt (by omega) (by omega)) ?hSk KpN.t (KpN.b (by omega) (by omega)) (fun _=>rfl)
  (fun a1 V=>atF bl I.heap.size (hsN fold wss Y p F z a1) V/\(∃d',SbX g nu Y wm b n c ((ndN fold wss z F a1:Nat):Int) d' V)/\RowKit.Below w.heap.size w V/\(I.heap.size<=V.heap.size/\V.heap[w.heap.size]?=some (.cells #[.pointer (some ⟨B,0,none⟩)] 88 (0,0))/\V.heap[w.heap.size+1+1+1]?=some (.cells #[.int .i64 0,.int .i64 0] 247 (0,0))))
  (fun _ _ _=>False)
 case wA=>exact fun _ W=>W
 case hwA=>exact fun x W=>axf _ _
 case hSk=>
  rintro xs V l o o' hl ho hc ⟨e,z',hG⟩;refine⟨e,z',?_⟩;unfold SbX at hG ⊢;rw [ayn (by omega)];exact hG
 case hKg=>exact fun x W hW=>KpN.of_below (axf _ _) (by omega)
 case hI=>exact ab8.and (am1 (axe _) (by omega) (fun r W W' hr=>by rcases hr with rfl | ⟨rfl,_⟩<;>omega) (hsN fold wss Y p F z)) (ab8.and (SbX.owns (by omega) (fun a1=>((ndN fold wss z F a1:Nat):Int))) (ab8.and (ab8.below (by omega) (by omega) (fun r W W' hr=>by rcases hr with rfl | ⟨rfl,_⟩<;>omega)) (ab8.and (ab8.size _ _ _) (ab8.and (ab8.block _ _ _ _ _ _ (fun W W' hr=>by rcases hr with h | ⟨h,_⟩<;>omega)) (ab8.block _ _ _ _ _ _ (fun W W' hr=>by rcases hr with h | ⟨h,_⟩<;>omega))))))
 case hIx=>exact fun _ _ _ _ _ hs _ _=>hs
 case h0=>exact⟨⟨_,b4,ayy _ _ _ _⟩,⟨_,g4⟩,aE,axe _,cK,cJ⟩
 case hassign=>
  intro l x W K C;unfold auZ
  gi_wp2
  exact C
 case hbody=>
  rintro l a1 j Wb V d7 ⟨⟨v,hv,U⟩,⟨d',a6⟩,aI,cz,aw,au⟩ cT
  try dsimp only
  obtain⟨zc,az⟩:∃zc,ndN fold wss z F a1=zc:=⟨_,rfl⟩;have b6:zc<(aa0 wss).length:=by rw [<-az];exact avq ch.out a1
  rw [az] at a6;obtain⟨cF,cE⟩:=asj cO.out j;obtain⟨cb,aY⟩:∃cb:Nat,byN F j=(cb:Int):=⟨(byN F j).toNat,by omega⟩;have bh:cb<256:=by omega
  obtain⟨cZ,cY⟩:=cr.out j;obtain⟨E,hE⟩:∃E,enN p F j=E:=⟨_,rfl⟩;obtain⟨y,hy⟩:∃y,adF fold wss zc (cb:Int)=y:=⟨_,rfl⟩;have bK:Hid (ndN fold wss z F (a1++[j])=y):=by rw [Hid,anf,az,aY,hy]
  have am:Hid (hsN fold wss Y p F z (a1++[j])=hsN fold wss Y p F z a1++(if Y<E then (aaD wss y).map (fun v=>((E,v):aam)) else [])):=by rw [Hid,ajB,az,aY,hy,hE]
  have bv:=aqK (fold:=fold) (ws:=wss) (F:=F) Y p a1 z ch.out;have bZ:(aa0 wss).length*a1.length<=1000*900000:=axA co.out (by omega);obtain⟨Hp,bF⟩:∃X,hsN fold wss Y p F z a1=X:=⟨_,rfl⟩;rw [bF] at U bv am;obtain⟨m0,bw⟩:∃X,Hp.length=X:=⟨_,rfl⟩;have cW:m0<=900000000:=by omega
  obtain⟨x,hx⟩:∃x,(aa0 wss)[zc]?=some x:=⟨_,ay4 b6⟩;have bu:=(agc (fold:=fold) hx (cb:Int));have bS:=(awR.1 bu.1).1;rw [hy] at bS;have b7:ab2 wss (y:Int)=aaD wss y:=by
   unfold ab2;rw [if_pos ⟨by omega,by omega⟩,axs]
  have KS:Hid (∀X,RowKit.Below w.heap.size w X->Calls ZP 243 #[.pointer (some ⟨B,0,none⟩),.int .i64 (zc:Int),.int .u8 (cb:Int)] X fun e w'=>e=.returned (.tuple #[.int .i64 (y:Int),.bool true])/\RowKit.Below X.heap.size X w'):=fun X hX=>by
   have h:=(HU.out.below hX).step (zc:Int) cb bh;rw [apj (HU.out.below hX).ok hx bh,bu.2,hy] at h;exact h
  obtain⟨nw,aW⟩:∃X,(aaD wss y).length=X:=⟨_,rfl⟩;have cS:nw<=1000:=by rw [<-aW];exact awT (acI wss y) (by have:=co.out;omega)
  obtain⟨D,b1⟩:∃X,(aaD wss y).map (fun v=>((E,v):aam))=X:=⟨_,rfl⟩;rw [b1] at am;have KH:Hid (∀X,RowKit.Below w.heap.size w X->Calls ZP 244 #[.pointer (some ⟨B,0,none⟩),.int .i64 (y:Int),.int .i64 E] X fun e w'=>∃(a:Option Addr) (c:Nat),e=.returned (.slice a nw c)/\Hts w' a nw D/\RowKit.Below X.heap.size X w'):=fun X hX=>by
   have h:=(HU.out.below hX).hits (y:Int) E (by unfold I64;omega) (cN.out _);rw [b7,b1,aW] at h;exact h.mono fun e w' ⟨a,c,h1,h2,h4,h3⟩=>⟨a,c,h1,h2,h3⟩
  have ct:Hid (D.length=nw):=by rw [Hid,<-b1,ayq,aW]
  have KC:Hid (∀X,RowKit.Below V.heap.size V X->X.cell? ⟨w.heap.size,0,none⟩=some (.pointer (some ⟨B,0,none⟩))):=fun X hX=>by
   have h:=(hX.block _ (awU.1 aw).1).trans aw;simp [World.cell?,h]
  have bL:=ax3 bw;have d9:=ax3 bF;unfold adV at U;rw [bw] at U;obtain⟨av,cv,rfl,_,_⟩:=SlK.own U;have HV:=ax3 hv;have ay:=ax3 U;have b5:=ax3 a6;have ah:=ax3 aI;have cp:=ax3 aw;have aN:=ax3 au;have bi:=hv.lt;rw [hE,aY];obtain⟨⟨g0,g1,g2,g3,g4,g5⟩,f4,f5⟩:=a6.cells;have c0:=KC.out V (axf _ _);clear az b6 cF cE hE aY hy bv bZ bF bw hx bu bS b7 aW b1 hv U a6 aI aw au
  gi_wp2_with fail
  refine (callsIn_wide.2 (KS.out V ah.out)).mono ?_;rintro e w2 ⟨rfl,a2⟩;clear g0 g1 g2 g3 g4 g5 f4 f5 c0;have aB:=b5.out.below a2;obtain⟨⟨g0,g1,g2,g3,g4,g5⟩,f4,f5⟩:=aB.cells;obtain⟨W5,aj⟩:∃X,X=w2.setCell ⟨g,4,none⟩ (.int .i64 (y:Int)):=⟨_,rfl⟩;have cX:g<V.heap.size:=b5.out.lt;have aa:=aa9 w2 g 4 (.int .i64 (y:Int));rw [<-aj] at aa;have b9:SbX g nu Y wm b n c (y:Int) d' W5:=by rw [aj];exact aB.node _
  have bf:KpN bl g V W5:=by rw [aj];exact (KpN.of_below a2 bi).t (KpN.node (by omega) w2 _)
  have bV:Boxed W5 bl 69 (.slice av m0 cv):=(aa.block bl (by have:=a2.size;omega) (fun e=>by have:=awV e;omega)).trans ((a2.block bl bi).trans HV.out);have aD:W5.ownsRow I.heap.size 116 2 (.slice av m0 cv) m0 (aad Hp):=(aag ay.out a2).kept aa (.inr fun e=>by have:=(aap ay.out g e).1;omega);have bj:RowKit.Below w.heap.size w W5:=by rw [aj];exact (ah.out.trans (a2.mono ah.out.size)).setCell (by show w.heap.size<=g;omega) _
  have be:W5.heap[w.heap.size]?=some (.cells #[.pointer (some ⟨B,0,none⟩)] 88 (0,0)):=(aa.block _ (by have:=a2.size;omega) (fun e=>by have:=awV e;omega)).trans ((a2.block _ (by omega)).trans cp.out);have bd:W5.heap[w.heap.size+1+1+1]?=some (.cells #[.int .i64 0,.int .i64 0] 247 (0,0)):=(aa.block _ (by have:=a2.size;omega) (fun e=>by have:=awV e;omega)).trans ((a2.block _ (by omega)).trans aN.out);have bX:V.heap.size<=W5.heap.size:=by rw [aj];have:=a2.size;simpa [World.setCell] using this
  have bg:KeepsOthers V W5:=⟨bX,fun k o ho hc=>by
   have hk:=(awU.1 ho).1;refine (aa.block k (by have:=a2.size;omega) (fun e=>?_)).trans ((a2.block k hk).trans ho);have e':k=g:=awV e;have h:=b5.out;unfold SbX at h;rw [e',h] at ho
   cases ho
   cases hc⟩
  have ap:=ax3 b9;have aS:=ax3 bf;have ac:=ax3 bV;have aP:=ax3 aD;have s:=ax3 bj;have aq:=ax3 be;have aM:=ax3 bd;have aU:=ax3 bg;clear aa b9 bf bV aD bj be bd bg b5 HV ay ah cp aN KC KS aB
  by_cases aX:Y<E
  case neg=>
   have d1:decide (Y<E)=false:=by simpa using aX
   rw [if_neg aX,ayj] at am
   gi_wp2
   rw [<-aj];refine⟨aU.out.from _,aS.out,⟨_,ac.out,?_⟩,⟨d',by rw [bK.out];exact ap.out⟩,s.out,by omega,aq.out,aM.out⟩;rw [am.out];unfold adV;rw [bL.out];exact aP.out
  case pos=>
   have d1:decide (Y<E)=true:=by simpa using aX
   rw [if_pos aX] at am
   gi_wp2
   rw [<-aj];clear g0 g1 g2 g3 g4 g5 f4 f5;refine acD (S:=acJ I.heap.size bl W5) mixed (by kernel_rfl) ⟨fun _ _ _=>rfl,(by show I.heap.size<=W5.heap.size;omega)⟩ (fun cd=>?_);obtain⟨W6,bB⟩:∃X,X=W5.drew:=⟨_,rfl⟩;have N:RowKit.Below W5.heap.size W5 W6:=by rw [bB];exact aa2 W5 1
   rw [<-bB] at cd ⊢;clear bB;have aJ:Hid (∀X,acJ I.heap.size bl W5 X->X.cell? ⟨w.heap.size,0,none⟩=some (.pointer (some ⟨B,0,none⟩))/\X.cell? ⟨g,4,none⟩=some (.int .i64 (y:Int))):=fun X hX=>by
    have h1:=(hX.1 _ (by omega) (by omega)).trans aq.out;have h2:SbX g nu Y wm b n c (y:Int) d' X:=(hX.1 g (by omega) (by omega)).trans ap.out;exact⟨by simp [World.cell?,h1],h2.cells.1.2.2.2.2.1⟩
   refine tkB 1 aJ.out ?_;refine tkB 2 aJ.out ?_;refine tkB 3 aJ.out ?_;refine tkB 4 aJ.out ?_;refine tkB 5 aJ.out ?_;refine awN 0 6 (fun K C=>?_) (fun K C=>?_)
   ·
    have q3:Boxed W6 bl 69 (.slice av m0 cv):=(N.block bl ac.out.lt).trans ac.out;have q2:=q3.cell;clear q3;go_simp;refine C.out _ _ cd (fun _=>?_);clear C K q2
    try simp only [Act.put,pA,pB,pC]
    refine rdy 6 (fun K C=>?_);go_simp
    go_at_call 244;refine (KH.out W6 (s.out.trans (N.mono s.out.size))).mono ?_;rintro e w7 ⟨a9,c9,rfl,aA,ai⟩
    refine C.out _ _ (⟨fun k h1 _=>(N.trans (ai.mono N.size)).block k (by omega),awT (by omega) (N.trans (ai.mono N.size)).size⟩) (fun A=>?_);clear C K
    try simp only [Act.put,pA,pB,pC]
    have Z:=N.trans (ai.mono N.size);have bJ:=ax3 aA;clear aA ai A;have A:acJ I.heap.size bl W5 w7:=⟨fun k h1 _=>Z.block k (by omega),awT (by omega) Z.size⟩;have bI:Hid (Boxed w7 bl 69 (.slice av m0 cv)):=(Z.block bl ac.out.lt).trans ac.out;have ad:Hid (w7.ownsRow I.heap.size 116 2 (.slice av m0 cv) m0 (aad Hp)):=aag aP.out Z;have ag:Hid (RowKit.Below w.heap.size w w7):=s.out.trans (Z.mono s.out.size);have aQ:Hid (w7.heap[w.heap.size]?=some (.cells #[.pointer (some ⟨B,0,none⟩)] 88 (0,0))):=(Z.block _ (by omega)).trans aq.out;have aL:Hid (w7.heap[w.heap.size+1+1+1]?=some (.cells #[.int .i64 0,.int .i64 0] 247 (0,0))):=(Z.block _ (by omega)).trans aM.out;have aK:Hid (SbX g nu Y wm b n c (y:Int) d' w7):=ap.out.below Z;have aT:Hid (KeepsOthers W5 w7):=⟨Z.size,fun k o ho hc=>(Z.block k (awU.1 ho).1).trans ho⟩;have aR:Hid (KpN bl g V w7):=aS.out.t (KpN.of_below Z ac.out.lt);clear Z;refine rdy 7 (fun K C=>?_);refine acY (by kernel_rfl) ?_;refine abA _ _ _ 69 rfl I.heap.size 116 i0 (.agg #[.int .i64 0,.int .i64 0]) 2 16 underlying69 hi bR bQ bP rfl (by decide) _ m0 _ rfl ad.out a9 nw c9 (aad D) rfl bJ.out.1 (aiA _) (by unfold maxLen;omega) (by omega) A.2 ?_;intro v' w8 a7 H aG;obtain⟨a8,c8,rfl,_,_⟩:=SlK.own a7;obtain⟨k1,k2,k3,k4,k5,k6,k7⟩:=aig (g:=g) bI.out ad.out H aG a7 (by omega) (by omega) (by omega) A.2;have bE:acJ I.heap.size bl W5 w8:=⟨fun k h1 h2=>(axn w8 ⟨bl,0,none⟩ _ k h2).symm.trans ((k6 k h1 h2).trans (A.1 k h1 h2)),k7⟩;have bD:acJ I.heap.size bl W5 (w8.setCell ⟨bl,0,none⟩ (.slice a8 (m0+nw) c8)):=⟨fun k h1 h2=>(k6 k h1 h2).trans (A.1 k h1 h2),by simpa [World.setCell] using k7⟩;have bM:Hid (RowKit.Below w.heap.size w (w8.setCell ⟨bl,0,none⟩ (.slice a8 (m0+nw) c8))):=(ag.out.grown H ag.out.size (fun j hj=>by have:=(aap ad.out j hj).1;omega)).setCell (by show w.heap.size<=bl;omega) _;refine C.out _ _ bE (fun ab=>?_);clear C K ab aG H;have d2:=k2.cell;have d3:=k2.frozen;have d4:=k2.lt;have K1:=ax3 k1;have K3:=ax3 k3;have K4:=ax3 k4;have K5:=ax3 k5;have K6:=ax3 k6;clear k1 k2 k3 k4 k5 k6
    try simp only [Act.put,pA,pB,pC]
    refine rdy 8 (fun K C=>?_);go_simp;refine C.out _ _ bD (fun ab=>?_);clear C K ab
    try simp only [Act.put,pA,pB,pC]
    refine wpAnyH_done (by kernel_rfl) ?_ _;refine agF.normal ?_
    gi_wp2
    refine⟨((aU.out.from _).trans (aT.out.from _)).trans (K5.out.from _),aR.out.t K1.out,⟨_,K3.out,?_⟩,⟨d',?_⟩,bM.out,by simpa [World.setCell] using k7,(K6.out _ (by omega) (by omega)).trans aQ.out,(K6.out _ (by omega) (by omega)).trans aL.out⟩
    · rw [am.out];unfold adV;rw [List.length_append,bL.out,ct.out,acS];exact K4.out
    · rw [bK.out];exact (K6.out g (by omega) (by omega)).trans aK.out
   ·
    go_simp
    go_at_call 244;refine (KH.out W6 (s.out.trans (N.mono s.out.size))).mono ?_;rintro e w7 ⟨a9,c9,rfl,aA,ai⟩
    have Z:=N.trans (ai.mono N.size);refine C.out _ _ ⟨fun k h1 _=>Z.block k (by omega),awT (by omega) Z.size⟩ (fun A=>?_);clear C K
    try simp only [Act.put,pA,pB,pC]
    have bJ:=ax3 aA;have q3:Boxed w7 bl 69 (.slice av m0 cv):=(Z.block bl ac.out.lt).trans ac.out;have q2:=q3.cell;clear q3;refine rdy 0 (fun K C=>?_);go_simp;refine C.out _ _ A (fun _=>?_);clear C K q2 aA ai A
    try simp only [Act.put,pA,pB,pC]
    have A:acJ I.heap.size bl W5 w7:=⟨fun k h1 _=>Z.block k (by omega),awT (by omega) Z.size⟩;have bI:Hid (Boxed w7 bl 69 (.slice av m0 cv)):=(Z.block bl ac.out.lt).trans ac.out;have ad:Hid (w7.ownsRow I.heap.size 116 2 (.slice av m0 cv) m0 (aad Hp)):=aag aP.out Z;have ag:Hid (RowKit.Below w.heap.size w w7):=s.out.trans (Z.mono s.out.size);have aQ:Hid (w7.heap[w.heap.size]?=some (.cells #[.pointer (some ⟨B,0,none⟩)] 88 (0,0))):=(Z.block _ (by omega)).trans aq.out;have aL:Hid (w7.heap[w.heap.size+1+1+1]?=some (.cells #[.int .i64 0,.int .i64 0] 247 (0,0))):=(Z.block _ (by omega)).trans aM.out;have aK:Hid (SbX g nu Y wm b n c (y:Int) d' w7):=ap.out.below Z;have aT:Hid (KeepsOthers W5 w7):=⟨Z.size,fun k o ho hc=>(Z.block k (awU.1 ho).1).trans ho⟩;have aR:Hid (KpN bl g V w7):=aS.out.t (KpN.of_below Z ac.out.lt);clear Z;refine rdy 7 (fun K C=>?_);refine acY (by kernel_rfl) ?_;refine abA _ _ _ 69 rfl I.heap.size 116 i0 (.agg #[.int .i64 0,.int .i64 0]) 2 16 underlying69 hi bR bQ bP rfl (by decide) _ m0 _ rfl ad.out a9 nw c9 (aad D) rfl bJ.out.1 (aiA _) (by unfold maxLen;omega) (by omega) A.2 ?_;intro v' w8 a7 H aG;obtain⟨a8,c8,rfl,_,_⟩:=SlK.own a7;obtain⟨k1,k2,k3,k4,k5,k6,k7⟩:=aig (g:=g) bI.out ad.out H aG a7 (by omega) (by omega) (by omega) A.2;have bE:acJ I.heap.size bl W5 w8:=⟨fun k h1 h2=>(axn w8 ⟨bl,0,none⟩ _ k h2).symm.trans ((k6 k h1 h2).trans (A.1 k h1 h2)),k7⟩;have bD:acJ I.heap.size bl W5 (w8.setCell ⟨bl,0,none⟩ (.slice a8 (m0+nw) c8)):=⟨fun k h1 h2=>(k6 k h1 h2).trans (A.1 k h1 h2),by simpa [World.setCell] using k7⟩;have bM:Hid (RowKit.Below w.heap.size w (w8.setCell ⟨bl,0,none⟩ (.slice a8 (m0+nw) c8))):=(ag.out.grown H ag.out.size (fun j hj=>by have:=(aap ad.out j hj).1;omega)).setCell (by show w.heap.size<=bl;omega) _;refine C.out _ _ bE (fun ab=>?_);clear C K ab aG H;have d2:=k2.cell;have d3:=k2.frozen;have d4:=k2.lt;have K1:=ax3 k1;have K3:=ax3 k3;have K4:=ax3 k4;have K5:=ax3 k5;have K6:=ax3 k6;clear k1 k2 k3 k4 k5 k6
    try simp only [Act.put,pA,pB,pC]
    refine rdy 8 (fun K C=>?_);go_simp;refine C.out _ _ bD (fun ab=>?_);clear C K ab
    try simp only [Act.put,pA,pB,pC]
    refine wpAnyH_done (by kernel_rfl) ?_ _;refine agF.normal ?_
    gi_wp2
    refine⟨((aU.out.from _).trans (aT.out.from _)).trans (K5.out.from _),aR.out.t K1.out,⟨_,K3.out,?_⟩,⟨d',?_⟩,bM.out,by simpa [World.setCell] using k7,(K6.out _ (by omega) (by omega)).trans aQ.out,(K6.out _ (by omega) (by omega)).trans aL.out⟩
    · rw [am.out];unfold adV;rw [List.length_append,bL.out,ct.out,acS];exact K4.out
    · rw [bK.out];exact (K6.out g (by omega) (by omega)).trans aK.out
 case hstop=>exact fun _ _ _ _ _ _ h _=>h.elim
 case hdone=>
  rintro D zs V hD ⟨rfl,z',hG⟩ ⟨⟨v,hv,U⟩,⟨d2,a6⟩,aI,cz,aw,au⟩ cg;obtain⟨-,rfl⟩:=a6.same hG;rw [cq.out] at U;rw [cL.out] at a6;obtain⟨zf,bq⟩:∃X,adf fold wss z F=X:=⟨_,rfl⟩;rw [bq] at a6;obtain⟨av,cv,rfl,_,_⟩:=SlK.own U;obtain⟨nl,bt⟩:∃X,(asL fold wss Y wm bs z d m).length=X:=⟨_,rfl⟩;rw [bt] at hv U;obtain⟨dT,bx⟩:∃X:Int,(d:Int)+(T:Int)=X:=⟨_,rfl⟩;rw [bx] at a6;have ci:=ax3 bq;have cP:=ax3 bx;have cV:=ax3 bt;obtain⟨Dr,bH⟩:∃k,w.heap.size+1+1+1=k:=⟨_,rfl⟩;have cc:bl≠Dr:=by omega
  have cC:g≠Dr:=by omega
  have cf:D≠Dr:=by omega
  have bU:w.heap.size<=Dr:=by omega
  have d6:Dr<bl:=by omega
  have db:=ax3 bH;rw [bH] at au ⊢;clear bH;have KX:Hid (∀X,((∀k,k≠Dr->k≠bl->X.heap[k]?=V.heap[k]?)/\X.cell? ⟨bl,0,none⟩=some (.slice av nl cv))->SbX g nu Y wm b n c (zf:Int) dT X):=fun X hX=>(hX.1 g cC (by omega)).trans a6;have HV:=ax3 hv;have ay:=ax3 U;have aN:=ax3 au;have ah:=ax3 aI;have cu:=ax3 cg;clear U a6 hG aw au aI bq bx bt cg
  go_wp2_with fail
  refine wp_region_noPanic ?_;refine wp_region_held_drew (S:=fun X=>((∀k,k≠Dr->k≠bl->X.heap[k]?=V.heap[k]?)/\X.cell? ⟨bl,0,none⟩=some (.slice av nl cv))) (by kernel_rfl) ⟨fun _ _ _=>rfl,hv.cell⟩ (fun hS=>?_);obtain⟨V1,ak⟩:∃X,X=V.drew:=⟨_,rfl⟩;have ck:Hid (Boxed V1 bl 69 (.slice av nl cv)):=by rw [ak];exact HV.out
  have bo:Hid (adV V1 I.heap.size (.slice av nl cv) (asL fold wss Y wm bs z d m)):=by rw [ak];exact ay.out
  have bk:Hid (V1.heap[Dr]?=some (.cells #[.int .i64 0,.int .i64 0] 247 (0,0))):=by rw [ak];exact aN.out
  have bp:Hid (RowKit.Below w.heap.size w V1):=by rw [ak];exact ah.out.trans ((aa2 V 1).mono ah.out.size)
  have cw:Hid (V1.heap[D]?=some (.deferred (some []))):=by rw [ak];exact cu.out
  rw [<-ak] at hS ⊢;clear ak hv HV ay aN ah cu;refine tkW 0 (v:=?_) ?_ ?_;rotate_left
  ·
   intro V J;have c2:=J.2;obtain⟨⟨g0,g1,g2,g3,g4,g5⟩,f4,f5⟩:=(KX.out V J).cells
   first | (go_simp;done) | (go_simp;with_reducible rfl)
  try simp only [Act.put,pA,pB,pC]
  refine tkW 1 (v:=?_) ?_ ?_;rotate_left
  ·
   intro V J;have c2:=J.2;obtain⟨⟨g0,g1,g2,g3,g4,g5⟩,f4,f5⟩:=(KX.out V J).cells
   first | (go_simp;done) | (go_simp;with_reducible rfl)
  try simp only [Act.put,pA,pB,pC]
  refine tkW 2 (v:=?_) ?_ ?_;rotate_left
  ·
   intro V J;have c2:=J.2;obtain⟨⟨g0,g1,g2,g3,g4,g5⟩,f4,f5⟩:=(KX.out V J).cells
   first | (go_simp;done) | (go_simp;with_reducible rfl)
  try simp only [Act.put,pA,pB,pC]
  refine tkW 3 (v:=?_) ?_ ?_;rotate_left
  ·
   intro V J;have c2:=J.2;obtain⟨⟨g0,g1,g2,g3,g4,g5⟩,f4,f5⟩:=(KX.out V J).cells
   first | (go_simp;done) | (go_simp;with_reducible rfl)
  try simp only [Act.put,pA,pB,pC]
  refine tkW 4 (v:=?_) ?_ ?_;rotate_left
  ·
   intro V J;have c2:=J.2;obtain⟨⟨g0,g1,g2,g3,g4,g5⟩,f4,f5⟩:=(KX.out V J).cells
   first | (go_simp;done) | (go_simp;with_reducible rfl)
  try simp only [Act.put,pA,pB,pC]
  refine tkW 5 (v:=?_) ?_ ?_;rotate_left
  ·
   intro V J;have c2:=J.2;obtain⟨⟨g0,g1,g2,g3,g4,g5⟩,f4,f5⟩:=(KX.out V J).cells
   first | (go_simp;done) | (go_simp;with_reducible rfl)
  try simp only [Act.put,pA,pB,pC]
  refine tkW 6 (v:=?_) ?_ ?_;rotate_left
  ·
   intro V J;have c2:=J.2;obtain⟨⟨g0,g1,g2,g3,g4,g5⟩,f4,f5⟩:=(KX.out V J).cells
   first | (go_simp;done) | (go_simp;with_reducible rfl)
  try simp only [Act.put,pA,pB,pC]
  refine tkW 7 (v:=?_) ?_ ?_;rotate_left
  ·
   intro V J;have c2:=J.2;obtain⟨⟨g0,g1,g2,g3,g4,g5⟩,f4,f5⟩:=(KX.out V J).cells
   first | (go_simp;done) | (go_simp;with_reducible rfl)
  try simp only [Act.put,pA,pB,pC]
  refine tkW 8 (v:=?_) ?_ ?_;rotate_left
  ·
   intro V J;have c2:=J.2;obtain⟨⟨g0,g1,g2,g3,g4,g5⟩,f4,f5⟩:=(KX.out V J).cells
   first | (go_simp;done) | (go_simp;with_reducible rfl)
  try simp only [Act.put,pA,pB,pC]
  refine tkW 9 (v:=?_) ?_ ?_;rotate_left
  ·
   intro V J;have c2:=J.2;obtain⟨⟨g0,g1,g2,g3,g4,g5⟩,f4,f5⟩:=(KX.out V J).cells
   first | (go_simp;done) | (go_simp;with_reducible rfl)
  try simp only [Act.put,pA,pB,pC]
  refine tkW 10 (v:=?_) ?_ ?_;rotate_left
  ·
   intro V J;have c2:=J.2;obtain⟨⟨g0,g1,g2,g3,g4,g5⟩,f4,f5⟩:=(KX.out V J).cells
   first | (go_simp;done) | (go_simp;with_reducible rfl)
  try simp only [Act.put,pA,pB,pC]
  have ae:=bk.out;have r0:V1.cell? ⟨Dr,0,none⟩=some (.int .i64 0):=by simp [World.cell?,ae]
  have r1:V1.cell? ⟨Dr,1,none⟩=some (.int .i64 0):=by simp [World.cell?,ae]
  have r2:V1.frozen? ⟨Dr,0,none⟩=false:=by simp [World.frozen?,ae]
  have r3:V1.frozen? ⟨Dr,1,none⟩=false:=by simp [World.frozen?,ae]
  have aV:=awE (u0:=.int .i64 (zf:Int)) (u1:=.int .i64 dT) ae;clear ae;refine rdy 11 (fun K C=>?_);go_simp;obtain⟨V2,aZ⟩:∃X,X=(V1.setCell ⟨Dr,0,none⟩ (.int .i64 (zf:Int))).setCell ⟨Dr,1,none⟩ (.int .i64 dT):=⟨_,rfl⟩;rw [<-aZ] at aV ⊢;have af:∀k,k≠Dr->V2.heap[k]?=V1.heap[k]?:=fun k hk=>by rw [aZ];exact (axn _ ⟨Dr,1,none⟩ _ k hk).trans (axn V1 ⟨Dr,0,none⟩ _ k hk)
  have ar:Boxed V2 bl 69 (.slice av nl cv):=(af bl cc).trans ck.out;have cR:Hid (RowKit.Below w.heap.size w V2):=by rw [aZ];exact (bp.out.setCell bU _).setCell bU _
  have cM:Hid (V2.heap[Dr]?=some (.cells #[.int .i64 (zf:Int),.int .i64 dT] 247 (0,0))):=aV.1;have cn:Hid (adV V2 I.heap.size (.slice av nl cv) (asL fold wss Y wm bs z d m)):=by
   have h:=bo.out;unfold adV at h ⊢;exact h.kept aV.2 (.inr (fun e=>by have:=(aap h _ e).1;omega))
  have cQ:Hid (V2.heap[D]?=some (.deferred (some []))):=(af D cf).trans cw.out;refine C.out _ _ ⟨fun k h1 h2=>(af k h1).trans (hS.1 k h1 h2),ar.cell⟩ (fun cG=>?_);clear C K r0 r1 r2 r3 aV af aZ ck bo bk bp cw hS
  try simp only [Act.put,pA,pB,pC]
  have c2:=ar.cell;have c3:=ar.lt;have c4:=ar.frozen;have bW:=ar.set (.slice av nl cv);have cj:=ax3 bW;clear bW ar;refine rdy 12 (fun K C=>?_);go_simp;refine C.out _ _ ⟨fun k h1 h2=>(axn V2 ⟨bl,0,none⟩ _ k h2).trans (cG.1 k h1 h2),cj.out.cell⟩ (fun d5=>?_);clear C K c2 c3 c4
  try simp only [Act.put,pA,pB,pC]
  refine tkA 13 ?_;refine wpAnyH_done (by kernel_rfl) ?_ _;refine ax4 ?_;obtain⟨V3,ax⟩:∃X,X=V2.setCell ⟨bl,0,none⟩ (.slice av nl cv):=⟨_,rfl⟩;have x1:V3.heap[D]?=some (.deferred (some [])):=by rw [ax];exact (axn V2 ⟨bl,0,none⟩ _ D (by show D≠bl;omega)).trans cQ.out
  have x2:V3.heap[Dr]?=some (.cells #[.int .i64 (zf:Int),.int .i64 dT] 247 (0,0)):=by rw [ax];exact (axn V2 ⟨bl,0,none⟩ _ Dr (Ne.symm cc)).trans cM.out
  have x3:RowKit.Below w.heap.size w V3:=by rw [ax];exact cR.out.setCell (by show w.heap.size<=bl;omega) _
  have x4:adV V3 I.heap.size (.slice av nl cv) (asL fold wss Y wm bs z d m):=by
   rw [ax];have h:=cn.out;unfold adV at h ⊢;exact h.kept (aa9 V2 bl 0 _) (.inr (fun e=>by have:=(aap h _ e).1;omega))
  have x5:Boxed V3 bl 69 (.slice av nl cv):=by rw [ax];exact cj.out
  have cI:D≠bl:=by omega
  go_wp2;rw [<-ax];refine ar0 rfl x1 (aea rfl rfl rfl ((ayn (Ne.symm cf)).trans x2) ((axp (a:=⟨bl,0,none⟩) (ayn (Ne.symm cI))).trans x5.cell)) ⟨.slice av nl cv,?_,?_,aaS x3 (by omega) (axe _) _⟩
  ·
   rw [ci.out,cP.out]
   rfl
  ·
   have h:=agu x4 (show w.heap.size<=I.heap.size by omega);unfold adV at h ⊢;refine h.kept (grownBy_putObj' V3 D _) ?_
   rcases x4.2 with ⟨e0,_⟩ | ⟨g',cap,d8,e0,_,c6,_⟩
   · rw [e0];exact .inl rfl
   ·
    refine .inr fun e=>?_;rw [e0] at e;have e':g'=D:=by simpa [Value.ownBlock] using e
    rw [e',x1] at c6
    cases c6
end
def slZ (fold:Bool)(wss:List (List Int))(Y wm:Int)(Z:List Int)(z d m:Int):Int:=if ark fold wss Y wm Z.length z d=true then ((adf fold wss z.toNat (agM Z d m):Nat):Int) else z
def slD (fold:Bool)(wss:List (List Int))(Y wm:Int)(Z:List Int)(z d m:Int):Int:=if ark fold wss Y wm Z.length z d=true then d+((abJ Z.length d m:Nat):Int) else d
def slH (fold:Bool)(wss:List (List Int))(Z wm:Int)(Y:List Int)(z d m:Int):List aam:=if ark fold wss Z wm Y.length z d=true then asL fold wss Z wm Y z d m else []
def slO (fold:Bool)(wss:List (List Int))(Y wm:Int)(Z:List Int)(z d m:Int):Bool:=if ark fold wss Y wm Z.length z d=true then decide (d+((abJ Z.length d m:Nat):Int)=(Z.length:Int)) else false
section
variable {fold:Bool}{wss:List (List Int)}
theorem ai8 {Z wm:Int}{n:Nat}{z d:Int}(h:ark fold wss Z wm n z d=true):aan fold wss=true/\ak4 (aaY wss) Z wm n=true/\(0<=z/\z<((aa0 wss).length:Int))/\0<=d/\d<=(n:Int):=by
 unfold ark at h;rw [ayz,ayz,ayz] at h;obtain⟨⟨⟨h1,h2⟩,h3⟩,h4⟩:=h;unfold au3 at h2;have h2:=of_decide_eq_true h2;have h4:=of_decide_eq_true h4;exact⟨h1,h3,h2.1,h4⟩
theorem arq (Y:aan fold wss=true)(Z wm:Int)(n:Nat)(z d:Int):avc (aa0 wss).length (aaY wss) Z wm n z d=ark fold wss Z wm n z d:=by
 unfold ark avc au3;rw [Y,ayC,axq];simp only [ayz,decide_eq_true_eq]
 constructor
 · rintro ⟨h1,h2⟩;exact⟨⟨⟨h2.1,by omega⟩,h1⟩,h2.2⟩
 · rintro ⟨⟨h1,h2⟩,h3⟩;exact⟨h2,h1.1,h3⟩
end
structure avR (W:World)(p:Option Addr)(fold:Bool)(wss:List (List Int)):Prop where
 right:∀V,Below W.heap.size W V->∀(nu st wm:Int) (b:Option Addr) (n c:Nat) (z d:Int),n<=900000->Calls ZP 241 #[.pointer p,.agg (blV nu st wm b n c),prV z d] V fun e w'=>e=.returned (.bool (ark fold wss st wm n z d))/\Below V.heap.size V w'
 slice:∀V,Below W.heap.size W V->∀(nu st wm:Int) (b:Option Addr) (n c:Nat) (bs:List Int) (z d m:Int),Bys V b n bs->n<=900000->(-9223372036854775808<=m/\m<=9223372036854775807)->
  Calls ZP 200 #[.pointer p,.agg (blV nu st wm b n c),prV z d,.int .i64 m] V fun e w'=>∃v,e=.returned (.tuple #[prV (slZ fold wss st wm bs z d m) (slD fold wss st wm bs z d m),v,.bool (slO fold wss st wm bs z d m)])/\adV w' V.heap.size v (slH fold wss st wm bs z d m)/\Below V.heap.size V w'
theorem amn {p:Option Addr}{fold:Bool}{wss:List (List Int)}(X Z wm:Int)(b:Option Addr)(n c:Nat)(Y:List Int)(z d m:Int)(V:World)(H:Bys V b n Y)(N:ark fold wss Z wm n z d=false)
  (I:∀W,Below V.heap.size V W->Calls ZP 241 #[.pointer p,.agg (blV X Z wm b n c),prV z d] W fun e w'=>e=.returned (.bool false)/\Below W.heap.size W w') :
  Calls ZP 200 #[.pointer p,.agg (blV X Z wm b n c),prV z d,.int .i64 m] V fun e w'=>∃v,e=.returned (.tuple #[prV (slZ fold wss Z wm Y z d m) (slD fold wss Z wm Y z d m),v,.bool (slO fold wss Z wm Y z d m)])/\adV w' V.heap.size v (slH fold wss Z wm Y z d m)/\Below V.heap.size V w':=by
 have U:Y.length=n:=H.len;unfold slZ slD slH slO;rw [U,N];refine (aod p X Z wm b n c z d m V I).mono ?_;rintro e w' ⟨rfl,J⟩;simp only [Bool.false_eq_true,if_false];exact⟨_,rfl,ayy _ _ _ _,J⟩
theorem aoH {v W:World}{B:Nat}{fold:Bool}{wss:List (List Int)}(I:alm v B fold wss W)(U:aan fold wss=true):avR W (some ⟨B,0,none⟩) fold wss:=by
 refine⟨fun V N Y Z wm b n c z d A=>?_,fun V N Y Z wm b n c C z d m D A y=>?_⟩
 · rw [<-arq U];exact aeo Y Z wm b n c z d V (I.below N) (by omega)
 ·
  cases X:ark fold wss Z wm n z d with
  | false=>
   refine amn Y Z wm b n c C z d m V D X (fun x J=>?_);have h:=aeo Y Z wm b n c z d x ((I.below N).below J) (by omega)
   rwa [arq U,X] at h
  | true=>
   have H:C.length=n:=D.len;unfold slZ slD slH slO;rw [H,X];obtain⟨h1,h2,⟨h3,h4⟩,h5,h6⟩:=ai8 X;obtain⟨z,rfl⟩:∃k:Nat,z=(k:Int):=⟨z.toNat,by omega⟩;obtain⟨d,rfl⟩:∃k:Nat,d=(k:Int):=⟨d.toNat,by omega⟩;simp only [if_true,axs];exact alA Y Z wm b n c z d m C V (I.below N) D A U y (by rw [arq U,X])
def scF (fold:Bool)(wss:List (List Int))(S:Nat)(st wm:Nat)(bs:List Int)(z d:Nat):Nat×Nat×List aam×Bool:=((slZ fold wss st wm bs z d S).toNat,(slD fold wss st wm bs z d S).toNat,slH fold wss st wm bs z d S,slO fold wss st wm bs z d S)
section
variable {fold:Bool}{wss:List (List Int)}{S st wm z d:Nat}{bs:List Int}{c:CfM}
theorem awo:((scF fold wss S st wm bs z d).1:Int)=slZ fold wss st wm bs z d S:=by
 show (((slZ fold wss st wm bs z d S).toNat:Nat):Int)=_;unfold slZ
 split<;>omega
theorem awm:((scF fold wss S st wm bs z d).2.1:Int)=slD fold wss st wm bs z d S:=by
 show (((slD fold wss st wm bs z d S).toNat:Nat):Int)=_;unfold slD
 split<;>omega
theorem awp {q B:Nat}{Wm:World}(I:ahS q B fold wss Wm)(Y:aan fold wss=true)(U:c.scan=scF fold wss c.S)(C:c.S<=256)(V:World)(N:afj q Wm V):asm B c V:=by
 intro Z st wm b n D bs z d H X;have J:alm V B fold wss V:=(I.kept N).use;refine ((aoH J Y).slice V (axf _ _) Z st wm b n D bs z d c.S H X (by omega)).mono ?_;rintro e w' ⟨v,rfl,h1,h2⟩;rw [U];exact⟨v,by rw [awo,awm];rfl,h1,h2⟩
theorem aw9 {q B L:Nat}{Wm:World}(X:ahS q B fold wss Wm)(Y:aaY wss=(L:Int))(V:World)(Z:afj q Wm V):Calls ZP 95 #[.pointer (some ⟨B,0,none⟩)] V fun e w'=>e=.returned (.int .i64 (L:Int))/\V=w':=by
 rw [<-Y];exact (X.kept Z).use.longest
theorem auN (V:c.scan=scF fold wss c.S)(Y:(aa0 wss).length<=400):amB c 400 (c.K+c.wm):=by
 intro st wm bs z d U X;rw [V];unfold scF slD slH;dsimp only
 split
 ·
  rename_i h
  obtain⟨_,_,⟨h1,h2⟩,h3,h4⟩:=ai8 h;have Z:=agb (n:=bs.length) (d:=(d:Int)) (m:=(c.S:Int)) h3 h4;rw [axs] at Z;have e:((d:Int)+((abJ bs.length d c.S:Nat):Int)).toNat=d+abJ bs.length d c.S:=by omega
  rw [e];refine⟨by omega,by omega,?_⟩;unfold asL ae8;refine awT (List.length_filter_le _ _) (awT (akB _ _ _ (by omega)) (axA Y ?_));unfold agM;rw [ay6];omega
 · rw [axs];exact⟨axe _,X,axh _⟩
end
theorem aqA:(ZP.info? 32).map (fun i=>(i.zero,i.size,i.bytes))=some (some (.slice none 0 0),1,24):=by kernel_rfl
theorem avY {n i:Nat}(h2:n<=1000000)(h:i<n):wrap64 ((i:Int)+1)=((i+1:Nat):Int):=by unfold wrap64;omega
structure NwS (base S:Nat)(tv:Value)(vs:List TVw)(rs:List (List Int))(br:Bool)(w:World):Prop where
 box:w.heap[S]?=some (.cells #[tv,.bool br,.int .i64 0] 186 (0,0))
 inX:base<=S
 row:w.ownsRow base 32 1 tv rs.length (vs.map svW)
 tS:tv.ownBlock≠some S
 len:vs.length=rs.length
 el:∀(i:Nat) (v:TVw) (xs:List Int),vs[i]?=some v->rs[i]?=some xs->Bys w v.1 v.2.1 xs/\v.2.1<=v.2.2/\∀q,v.1=some q->base<=q.block/\q.block<w.heap.size/\q.block≠S/\tv.ownBlock≠some q.block
section
variable {base S:Nat}{tv:Value}{vs:List TVw}{rs:List (List Int)}{br:Bool}{w D:World}
theorem NwS.keep (h:NwS base S tv vs rs br w)(Z:Below w.heap.size w D):NwS base S tv vs rs br D:=by
 refine⟨(Z.block _ (awU.1 h.box).1).trans h.box,h.inX,aag h.row Z,h.tS,h.len,fun i v xs X Y=>?_⟩;obtain⟨h1,h2,h3⟩:=h.el i v xs X Y;exact⟨h1.below Z,h2,fun q e=>let ⟨g1,g2,g3⟩:=h3 q e;⟨g1,ax6 g2 Z.size,g3⟩⟩
theorem NwS.src (h:NwS base S tv vs rs br w):∃a c,adS (fun k=>base<=k) S a rs.length c vs rs br 0 w:=by
 obtain⟨a,c,rfl,H,U⟩:=SlK.own h.row;refine⟨a,c,h.box,h.inX,⟨h.len,?_⟩,fun h0 q N=>?_,h.len,H,fun i v xs V X=>?_⟩
 ·
  rcases U.2 with h | ⟨b,off,e,J,Z⟩
  · exact .inl h
  · exact .inr ⟨b,off,e,J,fun i x I=>Z i _ (by rw [axa,I];rfl)⟩
 ·
  subst N
  rcases h.row.2 with ⟨e,C⟩ | ⟨g,cap,Y,e,h1,h2,_⟩
  · cases e
  ·
   cases e
   exact⟨h1,fun e=>h.tS (by rw [<-e];rfl),Y,h2⟩
 · obtain⟨h1,h2,h3⟩:=h.el i v xs V X;refine⟨h1,h2,fun _ q e=>?_⟩;obtain⟨z,o,A,B⟩:=h3 q e;exact⟨z,A,fun q' s y=>B (by rw [s,y];rfl)⟩
theorem NwS.app (h:NwS base S tv vs rs br D)(x:List Int)(hx:∀y∈x,0<=y/\y<=255){Z:World}{v:TVw}(ho:Z.ownsRow D.heap.size 5 1 (svW v) x.length (x.map (Value.int .u8)))(hb:Below D.heap.size D Z)(hn:rs.length<=1000000) :
  ∃I c1 X,(Builtin.append_ #[22,22] 22 #[tv,.slice (some ⟨Z.heap.size,0,none⟩) 1 1]).run ZP (Z.alloc (.cells #[svW v] 32))=.ok (.slice I (rs.length+1) c1) X/\X.frozen? ⟨S,0,none⟩=false/\X.cell? ⟨S,0,none⟩=some tv/\
   NwS base S (.slice I (rs.length+1) c1) (vs++[v]) (rs++[x]) br (X.setCell ⟨S,0,none⟩ (.slice I (rs.length+1) c1))/\Below base D (X.setCell ⟨S,0,none⟩ (.slice I (rs.length+1) c1)):=by
 obtain⟨i0,hi,ae,ad,ac⟩:=info_parts aqA;obtain⟨A,hA⟩:∃A,A=Z.alloc (.cells #[svW v] 32):=⟨_,rfl⟩;have J:Below Z.heap.size Z A:=by rw [hA];exact aa1 _ _
 have am:A.heap.size=Z.heap.size+1:=by rw [hA];simp
 have ab:Below D.heap.size D A:=hb.trans (J.mono hb.size);have aq:=(awU.1 h.box).1;have h5:=h.keep hb;have af:SlK 1 A (some ⟨Z.heap.size,0,none⟩) 1 [svW v]:=by
  have hx:A.heap[Z.heap.size]?=some (.cells #[svW v] 32 (0,0)):=by rw [hA];exact axg _ _
  refine⟨rfl,.inr ⟨_,0,rfl,by omega,fun i u hu=>?_⟩⟩;have e:A.cell? ⟨Z.heap.size,0+i,none⟩=(#[svW v]:Array Value)[0+i]?:=by simp only [World.cell?,hx];simp
  rw [e,axz];show (List.toArray [svW v])[i]?=some u;rw [ax9];exact hu
 have a2:=aag h5.row J;rw [<-hA];obtain⟨v1,X,hr,a6,o,aa⟩:=aaq (P:=ZP) A base 22 22 32 i0 (.slice none 0 0) 1 24 underlying22 hi ae ad ac rfl (by decide) tv rs.length (vs.map svW) a2 (some ⟨Z.heap.size,0,none⟩) 1 1 [svW v] af (by simp [Value.oneCell',svW]) (by unfold maxLen;omega) (by omega) (by have:=h.inX;have:=ab.size;omega);obtain⟨I,c1,rfl,_,_⟩:=SlK.own a6;have a8:=o.size;have ar:=hb.size;have Y:∀k,k<Z.heap.size->tv.ownBlock≠some k->X.heap[k]?=Z.heap[k]?:=fun k hk H=>(o.block k (by omega) (fun e=>H e.symm)).trans (J.block k hk);have j:X.heap[S]?=some (.cells #[tv,.bool br,.int .i64 0] 186 (0,0)):=(Y S (by omega) h.tS).trans h5.box;have s:∀g,(Value.slice I (rs.length+1) c1).ownBlock=some g->tv.ownBlock=some g∨g=A.heap.size:=fun g e=>by
  rcases aa with V | V
  · rw [V] at e;exact .inl e
  · rw [V] at e;exact .inr (awV e).symm
 have C:(Value.slice I (rs.length+1) c1).ownBlock≠some S:=fun e=>by
  rcases s S e with V | V
  · exact h.tS V
  · omega
 have N:∀k,k≠S->(X.setCell ⟨S,0,none⟩ (.slice I (rs.length+1) c1)).heap[k]?=X.heap[k]?:=fun k hk=>axn X ⟨S,0,none⟩ _ k hk;have z:X.heap.size<=(X.setCell ⟨S,0,none⟩ (.slice I (rs.length+1) c1)).heap.size:=by simp [World.setCell]
 have B:∀g,tv.ownBlock=some g->base<=g/\g<D.heap.size:=fun g e=>acx h.row g e;refine⟨I,c1,X,hr,by simp [World.frozen?,j],by simp [World.cell?,j],⟨aa4 (i:=0) j _,h.inX,?_,C,by simp [h.len],fun i v' xs hv U=>?_⟩,?_⟩
 · rw [List.length_append,ay7];exact aaX a6 fun g ai=>N g fun e=>C (by rw [<-e];exact ai)
 ·
  by_cases a7:i<vs.length
  ·
   rw [ax8 a7] at hv;rw [ax8 (by rw [<-h.len];exact a7)] at U;obtain⟨h1,h2,h3⟩:=h5.el i v' xs hv U;obtain⟨_,_,al⟩:=h.el i v' xs hv U;refine⟨h1.same (awT (awT J.size a8) z) fun h0 q e=>?_,h2,fun q e=>?_⟩
   · obtain⟨g1,g2,g3,g4⟩:=h3 q e;exact (N _ g3).trans (Y _ g2 g4)
   ·
    obtain⟨g1,g2,g3,g4⟩:=al q e;refine⟨g1,by omega,g3,fun V=>?_⟩
    rcases s _ V with e3 | e3
    · exact g4 e3
    · omega
  ·
   obtain rfl:i=vs.length:=by
    have:=(awR.1 hv).1;simp at this;omega
   rw [az9 (axe _),ayh] at hv;rw [h.len,az9 (axe _),ayh] at U
   cases awV hv
   cases awV U
   have ah:=acx ho;obtain⟨a5,c5,ev,ap,ag⟩:=SlK.own ho;have e1:=congrArg (fun u=>match u with | Value.slice a _ _=>a | _=>none) ev;have V:=congrArg (fun u=>match u with | Value.slice _ n _=>n | _=>0) ev;have e3:=congrArg (fun u=>match u with | Value.slice _ _ c=>c | _=>0) ev;dsimp only [svW] at e1 V e3;have hq:∀q,v.1=some q->D.heap.size<=q.block/\q.block<Z.heap.size:=fun q e=>ah _ (by rw [ev,<-e1,e];rfl);have H:∀q,v.1=some q->tv.ownBlock≠some q.block:=fun q e e4=>by have:=hq q e;have:=B _ e4;omega
   have ak:Bys Z v.1 v.2.1 x:=by
    refine⟨⟨V.symm,?_⟩,hx⟩;rw [e1,V]
    rcases ag.2 with h | ⟨b,off,e,hl,aj⟩
    · exact .inl h
    · exact .inr ⟨b,off,e,hl,fun i x hi=>aj i _ (by rw [axa,hi];rfl)⟩
   refine⟨ak.same (awT (awT J.size a8) z) fun h0 q e=>?_,by omega,fun q e=>?_⟩
   · have:=hq q e;exact (N _ (by omega)).trans (Y _ this.2 (H q e))
   ·
    have h7:=hq q e;have h8:=h.inX;refine⟨by omega,by omega,by omega,fun V=>?_⟩
    rcases s _ V with e3 | e3
    · exact H q e e3
    · omega
 · have hX:Chg (fun k=>base<=k) D (X.setCell ⟨S,0,none⟩ (.slice I (rs.length+1) c1)):=((Chg.of_same ab).grown o fun g e _=>(B g e).1).set h.inX;exact hX.below (by have:=h.inX;omega) fun k hk ao=>by omega
theorem NwS.new {base:Nat}{br:Bool}{w:World}{S:Nat}(Y:w.heap[S]?=some (.cells #[.slice none 0 0,.bool br,.int .i64 0] 186 (0,0)))(h:base<=S):NwS base S (.slice none 0 0) [] [] br w:=
 ⟨Y,h,ayy _ _ _ _,by simp [Value.ownBlock],rfl,fun i v xs Z=>by simp at Z⟩
end
def awv (w:World)(a:Option Addr)(n:Nat)(vs:List TVw)(rs:List (List Int)):Prop:=Sl1 svW w a n vs/\vs.length=rs.length/\∀(i:Nat) (v:TVw) (xs:List Int),vs[i]?=some v->rs[i]?=some xs->Bys w v.1 v.2.1 xs
theorem aqn (a:Option Addr)(n c:Nat)(vs:List TVw)(rs:List (List Int))(br:Bool)(w:World)(h:awv w a n vs rs)(hn:n<=1000000)(hl:∀x∈rs,x.length<=1000000) :
  Calls ZP 55 #[.bool br,.slice a n c] w fun e w'=>∃S a' c' X,e=.returned (.pointer (some ⟨S,0,none⟩))/\adS (fun k=>w.heap.size<=k) S a' rs.length c' X rs br 0 w'/\Below w.heap.size w w':=by
 have aa:rs.length=n:=by rw [<-h.2.1];exact h.1.1
 have H:=ax3 h;have HL:=ax3 hl;have HN:=ax3 aa;clear h hl aa;go_enter func55,ntmps55;go_upto_region 3 with fail
 obtain⟨W0,B⟩:∃W,W=w.alloc (.cells #[.slice none 0 0,.bool br,.int .i64 0] 186):=⟨_,rfl⟩;obtain⟨S,hS⟩:∃S,S=w.heap.size:=⟨_,rfl⟩;have V:RowKit.Below w.heap.size w W0:=by rw [B];exact aa1 _ _
 have U:∃tv X,NwS w.heap.size S tv X (rs.take 0) br W0:=⟨_,_,NwS.new (by rw [B,hS];exact axg _ _) (by omega)⟩;rw [<-B,<-hS];have HS:=ax3 hS;clear B hS;have ah:=ax3 U;have ai:=ax3 V;clear U V
 go_loopw [13] (fun aj wr=>∃(i:Nat),i<=n/\aj=.int .i64 i/\Hid (∃tv X,NwS w.heap.size S tv X (rs.take i) br wr)/\Hid (RowKit.Below w.heap.size w wr)) (fun s _=>n-(intOf s).toNat)
 case atStart=>exact⟨0,axh _,rfl,ah,ai⟩
 case round=>
  clear ah ai;obtain⟨i,ao,rfl,U,V⟩:=hrel
  by_cases ad:i<n
  ·
   have hd:decide ((i:Int)<n)=true:=by simp;omega
   have y:i<rs.length:=by rw [HN.out];exact ad
   have ac:i<vs.length:=by rw [H.out.2.1];exact y
   obtain⟨x,hx⟩:∃x,rs[i]?=some x:=⟨rs[i],ay4 y⟩;obtain⟨v,hv⟩:∃v,vs[i]?=some v:=⟨vs[i],ay4 ac⟩;have j:=H.out.2.2 i v x hv hx;obtain⟨b,o,rfl,ae,af⟩:=H.out.1.2.resolve_left (by omega);have r0:wr.cell? ⟨b,o+i,none⟩=some (.slice v.1 v.2.1 v.2.2):=(V.out.cell (p:=⟨b,o+i,none⟩) ae).trans (af i v hv);have ab:x.length<=1000000:=HL.out x (ay9 hx);have a6:v.2.1=x.length:=j.1.1.symm;have a8:rs.take (i+1)=rs.take i++[x]:=by rw [axH,hx];rfl
   have a7:(rs.take i).length=i:=by rw [ay6];omega
   obtain⟨tv,X,N⟩:=U.out;obtain⟨D,hD⟩:∃D,D=wr.drew:=⟨_,rfl⟩;have C:Below wr.heap.size wr D:=by rw [hD];exact aa2 wr 1
   have z:=N.keep C;have ag:=V.out.trans (C.mono V.out.size);have sD:D.cell? ⟨S,0,none⟩=some tv:=by simp [World.cell?,z.box]
   have J:Bys D v.1 v.2.1 x:=(j.below (V.out.mono (axe _))).below C;have HC:=ax3 (ai3 v.1 v.2.1 v.2.2 (x.map (Value.int .u8)) D (anH J.1) (fun u hu=>by obtain⟨x,_,rfl⟩:=axE.1 hu;rfl) (by omega));rw [a6] at r0 HC;obtain⟨va,vn,vc⟩:=v;dsimp only at r0 HC;have HX:=ax3 (And.intro J.2 (And.intro ab (And.intro a8 a7)));have ak:=ax3 z;have al:=ax3 ag;have i1:(0:Int)<=(i:Int):=by omega
   have i2:(i:Int)<(n:Int):=by omega
   have am:IntKind.i64.wrap ((i:Int)+1)=((i+1:Nat):Int):=by rw [ax2];omega
   have a2:wrap64 ((i:Int)+1)=((i+1:Nat):Int):=avY hn ad;clear j af ae ab a6 a8 a7 N C z ag J hx hv y ac U;go_upto_region 5 with fail
   refine wp_region_noPanic ?_;refine wp_region_held_drew (S:=fun Y=>True) (by kernel_rfl) trivial (fun hHeld=>?_);rw [<-hD];clear hD;refine tkA 0 ?_;refine tkA 1 ?_;refine tkA 2 ?_;refine tkA 3 ?_;refine tkA 4 ?_;refine tkA 6 ?_;refine awN 5 7 (fun K Z=>?_) (fun K Z=>?_)
   focus
    go_simp;refine Z.out _ _ trivial (fun h5=>?_);clear Z K
    try simp only [Act.put,pA,pB,pC]
    refine rdy 7 (fun K Z=>?_);go_simp
    go_at_call 104;refine HC.out.mono ?_;rintro e I ⟨v5,rfl,ho,hb⟩
    obtain⟨a5,c5,A,_,_⟩:=SlK.own ho;subst A;refine Z.out _ _ trivial (fun h7=>?_);clear Z K
    try simp only [Act.put,pA,pB,pC]
    have s5:I.cell? ⟨S,0,none⟩=some tv:=(hb.cell (p:=⟨S,0,none⟩) (awQ D _ sD)).trans sD;have sA:(I.alloc (.cells #[.slice a5 x.length c5] 32)).cell? ⟨S,0,none⟩=some tv:=((aa1 I _).cell (p:=⟨S,0,none⟩) (awQ I _ s5)).trans s5;have HO:=ax3 ho;have HB:=ax3 hb;clear ho hb;refine rdy 8 (fun K Z=>?_);go_simp;refine Z.out _ _ trivial (fun h8=>?_);clear Z K
    try simp only [Act.put,pA,pB,pC]
   rotate_left
   focus
    go_simp
    go_at_call 104;refine HC.out.mono ?_;rintro e I ⟨v5,rfl,ho,hb⟩
    obtain⟨a5,c5,A,_,_⟩:=SlK.own ho;subst A;refine Z.out _ _ trivial (fun h7=>?_);clear Z K
    try simp only [Act.put,pA,pB,pC]
    have s5:I.cell? ⟨S,0,none⟩=some tv:=(hb.cell (p:=⟨S,0,none⟩) (awQ D _ sD)).trans sD;have sA:(I.alloc (.cells #[.slice a5 x.length c5] 32)).cell? ⟨S,0,none⟩=some tv:=((aa1 I _).cell (p:=⟨S,0,none⟩) (awQ I _ s5)).trans s5;have HO:=ax3 ho;have HB:=ax3 hb;clear ho hb;refine awN 5 8 (fun K Z=>?_) (fun K Z=>?_)
    focus
     go_simp;refine Z.out _ _ trivial (fun h5=>?_);clear Z K
     try simp only [Act.put,pA,pB,pC]
     refine rdy 8 (fun K Z=>?_);go_simp;refine Z.out _ _ trivial (fun h8=>?_);clear Z K
     try simp only [Act.put,pA,pB,pC]
    rotate_left
    focus
     go_simp;refine Z.out _ _ trivial (fun h8=>?_);clear Z K
     try simp only [Act.put,pA,pB,pC]
     refine rdy 5 (fun K Z=>?_);go_simp;refine Z.out _ _ trivial (fun h5=>?_);clear Z K
     try simp only [Act.put,pA,pB,pC]
   all_goals
    clear s5 sA sD;obtain⟨a1,c1,W1,hr,f1,k1,g1,g2⟩:=ak.out.app (v:=(a5,x.length,c5)) x HX.out.1 HO.out HB.out (by have:=HX.out.2.2.2;omega);have HR:=ax3 hr;have G1:Hid (∃tv X,NwS w.heap.size S tv X (rs.take (i+1)) br (W1.setCell ⟨S,0,none⟩ (.slice a1 ((rs.take i).length+1) c1))):=⟨_,_,by rw [HX.out.2.2.1];exact g1⟩;have G2:=ax3 (al.out.trans g2);obtain⟨L,hL⟩:∃L,(rs.take i).length+1=L:=⟨_,rfl⟩;rw [hL] at HR G1 G2;clear g1 g2 hr hL HC;refine rdy 9 (fun K Z=>?_);refine aaP (.tmp 22) (.tmp 25) 22 rfl _ _ rfl rfl rfl HR.out ?_;refine Z.out _ _ trivial (fun h9=>?_);clear Z K
    try simp only [Act.put,pA,pB,pC]
    refine tkA 10 ?_;refine tkA 11 ?_;refine tkA 12 ?_;refine rdy 13 (fun K Z=>?_);go_simp;refine Z.out _ _ trivial (fun ap=>?_);clear Z K
    try simp only [Act.put,pA,pB,pC]
    refine wpAnyH_done (by kernel_rfl) ?_ _;refine ax4 ?_;go_wp2
    go_roundw
    case rel=>exact⟨i+1,by omega,by first | rfl | simp [a2],G1,G2⟩
    case measure=>(try simp only [a2]);simp [intOf];omega
  ·
   obtain rfl:i=n:=by omega
   have hd:decide ((i:Int)<i)=false:=by simp
   go_wp2;go_ret;obtain⟨tv,X,N⟩:=U.out;rw [<-HN.out,ayS] at N;obtain⟨a',c',hs⟩:=N.src;exact⟨S,a',c',X,rfl,hs,V.out⟩
theorem aoM:(ZP.info? 4).map (fun i=>(i.zero,i.size,i.bytes))=some (some (.bool false),1,1):=by kernel_rfl
theorem atb:(ZP.info? 5).map (fun i=>(i.zero,i.size,i.bytes))=some (some (.int .u8 0),1,1):=by kernel_rfl
theorem atv:(ZP.info? 32).map (fun i=>(i.zero,i.size,i.bytes))=some (some (.slice none 0 0),1,24):=by kernel_rfl
theorem ana (z:Value)(n:Nat):madeCells #[z] n=(List.replicate n z).toArray:=by
 rw [<-toList_madeCells_one z n,Array.toArray_toList]
theorem awG {n i:Nat}(h2:n<=16)(h:i<n):wrap64 ((i:Int)+1)=((i+1:Nat):Int):=by unfold wrap64;omega
def frN (n i:Nat):List Int:=((List.range n).reverse.take i).map fun x:Nat=>(x:Int)
theorem auK (n:Nat):frN n n=(List.range n).reverse.map fun x:Nat=>(x:Int):=by
 unfold frN;rw [axo (by simp)]
theorem asi {n i:Nat}(h:i<n):frN n (i+1)=frN n i++[(n:Int)-1-i]:=by
 unfold frN;have Z:i<(List.range n).reverse.length:=by simp;exact h
 rw [List.take_succ_eq_append_getElem Z,ay7];congr 1;simp;omega
theorem aus (n i:Nat):(frN n i).length<=i:=by unfold frN;simp;omega
theorem acG.new {base U D B n size:Nat}{w:World}(N:w.heap[U]?=some (.cells (List.replicate n (Value.bool false)).toArray 4 (0,0)))(J:w.heap[D]?=some (.cells (List.replicate n (Value.slice none 0 0)).toArray 32 (0,0)))
  (I:w.heap[B]?=some (.cells #[.slice none 0 0,.int .i64 (size:Int),.slice (some ⟨U,0,none⟩) n n,.slice (some ⟨D,0,none⟩) n n] 210 (0,0))) (h1:base<=U) (h2:base<=D) (h3:base<=B) (h4:U≠D) (h5:U≠B) (h6:D≠B) :
  acG (fun k=>base<=k) (fun k=>if k=B then 1 else if k=U then 2 else 3) B U D (.slice none 0 0) (List.replicate n (.slice none 0 0)) size (frN n 0) (List.replicate n false) (List.replicate n []) w:=by
 have V:(List.replicate n false).length=n:=axC;refine⟨by rw [V];exact I,by rw [List.map_replicate];exact N,J,⟨h3,h1,h2⟩,⟨if_pos rfl,by rw [if_neg h5,if_pos rfl],by rw [if_neg h6,if_neg (Ne.symm h4)]⟩,⟨afd.nil _ _ _ _,fun g Z=>by cases Z⟩,by simp,fun i v xs X Y=>?_⟩;have C:=ay8 (ay9 X);have H:=ay8 (ay9 Y);subst C H;exact⟨afd.nil _ _ _ _,fun g Z=>by cases Z⟩
theorem acG.room {X:Nat->Prop}{Y:Nat->Nat}{B U D size:Nat}{A:Value}{I:List Value}{fr:List Int}{us:List Bool}{n i cap:Nat}{cs:Array Value}{w:World}(h:acG X Y B U D A I size fr us (List.replicate n []) w)(hi:i<n)(j:cs.size=cap)(C:cap<=1000) :
  ∃Z J,acG (fun k=>X k∨w.heap.size<=k) Z B U D A J size fr us (List.replicate n []) ((w.alloc (.cells cs 5)).setCell ⟨D,i,none⟩ (.slice (some ⟨w.heap.size,0,none⟩) 0 cap))/\Chg X w ((w.alloc (.cells cs 5)).setCell ⟨D,i,none⟩ (.slice (some ⟨w.heap.size,0,none⟩) 0 cap))/\(w.alloc (.cells cs 5)).frozen? ⟨D,i,none⟩=false/\(∃u,(w.alloc (.cells cs 5)).cell? ⟨D,i,none⟩=some u):=by
 have o:=h.dl;rw [axC] at o;have N:i<I.length:=by omega
 have s:(w.alloc (.cells cs 5)).heap[w.heap.size]?=some (.cells cs 5 (0,0)):=axg _ _;obtain⟨H,x,y,z⟩:=h.setD (v:=I[i]) (v':=.slice (some ⟨w.heap.size,0,none⟩) 0 cap) (xs':=[]) (V:=w.alloc (.cells cs 5)) i (ay4 N) ⟨rfl,.inr ⟨_,cap,cs,rfl,axh _,s,axh _,by unfold maxLen;omega,by omega,by simp⟩⟩ (.of_same (aa1 _ _)) (fun g e=>.inr (by have:=awV e;exact axL this));rw [List.set_replicate_self] at H;exact⟨_,_,H,x,y,z⟩
theorem asb (n size:Nat)(w:World)(h1:1<=n)(h2:n<=16)(h3:1<=size)(h4:size<=288) :
  Calls ZP 96 #[.int .i64 (n:Int),.int .i64 (size:Int)] w fun e w'=>∃B U D,e=.returned (.tuple #[.pointer (some ⟨B,0,none⟩),.int .i64 0])/\ahM (fun k=>w.heap.size<=k) B U D size ((List.range n).reverse.map fun x:Nat=>(x:Int)) (List.replicate n false) (List.replicate n []) w'/\Below w.heap.size w w':=by
 have ah:∀V:World,(Instr.makeSlice 27 (.int .i64 n) (.int .i64 n)).run ZP V=.ok (.slice (some ⟨V.heap.size,0,none⟩) n n) (V.alloc (.cells (List.replicate n (Value.bool false)).toArray 4)):=fun V=>by
  obtain⟨i0,hi,y,H,z⟩:=info_parts aoM;have h:=run_makeSlice (P:=ZP) (w:=V) 27 4 i0 (.bool false) underlying27 hi y .i64 .i64 (n:Int) (n:Int) (by omega) (by omega) (by rw [H];omega) (by rw [z];omega) (by omega);rw [H,axs,aya] at h;exact h.trans (by rw [<-ana];rfl)
 have ai:∀V:World,(Instr.makeSlice 22 (.int .i64 n) (.int .i64 n)).run ZP V=.ok (.slice (some ⟨V.heap.size,0,none⟩) n n) (V.alloc (.cells (List.replicate n (Value.slice none 0 0)).toArray 32)):=fun V=>by
  obtain⟨i0,hi,y,H,z⟩:=info_parts atv;have h:=run_makeSlice (P:=ZP) (w:=V) 22 32 i0 (.slice none 0 0) underlying22 hi y .i64 .i64 (n:Int) (n:Int) (by omega) (by omega) (by rw [H];omega) (by rw [z];omega) (by omega);rw [H,axs,aya] at h;exact h.trans (by rw [<-ana];rfl)
 obtain⟨cs,a6⟩:∃cs:Array Value,cs=madeCells #[Value.int .u8 0] size:=⟨_,rfl⟩;have a2:∀V:World,(Instr.makeSlice 32 (.int .i64 0) (.int .i64 size)).run ZP V=.ok (.slice (some ⟨V.heap.size,0,none⟩) 0 size) (V.alloc (.cells cs 5)):=fun V=>by
  obtain⟨i0,hi,y,H,z⟩:=info_parts atb;have h:=run_makeSlice (P:=ZP) (w:=V) 32 5 i0 (.int .u8 0) underlying32 hi y .i64 .i64 0 (size:Int) (by omega) (by omega) (by rw [H];omega) (by rw [z];omega) (by omega);rw [H,axs,aya] at h;rw [a6];exact h
 have aa:cs.size=size:=by rw [a6,size_madeCells]
 have d0:decide ((n:Int)<1)=false:=by simp;omega
 have d1:decide ((n:Int) > 16)=false:=by simp;omega
 have aI:decide ((16:Int)<(n:Int))=false:=by simp;omega
 have d2:decide (n<1)=false:=by simp;omega
 have d3:decide (16<n)=false:=by simp;omega
 have d4:decide (n=0)=false:=by simp;omega
 have f0:decide ((size:Int)<1)=false:=by simp;omega
 have f1:decide ((size:Int) > 288)=false:=by simp;omega
 have aH:decide ((288:Int)<(size:Int))=false:=by simp;omega
 have f2:decide (size<1)=false:=by simp;omega
 have f3:decide (288<size)=false:=by simp;omega
 have f4:decide (size=0)=false:=by simp;omega
 have a1:=ax3 (And.intro h1 (And.intro h2 (And.intro h3 h4)));have ax:=ax3 (And.intro a6 aa);have ak:=ax3 a2;clear h1 h2 h3 h4 a6 aa a2;go_enter func96,ntmps96;go_upto_region 3 with fail
 go_region
 focus
  obtain⟨W,hW⟩:∃W,W=((w.alloc (.cells (Array.replicate n (Value.bool false)) 4)).alloc (.cells (Array.replicate n (Value.slice none 0 0)) 32)).alloc (.cells #[.slice none 0 0,.int .i64 (size:Int),.slice (some ⟨w.heap.size,0,none⟩) n n,.slice (some ⟨w.heap.size+1,0,none⟩) n n] 210):=⟨_,rfl⟩;have hO:Bx w.heap.size [.cells (Array.replicate n (Value.bool false)) 4,.cells (Array.replicate n (Value.slice none 0 0)) 32,.cells #[.slice none 0 0,.int .i64 (size:Int),.slice (some ⟨w.heap.size,0,none⟩) n n,.slice (some ⟨w.heap.size+1,0,none⟩) n n] 210] W:=by rw [hW];exact (((Bx.nil _ w).snoc _ rfl).snoc _ (by simp)).snoc _ (by simp)
  have J:RowKit.Below w.heap.size w W:=by rw [hW];exact ((aa1 _ _).alloc (by simp) _).alloc (by simp;omega) _
  have C:=hO 0 _ rfl;have j:=hO 1 _ rfl;have o:=hO 2 _ rfl;rw [ayc] at C;rw [<-List.toArray_replicate] at C j;have HS:Hid (∃Z N X,acG (fun k=>w.heap.size<=k) Z (w.heap.size+1+1) (w.heap.size) (w.heap.size+1) N X size (frN n 0) (List.replicate n false) (List.replicate n []) W):=⟨_,_,_,acG.new (by assumption) (by assumption) o (by omega) (by omega) (by omega) (by omega) (by omega) (by omega)⟩;obtain⟨B,hB⟩:∃B,B=w.heap.size+1+1:=⟨_,rfl⟩;obtain⟨D,hD⟩:∃D,D=w.heap.size+1:=⟨_,rfl⟩;obtain⟨U,hU⟩:∃U,U=w.heap.size:=⟨_,rfl⟩;rw [<-hB,<-hD] at HS;have A:Hid (∃Z N X,acG (fun k=>w.heap.size<=k) Z B U D N X size (frN n 0) (List.replicate n false) (List.replicate n []) W):=by rw [hU];exact HS
  have I:=ax3 J;rw [<-hW,<-hB,<-hD,<-hU]
  replace A:Hid (∃Z N X,acG (fun k=>w.heap.size<=k) Z B U D N X size (frN n 0) (List.replicate n false) (List.replicate n []) W.drew):=by obtain⟨Z,N,X,h⟩:=A.out;exact⟨Z,N,X,h.keep (Y:=fun _=>False) (.of_same (aa2 W 1)) fun _ _ _ h=>h⟩
  replace I:Hid (RowKit.Below w.heap.size w W.drew):=I.out.trans ((aa2 W 1).mono I.out.size)
  clear hW hB hD hU J hO C j o HS ah ai
 rotate_left
 focus
  obtain⟨W,hW⟩:∃W,W=((w.alloc (.cells (Array.replicate n (Value.slice none 0 0)) 32)).alloc (.cells (Array.replicate n (Value.bool false)) 4)).alloc (.cells #[.slice none 0 0,.int .i64 (size:Int),.slice (some ⟨w.heap.size+1,0,none⟩) n n,.slice (some ⟨w.heap.size,0,none⟩) n n] 210):=⟨_,rfl⟩;have hO:Bx w.heap.size [.cells (Array.replicate n (Value.slice none 0 0)) 32,.cells (Array.replicate n (Value.bool false)) 4,.cells #[.slice none 0 0,.int .i64 (size:Int),.slice (some ⟨w.heap.size+1,0,none⟩) n n,.slice (some ⟨w.heap.size,0,none⟩) n n] 210] W:=by rw [hW];exact (((Bx.nil _ w).snoc _ rfl).snoc _ (by simp)).snoc _ (by simp)
  have J:RowKit.Below w.heap.size w W:=by rw [hW];exact ((aa1 _ _).alloc (by simp) _).alloc (by simp;omega) _
  have C:=hO 0 _ rfl;have j:=hO 1 _ rfl;have o:=hO 2 _ rfl;rw [ayc] at C;rw [<-List.toArray_replicate] at C j;have HS:Hid (∃Z N X,acG (fun k=>w.heap.size<=k) Z (w.heap.size+1+1) (w.heap.size+1) (w.heap.size) N X size (frN n 0) (List.replicate n false) (List.replicate n []) W):=⟨_,_,_,acG.new (by assumption) (by assumption) o (by omega) (by omega) (by omega) (by omega) (by omega) (by omega)⟩;obtain⟨B,hB⟩:∃B,B=w.heap.size+1+1:=⟨_,rfl⟩;obtain⟨U,hD⟩:∃D,D=w.heap.size+1:=⟨_,rfl⟩;obtain⟨D,hU⟩:∃U,U=w.heap.size:=⟨_,rfl⟩;rw [<-hB,<-hD] at HS;have A:Hid (∃Z N X,acG (fun k=>w.heap.size<=k) Z B U D N X size (frN n 0) (List.replicate n false) (List.replicate n []) W):=by rw [hU];exact HS
  have I:=ax3 J;rw [<-hW,<-hB,<-hD,<-hU]
  replace A:Hid (∃Z N X,acG (fun k=>w.heap.size<=k) Z B U D N X size (frN n 0) (List.replicate n false) (List.replicate n []) W.drew):=by obtain⟨Z,N,X,h⟩:=A.out;exact⟨Z,N,X,h.keep (Y:=fun _=>False) (.of_same (aa2 W 1)) fun _ _ _ h=>h⟩
  replace I:Hid (RowKit.Below w.heap.size w W.drew):=I.out.trans ((aa2 W 1).mono I.out.size)
  clear hW hB hD hU J hO C j o HS ah ai
 all_goals
  go_upto_region 5 with fail
  go_loopw [30] (fun al wr=>∃(i:Nat),i<=n/\al=.int .i64 i/\Hid (∃Z N X,acG (fun k=>w.heap.size<=k) Z B U D N X size (frN n i) (List.replicate n false) (List.replicate n []) wr)/\Hid (RowKit.Below w.heap.size w wr)) (fun s _=>n-(intOf s).toNat)
  case atStart=>exact⟨0,axh _,rfl,A,I⟩
  case round=>
   clear A I;obtain⟨i,aF,rfl,hS,J⟩:=hrel
   by_cases ac:i<n
   ·
    have hd:decide ((i:Int)<n)=true:=by simp;omega
    obtain⟨Z,N,X,hs⟩:=hS.out;have a7:=hs.box;rw [axC] at a7;have c3:wr.cell? ⟨B,3,none⟩=some (.slice (some ⟨D,0,none⟩) n n):=by simp [World.cell?,a7]
    have ab:=hs.keep (Y:=fun _=>False) (.of_same (aa2 wr 1)) fun _ _ _ h=>h;have a8:=J.out.trans ((aa2 wr 1).mono J.out.size);obtain⟨Y,hY⟩:∃Y,Y=wr.drew:=⟨_,rfl⟩;have am:wr.drewN 1=Y:=hY.symm;rw [am] at ab a8;obtain⟨ay,av,q1,q2,q3,u,q4⟩:=ab.room ac ax.out.2 (by have:=a1.out;omega);have a2:=ak.out;obtain⟨V,hV⟩:∃V,V=(Y.alloc (.cells cs 5)).setCell ⟨D,i,none⟩ (.slice (some ⟨Y.heap.size,0,none⟩) 0 size):=⟨_,rfl⟩;rw [<-hV] at q1 q2;rw [hY] at q3 q4;have az:=hs.inX.2.2;have aq:=(awU.1 hs.data).1;have ad:wr.heap[D]?=some (.cells X.toArray 32 (0,0)):=hs.data;have j1:wr.frozen? ⟨D,i,none⟩=false:=by simp [World.frozen?,ad]
    have ao:i<X.length:=by have:=hs.dl;simp at this;omega
    have j2:wr.cell? ⟨D,i,none⟩=some X[i]:=by simp [World.cell?,ad,ao]
    have au:=(awU.1 a7).1;have ar:(wr.alloc (.cells cs 5)).cell? ⟨B,3,none⟩=some (.slice (some ⟨D,0,none⟩) n n):=((aa1 wr (.cells cs 5)).cell (p:=⟨B,3,none⟩) au).trans c3;clear hs a7 ad;go_upto_region 7 with fail
    go_region
    have aj:((wr.setCell ⟨D,i,none⟩ (.slice (some ⟨wr.heap.size,0,none⟩) 0 size)).alloc (.cells cs 5)).drew=V:=by
     rw [hV,World.setCell_alloc_past _ _ _ _ (show D<Y.heap.size by rw [hY];exact aq),hY]
     rfl
    rw [aj];clear aj hV q3 q4 j1 j2 c3 ar a2 ak;have HP:=agB ((n:Int)-1-i) V q1 (by have:=aus n i;have:=a1.out;omega);have aw:Hid (Calls ZP 138 #[.pointer (some ⟨B,0,none⟩),.int .i64 ((n:Int)-1-i)] V fun e w'=>(∃v,e=.returned v)/\(∃Z N X,acG (fun k=>w.heap.size<=k) Z B U D N X size (frN n (i+1)) (List.replicate n false) (List.replicate n []) w')/\RowKit.Below w.heap.size w w'):=HP.mono fun e w' ⟨h1,⟨fv',ae,h2⟩,h3⟩=>by
     have ap:w.heap.size<=Y.heap.size:=a8.size;have aG:Y.heap.size<=V.heap.size:=q2.size;refine⟨h1,⟨ae,fv',av,?_⟩,?_⟩
     · rw [asi ac];exact h2.wide fun k _ hk=>by rcases hk with (h | h) | h<;>omega
     · exact a8.trans ((q2.trans h3 fun k _ hk=>hk.elim id fun h=>by omega).below ap fun k aE aD=>by omega)
    clear HP q1 q2 ab a8;have i1:(0:Int)<=(i:Int):=by omega
    have i2:(i:Int)<(n:Int):=by omega
    have aC:IntKind.i64.wrap ((n:Int)-1)=(n:Int)-1:=by have:=a1.out;rw [ax2];omega
    have aB:IntKind.i64.wrap ((n:Int)-1-i)=(n:Int)-1-i:=by have:=a1.out;rw [ax2];omega
    have ag:=a1.out.2.1;have aA:IntKind.i64.wrap ((i:Int)+1)=((i+1:Nat):Int):=by rw [ax2];omega
    have af:wrap64 ((i:Int)+1)=((i+1:Nat):Int):=awG ag ac
    go_wp2_with (go_at_call 138;refine aw.out.mono ?_;rintro e w3 ⟨⟨v,rfl⟩,h2,h3⟩;have H2:=ax3 h2;have H3:=ax3 h3;clear h2 h3)
    go_roundw
    case rel=>exact⟨i+1,by omega,by first | rfl | (go_num;done) | simp [af],H2,H3⟩
    case measure=>(try simp only [af]);simp [intOf];omega
   ·
    obtain rfl:i=n:=by omega
    have hd:decide ((i:Int)<i)=false:=by simp
    go_wp2;go_ret2;obtain⟨Z,N,X,hs⟩:=hS.out;rw [auK] at hs;exact⟨B,U,D,rfl,⟨Z,N,X,hs⟩,J.out⟩
section
theorem age {Z:World}{es:Array MapEntry}{Y n:Nat}{k:Int}{x:Value}(U:n=Z.heap.size)(N:Instr.findNow (.int .u8) (.int .u8 k) es.toList 0=some none) :
  Sem.run ZP (Instr.mapUpdate 239 (.map (some n)) (.int .u8 k) x) (Z.alloc (.map es Y))=.ok () (Z.alloc (.map (es.push ⟨.int .u8 k,x,Y⟩) (Y+1))):=by
 subst U;have V:(Z.alloc (.map es Y)).heap[Z.heap.size]?=some (.map es Y):=(Bx.nil _ Z).snoc (.map es Y) rfl 0 _ rfl;simp [Instr.mapUpdate,run_underlying underlying239,MapKept.run_getObj_map V,MapKept.run_checkKey (k:=.int .u8 k) underlying5 (by simp [MapKept.IsKey]),MapKept.run_findKey underlying5 N,MapKept.run_setObj_map _ V,Result.andThen];unfold World.alloc;congr 1
 apply Array.ext_getElem?
 intro j;simp only [Array.getElem?_setIfInBounds,Array.getElem?_push,Array.size_push]
 by_cases X:Z.heap.size=j
 · subst X;simp
 · have:j≠Z.heap.size:=fun e=>X e.symm;simp [X,this]
theorem arW (Z:World)(n:Nat)(x:Value)(Y:n=Z.heap.size):Sem.run ZP (Instr.mapUpdate 239 (.map (some n)) (.int .u8 1) x) (Z.alloc (.map #[] 0))=.ok () (Z.alloc (.map #[⟨.int .u8 1,x,0⟩] 1)):=age Y rfl
theorem asQ (Z:World)(n:Nat)(x y:Value)(Y:n=Z.heap.size):Sem.run ZP (Instr.mapUpdate 239 (.map (some n)) (.int .u8 2) x) (Z.alloc (.map #[⟨.int .u8 1,y,0⟩] 1))=.ok () (Z.alloc (.map #[⟨.int .u8 1,y,0⟩,⟨.int .u8 2,x,1⟩] 2)):=age Y (by kernel_rfl)
theorem at8 (Z:World)(n:Nat)(x y z:Value)(Y:n=Z.heap.size):Sem.run ZP (Instr.mapUpdate 239 (.map (some n)) (.int .u8 3) x) (Z.alloc (.map #[⟨.int .u8 1,y,0⟩,⟨.int .u8 2,z,1⟩] 2))=.ok () (Z.alloc (.map #[⟨.int .u8 1,y,0⟩,⟨.int .u8 2,z,1⟩,⟨.int .u8 3,x,2⟩] 3)):=age Y (by kernel_rfl)
theorem arY (Z:World)(n:Nat)(x y z u:Value)(Y:n=Z.heap.size):Sem.run ZP (Instr.mapUpdate 239 (.map (some n)) (.int .u8 4) x) (Z.alloc (.map #[⟨.int .u8 1,y,0⟩,⟨.int .u8 2,z,1⟩,⟨.int .u8 3,u,2⟩] 3))=.ok () (Z.alloc (.map #[⟨.int .u8 1,y,0⟩,⟨.int .u8 2,z,1⟩,⟨.int .u8 3,u,2⟩,⟨.int .u8 4,x,3⟩] 4)):=age Y (by kernel_rfl)
theorem aop (w:World):Sem.run ZP (Instr.makeMap 239 none) w=.ok (.map (some w.heap.size)) (w.alloc (.map #[] 0)):=rfl
attribute [local go_sem] aaT acg aop arW asQ at8 arY
def MkT (Z:TypeId)(f:Nat->Nat->Option Value)(cs:Nat->Nat->Array Value)(w:World)(e:Ending)(w':World):Prop:=
 e=.returned (.pointer (some ⟨w.heap.size,0,none⟩))/\w'.heap[w.heap.size]?=some (.cells (cs w.heap.size (w.heap.size+1)) Z (0,0))/\akJ w' (w.heap.size+1) (f w.heap.size)/\w'.heap.size=w.heap.size+2/\Below w.heap.size w w'
theorem MkT.mk {Z:TypeId}{f:Nat->Nat->Option Value}{cs:Nat->Nat->Array Value}{w:World}{e:Ending}{es:Array MapEntry}{Y:Nat}(U:e=.returned (.pointer (some ⟨w.heap.size,0,none⟩)))(V:∀k v,f w.heap.size k=some v->∃i,Instr.findNow (.int .u8) (.int .u8 (k:Int)) es.toList 0=some (some (i,v))) :
  MkT Z f cs w e ((w.alloc (.cells (cs w.heap.size (w.heap.size+1)) Z)).alloc (.map es Y)):=by
 have X:Bx w.heap.size [.cells (cs w.heap.size (w.heap.size+1)) Z,.map es Y] ((w.alloc (.cells (cs w.heap.size (w.heap.size+1)) Z)).alloc (.map es Y)):=((Bx.nil _ w).snoc _ rfl).snoc _ (by simp);have h0:=X 0 _ rfl;rw [ayc] at h0;exact⟨U,h0,⟨es,Y,X 1 _ rfl,V⟩,by simp,(aa1 _ _).alloc (by simp) _⟩
def csE (P E m:Nat):Array Value:=#[.pointer (some ⟨P,0,none⟩),.int .u8 1,.int .u8 2,.map (some m),mvP 158 E,mvP 160 E]
def csM (P M m:Nat):Array Value:=#[.pointer (some ⟨P,0,none⟩),.int .u8 1,.int .u8 3,.map (some m),acw,mvP 157 M,.slice none 0 0]
def csW (P W m:Nat):Array Value:=#[.pointer (some ⟨P,0,none⟩),.int .u8 1,.int .u8 4,.map (some m),mvP 151 W,mvP 152 W,.int .i64 0,.int .i64 0,.int .i64 0,.slice none 0 0,.int .i64 0,.int .i64 0,.int .i64 0,.slice none 0 0]
def csR (P R m:Nat):Array Value:=#[.pointer (some ⟨P,0,none⟩),.int .u8 1,.int .u8 5,.map (some m),acw,mvP 146 R,.bool false,.int .i64 0,.int .i64 0,.int .i64 0,.int .i64 0,.slice none 0 0,.bool false]
def atM:PAd:=⟨0,0,0,0,0,0,0,0,0,0,0,0,0,0,0,0,fun _=>0,0,0,0,fun _=>0,0,0,0,default⟩
theorem asG (P:Nat)(w:World):Calls ZP 103 #[.pointer (some ⟨P,0,none⟩)] w (MkT 253 (fun X=>stE { atM with E:=X }) (fun X m=>csE P X m) w):=by
 go_enter func103,ntmps103;go_wp2;go_ret;refine MkT.mk (cs:=fun X m=>csE P X m) rfl (fun k v Z=>?_)
 match k,Z with
 | 1,Z=>exact⟨0,by cases awV Z;kernel_rfl⟩
 | 0,Z=>cases Z
 | k+2,Z=>cases Z
theorem aso (P:Nat)(w:World):Calls ZP 102 #[.pointer (some ⟨P,0,none⟩)] w (MkT 251 (fun X=>stM { atM with M:=X }) (fun X m=>csM P X m) w):=by
 go_enter func102,ntmps102;go_wp2;go_ret;refine MkT.mk (cs:=fun X m=>csM P X m) rfl (fun k v Z=>?_)
 match k,Z with
 | 1,Z=>exact⟨0,by cases awV Z;kernel_rfl⟩
 | 2,Z=>exact⟨1,by cases awV Z;kernel_rfl⟩
 | 0,Z=>cases Z
 | k+3,Z=>cases Z
theorem asC (P:Nat)(w:World):Calls ZP 101 #[.pointer (some ⟨P,0,none⟩)] w (MkT 249 (fun X=>stW { atM with Wk:=fun _=>X } 0) (fun X m=>csW P X m) w):=by
 go_enter func101,ntmps101;go_wp2;go_ret;refine MkT.mk (cs:=fun X m=>csW P X m) rfl (fun k v Z=>?_)
 match k,Z with
 | 1,Z=>exact⟨0,by cases awV Z;kernel_rfl⟩
 | 2,Z=>exact⟨1,by cases awV Z;kernel_rfl⟩
 | 3,Z=>exact⟨2,by cases awV Z;kernel_rfl⟩
 | 0,Z=>cases Z
 | k+4,Z=>cases Z
theorem ars (P:Nat)(w:World):Calls ZP 100 #[.pointer (some ⟨P,0,none⟩)] w (MkT 245 (fun X=>stR { atM with R:=X }) (fun X m=>csR P X m) w):=by
 go_enter func100,ntmps100;go_wp2;go_ret;refine MkT.mk (cs:=fun X m=>csR P X m) rfl (fun k v Z=>?_)
 match k,Z with
 | 1,Z=>exact⟨0,by cases awV Z;kernel_rfl⟩
 | 2,Z=>exact⟨1,by cases awV Z;kernel_rfl⟩
 | 3,Z=>exact⟨2,by cases awV Z;kernel_rfl⟩
 | 4,Z=>exact⟨3,by cases awV Z;kernel_rfl⟩
 | 0,Z=>cases Z
 | k+5,Z=>cases Z
end
end Go.Proofs.YtaamacoicojhnaaGreat
