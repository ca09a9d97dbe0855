/- Proofs over the given program, part 8. -/
import Derived.Test.YtaamacoicojhnaaGreatZB7
set_option linter.unusedVariables false
set_option linter.unusedSimpArgs false
set_option maxRecDepth 100000
set_option maxHeartbeats 16000000
open Go.Proofs.Tryz
open Go.Proofs.Tryz renaming prog→ZP
namespace Go.Proofs.YtaamacoicojhnaaGreat
open Go.RowKit Go.Sort
section
attribute [local go_sem] Oper.semAt_some
attribute [local simp] aab aa6
attribute [local go_sem] aab aa6
def ahG (F:List Int)(many node:Nat)(lk:List Int):List Int:=if node=0 then (F.drop (node*many)).take many else (F.drop (((lk[node]?).getD 0).toNat*many)).take many
def aoV (L:List Int)(T:aaN)(lk:List Int)(F:List Int)(many node:Nat):List Int:=spl F (node*many) (abs (ahG F many node lk) (ae1 L T (node:Int) T.up.length))
theorem acP {many n k:Nat}(h:k<n):k*many+many<=many*n:=by
 have h1:(k+1)*many<=n*many:=azg _ h;rw [Nat.succ_mul,Nat.mul_comm n many] at h1;exact h1
theorem ako {F lk:List Int}{many n node:Nat}(U:F.length=many*n)(Y:node<n)(X:node≠0->∃k:Nat,lk[node]?=some (k:Int)/\k<n):(ahG F many node lk).length=many:=by
 unfold ahG
 split
 · have:=acP (many:=many) Y;simp;omega
 ·
  rename_i h
  obtain⟨k,V,Z⟩:=X h;have:=acP (many:=many) Z;rw [V];simp;omega
def avJ (t:TV)(R:Nat):Prop:=∀a,(t.ua=some a∨t.da=some a∨t.xa=some a∨t.ba=some a)->a.block<R
theorem Sl1.keep {α:Type}{enc:α->Value}{R:Nat}{W V:World}{a:Option Addr}{n:Nat}{xs:List α}(h:Sl1 enc W a n xs)(Y:Below R W V)(J:R<=W.heap.size)(U:∀x,a=some x->x.block<R):Sl1 enc V a n xs:=by
 refine⟨h.1,?_⟩
 rcases h.2 with h0 | ⟨b,off,e,Z,N⟩
 · exact .inl h0
 · exact .inr ⟨b,off,e,ax6 Z Y.size,fun i x X=>(axp (Y.block b (U _ e))).trans (N i x X)⟩
theorem Tri.keep {R:Nat}{W V:World}{t:TV}{T:aaN}(h:Tri W t T)(Y:Below R W V)(X:R<=W.heap.size)(Z:avJ t R):Tri V t T:=
 ⟨h.up.keep Y X (fun a e=>Z a (.inl e)),h.dep.keep Y X (fun a e=>Z a (.inr (.inl e))),h.wrd.keep Y X (fun a e=>Z a (.inr (.inr (.inl e)))),⟨h.byt.1.keep Y X (fun a e=>Z a (.inr (.inr (.inr e)))),h.byt.2⟩,h.cap⟩
theorem Mk.keep {R:Nat}{W V:World}{M:Nat}{L:List Int}{m:Int}{row lk:Value}{t:TV}(h:Mk W M L m row t lk)(Z:Below R W V)(Y:M<R):Mk V M L m row t lk:=⟨(Z.block M Y).trans h.box,h.len⟩
theorem aoy (t:TV)(T:aaN)(M R q n many node:Nat)(L F lk:List Int)(w:World)(hT:Tri w t T)(hb:T.byt.length=T.up.length)(aL:T.up.length<=400)
  (hM:Mk w M L (many:Int) (.slice (some ⟨R,0,none⟩) (many*n) (many*n)) t (.slice (some ⟨q,0,none⟩) n n)) (hL:∀(c:Nat) (v:Int),L[c]?=some v->0<=v/\v<(many:Int))
  (b2:M<R/\q<R) (aA:avJ t R) (hq:aaa q lk w) (bb:lk.length=n) (hR:aaa R F w) (hF:F.length=many*n)
  (hn:node<n) (hm:many<=1000) (aN:1<=many) (aM:n<=1000000) (hl:node≠0->∃k:Nat,lk[node]?=some (k:Int)/\k<n) :
  Calls ZP 129 #[.pointer (some ⟨M,0,none⟩),.int .i64 (node:Int)] w fun e w'=>e=.returned (.tuple #[])/\aaa R (aoV L T lk F many node) w'/\Below R w w':=by
 obtain⟨r0,r1⟩:=b2;have r2:∀a,t.ua=some a->a.block<R:=fun a h=>aA a (.inl h);have r3:∀a,t.ba=some a->a.block<R:=fun a h=>aA a (.inr (.inr (.inr h)));have o:=hR.lt;have av:=ako (lk:=lk) hF hn hl;have hP:=acP (many:=many) hn;have H:=asS (F:=F) (P:=node*many) (m:=many) (by rw [hF];exact hP);refine aau func129 rfl ?_;simp only [ntmps129,axT,axU,axV,Nat.reduceAdd,Nat.reduceSub,axW,axX,axY,axZ,ay0,ay1];have KR:=ax3 (akf M R n many node L t _ w hM hn hm aN aM);obtain⟨P,ax⟩:∃P,node*many=P:=⟨_,rfl⟩;obtain⟨y,aq⟩:∃y,ahG F many node lk=y:=⟨_,rfl⟩;have Y:=aq;rw [aq] at av;unfold ahG at Y;rw [ax] at KR hP H Y;have aY:=ax3 ax;have b1:=ax3 aq;have b0:=ax3 av;have HF:=ax3 hF
 by_cases h0:node=0
 ·
  have hd:((node:Int) != 0)=false:=by simp [h0]
  rw [if_pos h0] at Y;rw [Y] at H;have b5:=ax3 H;clear aq ax Y hF av hl H h0;go_upto_region 3 with (go_at_call 178;refine KR.out.mono ?_;rintro e w1 ⟨rfl,A⟩)
  obtain⟨X,a7⟩:∃W,W=w1.alloc (.cells #[.slice (some ⟨R,P,none⟩) many (many*n-P)] 30):=⟨_,rfl⟩;have N:Boxed X w1.heap.size 30 (.slice (some ⟨R,P,none⟩) many (many*n-P)):=by rw [a7];exact Boxed.new w1 30 _
  have a1:Below w.heap.size w X:=by rw [a7];exact A.alloc A.size _
  rw [<-a7];clear a7;have ai:=hT.below a1;have ak:=hM.below a1;have B:aaa R (spl F P y) X:=by rw [b5.out];exact (a1.block R o).trans hR
  have ap:Below R w X:=a1.mono (axd o);have am:R<w1.heap.size:=ax6 o A.size;obtain⟨BX,ao⟩:∃BX,w1.heap.size=BX:=⟨_,rfl⟩;rw [ao] at N am ⊢;clear hT hM hq hR A ao a1
  go_wp2_with (go_at_call 179;refine (aiy M (node:Int) X).mono ?_;rintro e w' ⟨rfl,rfl⟩)
  obtain⟨z,C⟩:∃W,W=(X.alloc (.cells #[.pointer (some ⟨M,0,none⟩)] 285)).alloc (.cells #[.int .i64 (node:Int)] 3):=⟨_,rfl⟩;have U:Below X.heap.size X z:=by rw [C];exact (aa1 _ _).alloc (by simp) _
  have ar:Boxed z X.heap.size 285 (.pointer (some ⟨M,0,none⟩)):=by rw [C];exact (Boxed.new X 285 _).alloc _
  have aa:Boxed z (X.heap.size+1) 3 (.int .i64 (node:Int)):=by
   rw [C];have:=Boxed.new (X.alloc (.cells #[.pointer (some ⟨M,0,none⟩)] 285)) 3 (.int .i64 (node:Int))
   rwa [ax7] at this
  rw [<-C];clear C;have aJ:=aa.lt;have ag:Boxed z BX 30 (.slice (some ⟨R,P,none⟩) many (many*n-P)):=(U.block _ N.lt).trans N;have aC:aaa R (spl F P y) z:=(U.block _ B.lt).trans B;have al:Below R w z:=ap.trans (U.mono (axd B.lt));have aO:=B.lt;have aR:=N.lt;have az:=afG t T M R X.heap.size (X.heap.size+1) many (node:Int) _ _ _ L 8 z (ai.below U) hb aL (ak.below U) hL ar aa ⟨by omega,by omega,by omega,fun a h=>Nat.ne_of_lt (r2 a h),fun a h=>Nat.ne_of_lt (r3 a h)⟩;clear ai ak ar aa B N U ap
  apply ait rfl (enters_of func222 (by kernel_rfl) rfl) az abp (ad2 fun k hk=>hk.1) (fun _=>rfl)
   (fun J W=>Boxed W BX 30 (.slice (some ⟨R,P,none⟩) many (many*n-P))/\aaa R (spl F P (abs y (J.map Subtype.val))) W/\Below R w W/\z.heap.size<=W.heap.size)
   (fun _ _ _=>False)
  case hI=>exact OwnFrom.and (Own.from (boxed_own _ _ _) _) (OwnFrom.and (Own.from (aia _ _) _) (OwnFrom.and (ownFrom_below (axd o) (by omega)) (af9 _ _)))
  case hIx=>exact fun _ _ _ _ _ hs _ _=>hs
  case h0=>exact⟨ag,aC,al,axe _⟩
  case hassign=>
   intro l x W K hK;unfold at9
   gi_wp2
   exact hK
  case hbody=>
   rintro l' J ⟨⟨c,k⟩,hc⟩ W ⟨hx,hr,a8,hs⟩ aP;dsimp only at hc ⊢;obtain⟨Z,hZ⟩:∃Z,abs y (J.map Subtype.val)=Z:=⟨_,rfl⟩;have a6:Z.length=many:=by rw [<-hZ,aff,b0.out]
   have aI:Hid (abs y ((J++[(⟨(c,k),hc⟩:KdQ many)]).map Subtype.val)=Z.set c (k:Int)):=by
    rw [Hid,ay7];show abs y (J.map Subtype.val++[(c,k)])=_;rw [agK,hZ]
   rw [hZ] at hr;have HZ:=ax3 hZ;clear hZ;have c1:=hx.cell;have a2:c<Z.length:=by rw [a6];exact hc
   have c2:=hr.cell ((aqH (by rw [a6,HF.out];exact hP) a2).trans (ay4 a2));have c3:=hr.frozen (P+c);have i1:(0:Int)<=(c:Int):=by omega
   have i2:(c:Int)<(many:Int):=by omega
   have I:=hr.set (j:=P+c) (k:Int);rw [apA (by rw [a6,HF.out];exact hP) a2,<-aI.out] at I;have au:=ax3 I;clear I
   gi_wp2
   refine⟨(ayI W ⟨R,P+c,none⟩ (.int .i64 (k:Int))).from z.heap.size,fun b hb=>axn _ _ _ _ (fun e=>hb.2 (by simpa using e)),(axn _ _ _ _ (by simp;omega)).trans hx,au.out,a8.setCell (by simp) _,by simpa using hs⟩
  case hdone=>
   rintro D zs W hD hS ⟨hx,hr,a8,hs⟩ aH;rw [hS] at hr;go_wp2;refine avp rfl aH (results_none rfl _ _ _) ⟨rfl,?_,aaS a8 (by omega) (by omega) _⟩;unfold aoV;rw [aY.out,b1.out];exact (ayn (by omega)).trans hr
  case hstop=>exact fun _ _ _ _ _ _ h _=>h.elim
 ·
  have hd:((node:Int) != 0)=true:=by simp [h0]
  rw [if_neg h0] at Y;obtain⟨k,hk,aQ⟩:=hl h0;rw [hk] at Y;have Y:(F.drop (k*many)).take many=y:=Y;have aU:=acP (many:=many) aQ;obtain⟨KP,aG⟩:∃KP,k*many=KP:=⟨_,rfl⟩;rw [aG] at aU Y;have b8:=ax3 aG;have b9:=ax3 Y;clear aq ax Y av hl H h0 aG;go_upto_region 2 with (go_at_call 178;refine KR.out.mono ?_;rintro e w1 ⟨rfl,A⟩)
  obtain⟨W2,aw⟩:∃W,W=w1.alloc (.cells #[.slice (some ⟨R,P,none⟩) many (many*n-P)] 30):=⟨_,rfl⟩;have ah:Boxed W2 w1.heap.size 30 (.slice (some ⟨R,P,none⟩) many (many*n-P)):=by rw [aw];exact Boxed.new w1 30 _
  have ae:Below w.heap.size w W2:=by rw [aw];exact A.alloc A.size _
  rw [<-aw];clear aw;have am:R<w1.heap.size:=ax6 o A.size;obtain⟨BX,ao⟩:∃BX,w1.heap.size=BX:=⟨_,rfl⟩;rw [ao] at ah am ⊢;have aF:=hM.below ae;have aT:=hT.below ae;have aK:aaa q lk W2:=(ae.block q (by have:=hq.lt;omega)).trans hq;have aE:aaa R F W2:=(ae.block R o).trans hR;have s:=aE.lt;have aX:Below R w W2:=ae.mono (axd o);have b3:=ax3 (fun V (hV:RowKit.Below W2.heap.size W2 V)=>akf M R n many k L t _ V (aF.below hV) aQ hm aN aM);have aZ:=ax3 aF;have b4:=ax3 aT;have b7:=ax3 aK;have b6:=ax3 aE;have af:=ax3 ah;have HK:=ax3 hk;have j1:(0:Int)<=(node:Int):=by omega
  have j2:(node:Int)<(n:Int):=by omega
  clear hT hM hq hR A ae ah aF aT aK aE ao hk;refine wp_region_noPanic ?_;refine wp_region_held_drew (S:=fun V=>RowKit.Below R W2 V/\Boxed V BX 30 (.slice (some ⟨R,P,none⟩) many (many*n-P))) (by kernel_rfl) ⟨(aa2 W2 1).mono (axd s),((aa2 W2 1).block _ af.out.lt).trans af.out⟩ (fun hHeld=>?_);refine tkW 0 (v:=?_) ?_ ?_;rotate_left
  ·
   intro V hV;have r0:=hV.2.cell
   first | (go_simp;done) | (go_simp;with_reducible rfl)
  try simp only [Act.put,pA,pB,pC]
  refine tkA 1 ?_;refine tkA 2 ?_;refine tkA 3 ?_;refine tkA 4 ?_;refine tkW 5 (v:=?_) ?_ ?_;rotate_left
  ·
   intro V hV;have r0:=(aZ.out.keep hV.1 (by assumption)).cells.2.2.2.2.2.2
   first | (go_simp;done) | (go_simp;with_reducible rfl)
  try simp only [Act.put,pA,pB,pC]
  refine tkA 6 ?_;refine tkA 7 ?_;refine tkW 8 (v:=?_) ?_ ?_;rotate_left
  ·
   intro V hV;have r0:=aaa.cell (show aaa q lk V from (hV.1.block q (by assumption)).trans b7.out) HK.out
   first | (go_simp;done) | (go_simp;with_reducible rfl)
  try simp only [Act.put,pA,pB,pC]
  refine rdy 9 (fun K hK=>?_);go_simp;have aB:=b3.out W2.drew (aa2 W2 1);rw [b8.out] at aB
  go_at_call 178;refine aB.mono ?_;rintro e w4 ⟨rfl,aS⟩
  have ad:RowKit.Below W2.heap.size W2 w4:=(aa2 W2 1).trans aS;refine hK.out _ _ ⟨ad.mono (axd s),(ad.block _ af.out.lt).trans af.out⟩ (fun ab=>?_);clear hK K hHeld;have hHeld:=ab;clear ab
  try simp only [Act.put,pA,pB,pC]
  refine rdy 10 (fun K hK=>?_);have ay:Boxed w4 BX 30 (.slice (some ⟨R,P,none⟩) many (many*n-P)):=(ad.block _ af.out.lt).trans af.out;have aD:aaa R F w4:=(ad.block R s).trans b6.out;have aV:P+many<=F.length:=by rw [HF.out];exact hP
  have aW:KP+many<=F.length:=by rw [HF.out];exact aU
  refine aic (by kernel_rfl) ?_;refine aqX w4 _ _ _ _ rfl _ _ rfl rfl (avv w4 R P KP many _ _ F _ aD aV aW) ?_;rw [b9.out];have aj:=setRow_heap w4 R _ (((spl F P y).map (Value.int .i64)).toArray) _ _ aD;have ac:RowKit.Below R W2 (w4.setRow R (((spl F P y).map (Value.int .i64)).toArray)):=abS (ad.mono (axd s)) (axe R) _;have N:Boxed (w4.setRow R (((spl F P y).map (Value.int .i64)).toArray)) BX 30 (.slice (some ⟨R,P,none⟩) many (many*n-P)):=(setRow_other _ _ _ _ (by omega)).trans ay;obtain⟨X,a7⟩:∃W,W=w4.setRow R (((spl F P y).map (Value.int .i64)).toArray):=⟨_,rfl⟩;rw [<-a7] at aj ac N ⊢;have B:aaa R (spl F P y) X:=aj;have ap:Below R w X:=aX.trans ac;have ai:Tri X t T:=b4.out.keep ac (axd s) aA;have ak:=aZ.out.keep ac (by assumption);clear a7 aj aD ay aV aW aB aS ad;refine hK.out _ _ ⟨ac,N⟩ (fun ab=>?_);clear hK K hHeld ab ac
  try simp only [Act.put,pA,pB,pC]
  refine wpAnyH_done (by kernel_rfl) ?_ _;refine ax4 ?_
  go_wp2_with (go_at_call 179;refine (aiy M (node:Int) X).mono ?_;rintro e w' ⟨rfl,rfl⟩)
  obtain⟨z,C⟩:∃W,W=(X.alloc (.cells #[.pointer (some ⟨M,0,none⟩)] 285)).alloc (.cells #[.int .i64 (node:Int)] 3):=⟨_,rfl⟩;have U:Below X.heap.size X z:=by rw [C];exact (aa1 _ _).alloc (by simp) _
  have ar:Boxed z X.heap.size 285 (.pointer (some ⟨M,0,none⟩)):=by rw [C];exact (Boxed.new X 285 _).alloc _
  have aa:Boxed z (X.heap.size+1) 3 (.int .i64 (node:Int)):=by
   rw [C];have:=Boxed.new (X.alloc (.cells #[.pointer (some ⟨M,0,none⟩)] 285)) 3 (.int .i64 (node:Int))
   rwa [ax7] at this
  rw [<-C];clear C;have aJ:=aa.lt;have ag:Boxed z BX 30 (.slice (some ⟨R,P,none⟩) many (many*n-P)):=(U.block _ N.lt).trans N;have aC:aaa R (spl F P y) z:=(U.block _ B.lt).trans B;have al:Below R w z:=ap.trans (U.mono (axd B.lt));have aO:=B.lt;have aR:=N.lt;have az:=afG t T M R X.heap.size (X.heap.size+1) many (node:Int) _ _ _ L 8 z (ai.below U) hb aL (ak.below U) hL ar aa ⟨by omega,by omega,by omega,fun a h=>Nat.ne_of_lt (r2 a h),fun a h=>Nat.ne_of_lt (r3 a h)⟩;clear ai ak ar aa B N U ap
  apply ait rfl (enters_of func222 (by kernel_rfl) rfl) az abp (ad2 fun k hk=>hk.1) (fun _=>rfl)
   (fun J W=>Boxed W BX 30 (.slice (some ⟨R,P,none⟩) many (many*n-P))/\aaa R (spl F P (abs y (J.map Subtype.val))) W/\Below R w W/\z.heap.size<=W.heap.size)
   (fun _ _ _=>False)
  case hI=>exact OwnFrom.and (Own.from (boxed_own _ _ _) _) (OwnFrom.and (Own.from (aia _ _) _) (OwnFrom.and (ownFrom_below (axd o) (by omega)) (af9 _ _)))
  case hIx=>exact fun _ _ _ _ _ hs _ _=>hs
  case h0=>exact⟨ag,aC,al,axe _⟩
  case hassign=>
   intro l x W K hK;unfold at9
   gi_wp2
   exact hK
  case hbody=>
   rintro l' J ⟨⟨c,k⟩,hc⟩ W ⟨hx,hr,a8,hs⟩ aP;dsimp only at hc ⊢;obtain⟨Z,hZ⟩:∃Z,abs y (J.map Subtype.val)=Z:=⟨_,rfl⟩;have a6:Z.length=many:=by rw [<-hZ,aff,b0.out]
   have aI:Hid (abs y ((J++[(⟨(c,k),hc⟩:KdQ many)]).map Subtype.val)=Z.set c (k:Int)):=by
    rw [Hid,ay7];show abs y (J.map Subtype.val++[(c,k)])=_;rw [agK,hZ]
   rw [hZ] at hr;have HZ:=ax3 hZ;clear hZ;have c1:=hx.cell;have a2:c<Z.length:=by rw [a6];exact hc
   have c2:=hr.cell ((aqH (by rw [a6,HF.out];exact hP) a2).trans (ay4 a2));have c3:=hr.frozen (P+c);have i1:(0:Int)<=(c:Int):=by omega
   have i2:(c:Int)<(many:Int):=by omega
   have I:=hr.set (j:=P+c) (k:Int);rw [apA (by rw [a6,HF.out];exact hP) a2,<-aI.out] at I;have au:=ax3 I;clear I
   gi_wp2
   refine⟨(ayI W ⟨R,P+c,none⟩ (.int .i64 (k:Int))).from z.heap.size,fun b hb=>axn _ _ _ _ (fun e=>hb.2 (by simpa using e)),(axn _ _ _ _ (by simp;omega)).trans hx,au.out,a8.setCell (by simp) _,by simpa using hs⟩
  case hdone=>
   rintro D zs W hD hS ⟨hx,hr,a8,hs⟩ aH;rw [hS] at hr;go_wp2;refine avp rfl aH (results_none rfl _ _ _) ⟨rfl,?_,aaS a8 (by omega) (by omega) _⟩;unfold aoV;rw [aY.out,b1.out];exact (ayn (by omega)).trans hr
  case hstop=>exact fun _ _ _ _ _ _ h _=>h.elim
end
def aw1 (p:Int->Bool)(fold:Bool)(j:Nat):Prop:=p j=true/\(fold&&aaL j)=false
theorem ajX (p:Int->Bool)(fold:Bool){j:Nat}:∀{i:Nat},j<=i->(abg p fold j).2<=(abg p fold i).2
 | 0,h=>by rw [Nat.le_zero.1 h];exact axe _
 | i+1,h=>by
  by_cases e:j=i+1
  · rw [e];exact axe _
  ·
   have Z:=ajX p fold (j:=j) (i:=i) (by omega);rw [acL]
   split
   · exact Z
   ·
    split
    · exact Z
    · exact Nat.le_succ_of_le Z
theorem asJ {p:Int->Bool}{fold:Bool}{j:Nat}(h:aw1 p fold j):(abg p fold (j+1)).2=(abg p fold j).2+1:=by
 rw [acL,if_neg (by rw [h.1];decide),if_neg (by rw [h.2];decide)]
theorem amd {p:Int->Bool}{fold:Bool}{j i:Nat}(h:aw1 p fold j)(Z:j<i):(abg p fold j).2<(abg p fold i).2:=by
 have h1:=asJ h;have h2:=ajX p fold (j:=j+1) (i:=i) Z;omega
theorem aqd {p:Int->Bool}{fold:Bool}{j i:Nat}(h:aw1 p fold j)(Z:j<i):(abg p fold i).1[j]?=some ((abg p fold j).2:Int):=by
 rw [aq4 p fold Z,if_neg (by rw [h.1];decide),if_neg (by rw [h.2];decide)]
theorem atT {p:Int->Bool}{fold:Bool}{j i:Nat}(h:p j=false)(Z:j<i):(abg p fold i).1[j]?=some 0:=by
 rw [aq4 p fold Z,if_pos h]
def ajN (fold:Bool)(c:Nat):Nat:=if (fold&&aaL c)=true then c-32 else c
def Shut (p:Int->Bool)(fold:Bool):Prop:=∀j:Nat,(fold&&aaL j)=true->p j=p ((j-32:Nat):Int)
theorem aj1 {p:Int->Bool}{fold:Bool}(Y:Shut p fold){c:Nat}(h:p c=true):aw1 p fold (ajN fold c):=by
 unfold ajN
 split
 ·
  rename_i Z
  refine⟨by rw [<-Y c Z];exact h,?_⟩;have h2:aaL c=true:=by rw [ayz] at Z;exact Z.2
  unfold aaL at h2 ⊢;rw [decide_eq_true_iff] at h2;have:¬(97<=((c-32:Nat):Int)/\((c-32:Nat):Int)<=122):=by omega
  rw [decide_eq_false this,Bool.and_false]
 ·
  rename_i Z
  exact⟨h,by simpa using Z⟩
theorem avK (fold:Bool)(c:Nat):ajN fold c<=c:=by unfold ajN;split<;>omega
def ahE (p:Int->Bool)(fold:Bool)(c:Nat):Nat:=(abg p fold (ajN fold c)).2
theorem amh {p:Int->Bool}{fold:Bool}(X:Shut p fold){c i:Nat}(h:p c=true)(Y:c<i):(abg p fold i).1[c]?=some (ahE p fold c:Int):=by
 have ho:=aj1 X h;unfold ahE
 by_cases Z:(fold&&aaL c)=true
 ·
  rw [aq4 p fold Y,if_neg (by rw [h];decide),if_pos Z];have e:ajN fold c=c-32:=by unfold ajN;rw [if_pos Z]
  rw [e] at ho ⊢;have h2:aaL c=true:=by rw [ayz] at Z;exact Z.2
  unfold aaL at h2;rw [decide_eq_true_iff] at h2;rw [aqd ho (by omega)]
  rfl
 ·
  have e:ajN fold c=c:=by unfold ajN;rw [if_neg Z]
  rw [e] at ho ⊢;exact aqd ho Y
theorem arC (p:Int->Bool)(fold:Bool)(c:Nat):1<=ahE p fold c:=(abj p fold _).1
theorem agR {p:Int->Bool}{fold:Bool}(Z:Shut p fold){c i:Nat}(h:p c=true)(Y:c<i):ahE p fold c<(abg p fold i).2:=amd (aj1 Z h) (Nat.lt_of_le_of_lt (avK fold c) Y)
theorem asA {p:Int->Bool}{fold:Bool}(Z:Shut p fold){c d:Nat}(X:p c=true)(Y:p d=true)(h:ahE p fold c=ahE p fold d):ajN fold c=ajN fold d:=by
 have h1:=aj1 Z X;have h2:=aj1 Z Y;unfold ahE at h
 rcases Nat.lt_trichotomy (ajN fold c) (ajN fold d) with h3 | h3 | h3
 · have:=amd h1 h3;omega
 · exact h3
 · have:=amd h2 h3;omega
def ad1 (ws:List (List Int))(c:Int):Prop:=∃w∈ws,c∈w
theorem ae0 {fold:Bool}{ws:List (List Int)}{c:Int}(h:ad1 ws c):inB fold ws c=true:=by
 obtain⟨w,h1,h2⟩:=h;unfold inB;rw [ayA];exact⟨w,h1,by rw [ayA];exact⟨c,h2,by simp⟩⟩
theorem amA {fold:Bool}{ws:List (List Int)}{c:Int}:inB fold ws c=true↔∃x,ad1 ws x/\(x=c∨fold=true/\aaL x=true/\x-32=c):=by
 unfold inB;rw [ayA]
 constructor
 ·
  rintro ⟨w,h1,h2⟩;rw [ayA] at h2;obtain⟨x,h3,h4⟩:=h2;refine⟨x,⟨w,h1,h3⟩,?_⟩;rw [Bool.or_eq_true,ayz,ayz,decide_eq_true_iff,decide_eq_true_iff] at h4
  rcases h4 with h4 | ⟨⟨h4,h5⟩,h6⟩
  · exact .inl h4
  · exact .inr ⟨h4,h5,h6⟩
 ·
  rintro ⟨x,⟨w,h1,h2⟩,h3⟩;refine⟨w,h1,?_⟩;rw [ayA];refine⟨x,h2,?_⟩;rw [Bool.or_eq_true,ayz,ayz,decide_eq_true_iff,decide_eq_true_iff]
  rcases h3 with h3 | ⟨h3,h4,h5⟩
  · exact .inl h3
  · exact .inr ⟨⟨h3,h4⟩,h5⟩
def abO (fold:Bool)(ws:List (List Int)):Prop:=fold=true->∀x,ad1 ws x->¬(65<=x/\x<=90)
theorem ail {fold:Bool}{ws:List (List Int)}(Y:∀w∈ws,aai fold w=w):abO fold ws:=by
 rintro rfl x ⟨w,h1,h2⟩ Z;have h:=Y w h1;unfold aai at h;rw [if_pos rfl] at h;obtain⟨i,X⟩:=ayB h2;have h3:=congrArg (fun l=>l[i]?) h;simp only [axa,X,awW] at h3;have h4:aaU x=x:=awV h3;unfold aaU at h4;rw [if_pos Z] at h4;omega
theorem abZ {fold:Bool}{ws:List (List Int)}(V:abO fold ws):Shut (inB fold ws) fold:=by
 intro j X;rw [ayz] at X;obtain⟨rfl,Y⟩:=X;have Z:=Y;unfold aaL at Z;rw [decide_eq_true_iff] at Z;rw [axq,amA,amA]
 constructor
 ·
  rintro ⟨x,h1,h2⟩;refine⟨j,?_,.inr ⟨rfl,Y,by omega⟩⟩
  rcases h2 with rfl | ⟨_,h3,h4⟩
  · exact h1
  · unfold aaL at h3;rw [decide_eq_true_iff] at h3;omega
 ·
  rintro ⟨x,h1,h2⟩;have U:=V rfl x h1
  rcases h2 with h2 | ⟨_,h3,h4⟩
  · omega
  ·
   obtain rfl:x=j:=by omega
   exact⟨_,h1,.inl rfl⟩
theorem amO {fold:Bool}{ws:List (List Int)}(Z:abO fold ws){c d:Nat}(X:ad1 ws c)(Y:ad1 ws d)(h:ahE (inB fold ws) fold c=ahE (inB fold ws) fold d):c=d:=by
 have h1:=asA (abZ Z) (ae0 X) (ae0 Y) h;unfold ajN at h1
 cases fold with
 | false=>simpa using h1
 | true=>
  have U:=Z rfl c X;have V:=Z rfl d Y;unfold aaL at h1;simp only [ayC,decide_eq_true_iff] at h1
  split at h1<;>split at h1<;>omega
section
open Go Go.RowKit Go.Sort
theorem ahx {p:Nat}:∀(Z:List (Nat×Nat)) (r:List Int),(∀q∈Z,q.1≠p)->(abs r Z)[p]?=r[p]?
 | [],r,_=>rfl
 | k :: Z,r,h=>by
  show (abs (r.set k.1 _) Z)[p]?=_;rw [ahx Z _ (fun q Y=>h q (by simp [Y])),ayF (h k (by simp))]
theorem ai2 {p k:Nat}:∀(Y:List (Nat×Nat)) (r:List Int),(∀q∈Y,q.1=p->q.2=k)->p<r.length->((∃q∈Y,q.1=p)∨r[p]?=some (k:Int))->(abs r Y)[p]?=some (k:Int)
 | [],r,_,_,h=>by
  rcases h with ⟨q,Z,_⟩ | h
  · cases Z
  · exact h
 | a :: Y,r,h,hp,h2=>by
  show (abs (r.set a.1 (a.2:Int)) Y)[p]?=_;refine ai2 Y _ (fun q Z=>h q (by simp [Z])) (by simpa using hp) ?_
  by_cases e:a.1=p
  ·
   right
   rw [e,ayE hp,h a (by simp) e]
  ·
   rcases h2 with ⟨q,Z,X⟩ | h2
   ·
    rcases axG.1 Z with rfl | Z
    · exact absurd X e
    · exact .inl ⟨q,Z,X⟩
   ·
    right
    rw [ayF e];exact h2
def afi (F:List Int)(many j:Nat):List Int:=(F.drop (j*many)).take many
theorem afa {F:List Int}{many j p:Nat}(Z:p<many):(afi F many j)[p]?=F[j*many+p]?:=by
 unfold afi;rw [azd Z,ayP]
theorem agZ {F:List Int}{many n j:Nat}(Y:F.length=many*n)(Z:j<n):(afi F many j).length=many:=by
 have:=acP (many:=many) Z;unfold afi;simp;omega
theorem auX {F r:List Int}{P q:Nat}(h:P+r.length<=F.length)(Z:q<P∨P+r.length<=q):(spl F P r)[q]?=F[q]?:=by
 have Y:(F.take P).length=P:=by simp;omega
 unfold spl
 rcases Z with Z | Z
 · rw [ayi,ax8 (by omega),azd Z]
 · rw [az9 (by rw [List.length_append,Y];exact Z),List.length_append,Y,ayP];congr 1;omega
theorem aom {F r:List Int}{many n i:Nat}(V:F.length=many*n)(Z:i<n)(U:r.length=many):afi (spl F (i*many) r) many i=r:=by
 have Y:=acP (many:=many) Z
 apply ayX
 intro p
 by_cases X:p<many
 · rw [afa X,aqH (by omega) (by omega)]
 · have h1:=agZ (F:=spl F (i*many) r) (many:=many) (n:=n) (by rw [amy (by omega)];exact V) Z;rw [az0 (by omega),az0 (by omega)]
theorem ahk {F r:List Int}{many n i j:Nat}(U:F.length=many*n)(N:i<n)(X:j<n)(J:r.length=many)(Z:j≠i):afi (spl F (i*many) r) many j=afi F many j:=by
 have V:=acP (many:=many) N
 apply ayX
 intro p
 by_cases Y:p<many
 ·
  rw [afa Y,afa Y];refine auX (by omega) ?_
  rcases Nat.lt_or_gt_of_ne Z with h | h
  ·
   left
   have:=azg many (show j+1<=i from h);rw [Nat.succ_mul] at this;omega
  ·
   right
   have:=azg many (show i+1<=j from h);rw [Nat.succ_mul] at this;omega
 · have h1:=agZ (F:=spl F (i*many) r) (many:=many) (n:=n) (by rw [amy (by omega)];exact U) X;have h2:=agZ (F:=F) (many:=many) U X;rw [az0 (by omega),az0 (by omega)]
def alI (ws:List (List Int))(x:List Int)(c:Int):Int:=aaR (aa0 ws) (lsf (aa0 ws) (x++[c]))
theorem adK {ws:List (List Int)}{x:List Int}{c:Int}(h:x++[c]∈aa0 ws):ad1 ws c:=by
 rcases (aal ws).1 h with h | ⟨w,Z,k,_,_,Y⟩
 · simp at h
 · exact⟨w,Z,axk (i:=k) (by rw [<-Y];simp)⟩
theorem aqf {fold:Bool}{ws:List (List Int)}(o:abO fold ws)(A:∀x,ad1 ws x->0<=x/\x<=255){i:Nat}{x:List Int}(C:(aa0 ws)[i]?=some x){q:Nat×Nat} :
  q∈ae1 (ade fold ws) (aa5 ws) (i:Int) (aa0 ws).length↔∃(c j:Nat),(aa0 ws)[j]?=some (x++[(c:Int)])/\q=(ahE (inB fold ws) fold c,j):=by
 have Y:=(aac ws).nodup;have X:∀c:Nat,ad1 ws (c:Int)->(ade fold ws)[c]?=some (ahE (inB fold ws) fold c:Int):=fun c B=>amh (abZ o) (ae0 B) (by have:=A _ B;omega);unfold ae1;rw [axE]
 constructor
 ·
  rintro ⟨⟨b,j⟩,v,rfl⟩;obtain⟨h1,h2,h3,h4⟩:=ags.1 v;dsimp only at h1 h2 h3 h4;obtain⟨y,Z⟩:∃y,(aa0 ws)[j]?=some y:=⟨(aa0 ws)[j]'h2,by simp⟩;obtain⟨u1,N,_⟩:=ada Z;rw [u1] at h3;rw [N,ayr] at h4;have J:y≠[]:=fun e2=>by have:=(aav Z).2 e2;omega
  obtain⟨k,D⟩:=ayB (ak5 (ay9 Z));have z:=aae Y D;have H:k=i:=by have:=awV h3;omega
  subst H;rw [C] at D;have I:y=x++[b]:=by rw [awV D,h4];exact ah9 J
  subst I;have V:=adK (ay9 Z);have h:=A _ V;obtain⟨c,rfl⟩:∃c:Nat,b=(c:Int):=⟨b.toNat,by omega⟩;refine⟨c,j,Z,?_⟩;rw [axs,X c V,ayr,axs]
 ·
  rintro ⟨c,j,U,rfl⟩;have V:=adK (ay9 U);refine⟨((c:Int),j),ags.2 ?_,?_⟩
  ·
   obtain⟨u1,N,_⟩:=ada U;rw [u1,N,azc];have s:=(awR.1 U).1;refine⟨?_,s,?_,?_⟩
   ·
    have h0:j≠0:=fun e=>by have:=(aav U).1 e;simp at this
    show 1<=j;omega
   · rw [aae Y C]
   · show (c:Int)=_;simp [acH]
  · dsimp only;rw [axs,X c V,ayr,axs]
def au6 (fold:Bool)(ws:List (List Int))(r:List Int)(x:List Int):Prop:=
 r.length=aat fold ws/\r[0]?=some 0/\∀c:Nat,ad1 ws (c:Int)->r[ahE (inB fold ws) fold c]?=some (alI ws x (c:Int))
theorem amQ {fold:Bool}{ws:List (List Int)}(I:abO fold ws)(B:∀x,ad1 ws x->0<=x/\x<=255){i:Nat}{x:List Int}(A:(aa0 ws)[i]?=some x){r:List Int}(z:r.length=aat fold ws)(h0:r[0]?=some 0)
  (Y:∀c:Nat,ad1 ws (c:Int)->x++[(c:Int)] ∉ aa0 ws->r[ahE (inB fold ws) fold c]?=some (alI ws x (c:Int))) :
  au6 fold ws (abs r (ae1 (ade fold ws) (aa5 ws) (i:Int) (aa0 ws).length)) x:=by
 have J:=@aqf fold ws I B i x A;refine⟨by rw [aff];exact z,?_,fun c U=>?_⟩
 ·
  rw [ahx]
  · exact h0
  · intro q X e;obtain⟨d,j,_,rfl⟩:=J.1 X;have:=arC (inB fold ws) fold d;dsimp only at e;omega
 ·
  have y:ahE (inB fold ws) fold c<aat fold ws:=agR (abZ I) (ae0 U) (by have:=B _ U;omega)
  by_cases N:x++[(c:Int)]∈aa0 ws
  ·
   obtain⟨j,H⟩:=ayB N;have D:alI ws x (c:Int)=(j:Int):=by
    unfold alI;rw [acM N,aae (aac ws).nodup H]
   rw [D];refine ai2 _ _ (fun q X e=>?_) (by omega) (.inl ⟨_,J.2 ⟨c,j,H,rfl⟩,rfl⟩);obtain⟨d,k,V,rfl⟩:=J.1 X;have C:=adK (ay9 V);have Z:=amO I C U e;subst Z;exact atj V H
  ·
   rw [ahx]
   · exact Y c U N
   · intro q X e;obtain⟨d,k,V,rfl⟩:=J.1 X;have C:=adK (ay9 V);have Z:=amO I C U e;subst Z;exact N (ay9 V)
def asl (fold:Bool)(ws:List (List Int))(F:List Int)(i:Nat):Prop:=
 F.length=aat fold ws*(aa0 ws).length/\(∀j:Nat,j<i->∀x,(aa0 ws)[j]?=some x->au6 fold ws (afi F (aat fold ws) j) x)/\∀j:Nat,i<=j->j<(aa0 ws).length->afi F (aat fold ws) j=List.replicate (aat fold ws) 0
theorem aqb (ws:List (List Int)):(aa5 ws).up.length=(aa0 ws).length:=by simp [aa5]
theorem aiD {ws:List (List Int)}{i:Nat}{x:List Int}(Z:(aa0 ws)[i]?=some x)(h0:i≠0):∃k:Nat,(aaA ws)[i]?=some (k:Int)/\k<i/\(aa0 ws)[k]?=some (ado (aa0 ws) x):=by
 obtain⟨k,h1,h2⟩:=aiM (ws:=ws) x;refine⟨k,by rw [acd Z,h1],?_,h2⟩;exact amt Z h2 (adC (fun e=>h0 ((aav Z).2 e)))
theorem asg {fold:Bool}{ws:List (List Int)}(s:abO fold ws)(o:∀x,ad1 ws x->0<=x/\x<=255){F:List Int}{i:Nat}(J:i<(aa0 ws).length)(h:asl fold ws F i) :
  asl fold ws (aoV (ade fold ws) (aa5 ws) (aaA ws) F (aat fold ws) i) (i+1):=by
 obtain⟨C,V,Z⟩:=h;obtain⟨x,X⟩:∃x,(aa0 ws)[i]?=some x:=⟨(aa0 ws)[i],by simp⟩;have a2:1<=aat fold ws:=(abj _ _ _).1;have hl:i≠0->∃k:Nat,(aaA ws)[i]?=some (k:Int)/\k<(aa0 ws).length:=fun h0=>by
  obtain⟨k,h1,h2,_⟩:=aiD X h0;exact⟨k,h1,by omega⟩
 have Y:=ako (lk:=aaA ws) C J hl;have D:au6 fold ws (abs (ahG F (aat fold ws) i (aaA ws)) (ae1 (ade fold ws) (aa5 ws) (i:Int) (aa0 ws).length)) x:=by
  by_cases h0:i=0
  ·
   subst h0;have z:=(aav X).1 rfl;subst z;have U:ahG F (aat fold ws) 0 (aaA ws)=List.replicate (aat fold ws) 0:=by
    rw [<-Z 0 (axe _) J];unfold ahG afi;rw [if_pos rfl]
   rw [U] at Y ⊢;refine amQ s o X Y (by rw [ayJ,if_pos (by omega)]) (fun c B I=>?_);have v:ahE (inB fold ws) fold c<aat fold ws:=agR (abZ s) (ae0 B) (by have:=o _ B;omega);rw [ayJ,if_pos v];unfold alI;rw [ay0] at I ⊢;rw [aiT I,aae (aac ws).nodup X]
   rfl
  ·
   obtain⟨k,h1,h2,h3⟩:=aiD X h0;have U:ahG F (aat fold ws) i (aaA ws)=afi F (aat fold ws) k:=by
    unfold ahG afi;rw [if_neg h0,h1]
    rfl
   rw [U] at Y ⊢;obtain⟨g1,g2,g3⟩:=V k h2 _ h3;refine amQ s o X Y g2 (fun c B I=>?_);rw [g3 c B];unfold alI ado
   rw [<-agh (acK ws)]
   cases x with
   | nil=>exact absurd ((aav X).2 rfl) h0
   | cons a t=>
    conv=>rhs;rw [ay1];unfold lsf
    rw [ay1] at I;rw [if_neg I]
    rfl
 unfold aoV;rw [aqb];have N:=D.1;have a1:=acP (many:=aat fold ws) J;refine⟨by rw [amy (by omega)];exact C,fun j hj y A=>?_,fun j hj H=>?_⟩
 ·
  by_cases e:j=i
  · subst e;rw [aom C J N];rw [X] at A;rw [<-awV A];exact D
  · rw [ahk C J (by omega) N e];exact V j (by omega) y A
 · rw [ahk C J H N (by omega)];exact Z j (by omega) H
theorem asx (fold:Bool)(ws:List (List Int)):asl fold ws (List.replicate (aat fold ws*(aa0 ws).length) 0) 0:=by
 refine⟨by simp,fun j Z=>absurd Z (Nat.not_lt_zero _),fun j _ Z=>?_⟩;have Y:=acP (many:=aat fold ws) Z;unfold afi;rw [List.drop_replicate,List.take_replicate];congr 1;omega
def atZ (fold:Bool)(ws:List (List Int)):Nat->List Int
 | 0=>List.replicate (aat fold ws*(aa0 ws).length) 0
 | i+1=>aoV (ade fold ws) (aa5 ws) (aaA ws) (atZ fold ws i) (aat fold ws) i
theorem ang {fold:Bool}{ws:List (List Int)}(Z:abO fold ws)(Y:∀x,ad1 ws x->0<=x/\x<=255):∀{i:Nat},i<=(aa0 ws).length->asl fold ws (atZ fold ws i) i
 | 0,_=>asx fold ws
 | i+1,h=>asg Z Y h (ang Z Y (by omega))
def an0 (fold:Bool)(ws:List (List Int)):List Int:=atZ fold ws (aa0 ws).length
theorem avI {fold:Bool}{ws:List (List Int)}(V:abO fold ws)(U:∀x,ad1 ws x->0<=x/\x<=255){j:Nat}{x:List Int}(X:(aa0 ws)[j]?=some x) :
  (an0 fold ws)[j*aat fold ws]?=some 0/\∀c:Nat,ad1 ws (c:Int)->(an0 fold ws)[j*aat fold ws+ahE (inB fold ws) fold c]?=some (alI ws x (c:Int)):=by
 have J:=(awR.1 X).1;obtain⟨_,h1,_⟩:=ang V U (axe (aa0 ws).length);obtain⟨h2,h3,h4⟩:=h1 j J x X;have N:1<=aat fold ws:=(abj _ _ _).1;refine⟨?_,fun c Y=>?_⟩
 · rw [afa (by omega)] at h3;exact h3
 · have h5:=h4 c Y;have Z:ahE (inB fold ws) fold c<aat fold ws:=agR (abZ V) (ae0 Y) (by have:=U _ Y;omega);rw [afa Z] at h5;exact h5
end
def dvC (L:List Int)(m:Int)(row:Value):List Value:=(L.map (Value.int .i64)++[.int .i64 m])++[row]
structure Dv (W:World)(B:Nat)(L:List Int)(m:Int)(row:Value):Prop where
 box:W.heap[B]?=some (.cells (dvC L m row).toArray 146 (0,0))
 len:L.length=256
theorem Dv.lt {W:World}{B:Nat}{L:List Int}{m:Int}{row:Value}(h:Dv W B L m row):B<W.heap.size:=(awU.1 h.box).1
theorem Dv.below {W V:World}{B:Nat}{L:List Int}{m:Int}{row:Value}(h:Dv W B L m row)(Z:Below W.heap.size W V):Dv V B L m row:=⟨(Z.block B h.lt).trans h.box,h.len⟩
theorem Dv.cells {W:World}{B:Nat}{L:List Int}{m:Int}{row:Value}(h:Dv W B L m row):W.cell? ⟨B,256,none⟩=some (.int .i64 m)/\W.cell? ⟨B,257,none⟩=some row:=by
 have Z:=h.len;have X:(dvC L m row)[256]?=some (.int .i64 m):=by
  unfold dvC;rw [ayi,az9 (by simp [Z])];simp [Z]
 have Y:(dvC L m row)[257]?=some row:=by
  unfold dvC;rw [az9 (by simp [Z])];simp [Z]
 simp only [World.cell?,h.box];simp [X,Y]
theorem Dv.new (w:World)(L:List Int)(m:Int)(row:Value)(Z:L.length=256):Dv (w.alloc (.cells (dvC L m row).toArray 146)) w.heap.size L m row:=⟨((Bx.nil _ w).snoc (.cells (dvC L m row).toArray 146) rfl) 0 _ rfl,Z⟩
def ad9 (m:Int)(n:Nat):Int:=if m<1 then 0 else (n:Int) / m
theorem afJ (L:List Int)(m:Int)(a:Option Addr)(n c:Nat)(w:World)(z:L.length=256)(B:n<=1000000000000) :
  Calls ZP 89 #[.agg (dvC L m (.slice a n c)).toArray] w fun e w'=>e=.returned (.int .i64 (ad9 m n))/\Below w.heap.size w w':=by
 have J:=Dv.new w L m (.slice a n c) z;have I:Below w.heap.size w (w.alloc (.cells (dvC L m (.slice a n c)).toArray 146)):=aa1 _ _;obtain⟨W,hW⟩:∃W,W=w.alloc (.cells (dvC L m (.slice a n c)).toArray 146):=⟨_,rfl⟩;rw [<-hW] at J I;obtain⟨s1,s2⟩:=J.cells;obtain⟨A,C⟩:∃A,(dvC L m (.slice a n c)).toArray=A:=⟨_,rfl⟩;rw [C] at hW ⊢;clear C J
 by_cases Z:m<1
 ·
  have y:decide (m<1)=true:=by simpa using Z
  have Y:ad9 m n=0:=by unfold ad9;rw [if_pos Z]
  rw [Y];clear Y Z;go_enter func89,ntmps89;go_upto_region 1 with fail
  rw [<-hW];clear hW
  go_wp2_with fail
  go_ret;exact⟨rfl,I⟩
 ·
  have y:decide (m<1)=false:=by simpa using Z
  obtain⟨k,rfl⟩:∃k:Nat,m=(k:Int):=⟨m.toNat,by omega⟩;have Y:ad9 k n=((n / k:Nat):Int):=by unfold ad9;rw [if_neg Z];exact (Int.natCast_ediv n k).symm
  rw [Y];have N:¬((k:Int)=0):=by omega
  have U:((k:Int)==0)=false:=by simp;omega
  have D:(n:Int).tdiv (k:Int)=((n / k:Nat):Int):=(Int.ofNat_tdiv n k).symm;have V:n / k<=n:=Nat.div_le_self _ _;have X:wrap64 ((n:Int) / (k:Int))=((n / k:Nat):Int):=by
   have h2:n / k<=1000000000000:=awT V B;rw [<-Int.natCast_ediv];clear D N U V
   generalize n / k=d at h2 ⊢
   unfold wrap64;omega
  have H:=ax3 X;clear X D;clear Y Z;go_enter func89,ntmps89;go_upto_region 1 with fail
  rw [<-hW];clear hW
  go_wp2_with fail
  rw [H.out];go_ret;exact⟨rfl,I⟩
theorem amU:(ZP.info? 146).map (·.size)=some 258:=by kernel_rfl
theorem adY {L:List Int}(Z:L.length=256)(m:Int)(row:Value):(dvC L m row).toArray.size=258:=by simp [dvC,Z]
def goD (L:List Int)(m:Int)(F:List Int)(node:Int)(c:Nat):Option Int:=
 if ((L[c]?).getD 0<0∨m<=(L[c]?).getD 0)∨(node<0∨ad9 m F.length<=node) then none else F[(node*m+(L[c]?).getD 0).toNat]?
def aww:Option Int->Value
 | some x=>.tuple #[.int .i64 x,.bool true]
 | none=>.tuple #[.int .i64 0,.bool false]
section inround
variable {P:Program}{ops:Array Oper}{Q Q':Exit->Act->World->Prop}{md:Region.Mode}{n l:Nat}
theorem aji {row:String}{args:Array Value}{w:World}{R:Value->World->Prop}(h:Rows P row args w R):RowsIn (Fence.wide.inRound l) n P row args w R:=
 fun c cs _=>let ⟨v,w',r,s⟩:=h c cs;⟨v,w',r,stepsIn_wide.2 s⟩
theorem aiZ {o:Oper}{a:Act}{w:World}{K:Act->World->Prop}(Z:∀c,o.op≠.defer c)(V:∀e a w,Q e a w->Q' e a w)(U:¬LetsOut Q)
  (h:o.wp P a w K Q):o.wpIn (Fence.wide.inRound l) n P a w K Q':=by
 unfold Oper.wp at h;unfold Oper.wpIn;refine⟨fun f _=>trivial,?_⟩;rw [Oper.semAt_eq _ _ _ Z]
 generalize (execOp a.eval o).run P w=r at *
 cases r with
 | ok x w'=>
  cases x<;>simp only [Oper.upon] at h<;>simp only [Oper.uponIn]
  case value u=>exact h
  case skip=>exact h
  case defer d=>exact h
  case enter f args=>
   refine⟨(fun X=>by cases X),(callsIn_wide (n:=n-1)).2 (h.mono fun e w'' Y=>?_)⟩
   cases e with
   | returned u=>exact Y
   | panicked c=>exact V _ _ _ Y
   | outgrown=>exact absurd Y U
  case row row args=>exact⟨(fun X=>by cases X),aji h⟩
 | halt x w'=>
  cases x<;>simp only [Oper.upon] at h<;>simp only [Oper.uponIn]
  case panic u=>exact V _ _ _ h
theorem ahb (X:abe ops=true)(V:∀e a w,Q e a w->Q' e a w)(N:¬LetsOut Q):∀(Y:Nat) (Z:Array Bool) (a:Act) (w:World),
  wpAny P md ops Q Y Z a w->wpAnyIn (Fence.wide.inRound l) n P md ops Q' Y Z a w
 | 0,_,_,_,h=>⟨h.1,V _ _ _ h.2⟩
 | Y+1,Z,a,w,h=>by
  refine⟨fun h0=>V _ _ _ (h.1 h0),fun i J=>?_⟩;have h1:=wpOp_mono (fun H w' I=>ahb X V N Y _ H w' I) (h.2 i J);unfold wpOp at h1;unfold wpOpIn
  split
  · rename_i ho;simp only [ho] at h1;exact h1
  ·
   rename_i o ho
   simp only [ho] at h1
   split
   ·
    rename_i U
    simp only [U,if_true] at h1
    rcases h1 with h1 | ⟨_,h1⟩
    · exact aiZ (afS X ho) V N h1
    · exact absurd h1 N
   ·
    rename_i U
    simp only [U] at h1;exact⟨fun f _=>trivial,h1⟩
def agF (Q:Exit->Act->World->Prop):Exit->Act->World->Prop
 | .normal,a,w=>Q .normal a w
 | _,_,_=>False
theorem agF.normal {a:Act}{w:World}(h:Q .normal a w):agF Q .normal a w:=h
theorem agF.imp:∀(e:Exit) (a:Act) (w:World),agF Q e a w->Q e a w:=fun e a w h=>by
 cases e<;>first | exact h | exact absurd h id
theorem amu:¬LetsOut (agF Q):=fun ⟨_,_,h⟩=>h
theorem acD {S:World->Prop}{id:Nat}{a:Act}{w:World}(Y:P.follows .mixedOrders=true)(Z:abe ops=true)(X:S w.drew)
  (h:S w.drew->wpAnyH P .any ops (agF Q) S ops.size (Array.replicate ops.size false) a w.drew):(Code.region id ops true).wpIn (Fence.wide.inRound l) n P Q a w:=
 wpIn_region_any Y (ahb Z agF.imp amu _ _ _ _ (wpAny_of_held _ _ _ _ (h X)))
theorem abA (w:World){o:Oper}{a:Act}{K:Act->World->Prop}(s x:Operand)(t:TypeId)
  (D:o.op=.call { callee:=.builtin .append,args:=#[s,x],argTypes:=#[t,t] })
  (base:Nat) (e:TypeId) (i:TypeInfo) (z:Value) (size bytes:Nat) (ht:P.underlying t=some (.slice e)) (hi:P.info? e=some i) (hz:i.zero=some z) (Y:i.size=size) (C:i.bytes=bytes) (J:z.cells.size=size) (I:0<size)
  (v:Value) (n:Nat) (xs:List Value) (hs:a.eval s=v) (U:w.ownsRow base e size v n xs) (A:Option Addr) (m c:Nat) (cs:List Value) (hx:a.eval x=.slice A m c) (H:SlK size w A m cs) (N:∀u∈cs,u.oneCell'=true)
  (B:n+m<=maxLen) (Z:(n+m)*bytes<=140737488355328) (X:base<=w.heap.size)
  (h:∀v' w',w'.ownsRow base e size v' (n+m) (xs++cs)->w.grownBy w' v.ownBlock->(v'.ownBlock=v.ownBlock∨v'.ownBlock=some w.heap.size)->K (a.put o.dst v') w'):o.wp P a w K Q:=by
 obtain⟨v',w',V,r1,j,y⟩:=aaq (P:=P) w base t o.type e i z size bytes ht hi hz Y C J I v n xs U A m c cs H N B Z X;unfold Oper.wp;simp [execOp,D,resolve,invoke,builtin,hs,hx,V,Result.andThen];exact h v' w' r1 j y
theorem acY {c:Bool}{p q:Prop}(Z:c=true)(h:p):if c=true then p else q:=by rw [if_pos Z];exact h
end inround
theorem atJ:Tryz.zeroCells146=(dvC (List.replicate 256 0) 0 (.slice none 0 0)).toArray:=by kernel_rfl
theorem alL (L:List Int)(m:Int)(row:Value)(Y:row.oneCell'=true):(dvC L m row).toArray.all (·.oneCell')=true:=by
 rw [Array.all_eq_true_iff_forall_mem];intro v Z;have Z:v∈dvC L m row:=by simpa using Z
 unfold dvC at Z;rw [ayd,ayd] at Z
 rcases Z with (Z | Z) | Z
 · obtain⟨x,_,rfl⟩:=axE.1 Z;rfl
 · rw [ayp] at Z;rw [Z];rfl
 · rw [ayp] at Z;rw [Z];exact Y
theorem ahT {fn:Func}{p u:Tmp}{tmps:Array Value}{W:World}{B:Nat}{cs:Array Value}(h:fn.results=#[.cell p 146,.tmp u])(X:tmps.getD p undef=.pointer (some ⟨B,0,none⟩))(V:W.heap[B]?=some (.cells cs 146 (0,0)))(Y:(ZP.info? 146).map (·.size)=some cs.size) :
  (results fn tmps).run ZP W=.ok (.tuple #[.agg cs,tmps.getD u undef]) W:=by
 have Z:tmps[p]?.getD undef=.pointer (some ⟨B,0,none⟩):=by simpa using X
 simp [results,h,Z,asAddr,run_loadVar_row W B 146 146 cs (0,0) _ V underlying146 rfl Y]
theorem amE (B:List Value):∀(Z A P:List Value) (k off:Nat),Z.length=A.length->P.length=off+k->
  (Z.zipIdx k).foldl (fun cs (x:Value×Nat)=>cs.setIfInBounds (off+x.2) x.1) (P++A++B).toArray=(P++Z++B).toArray
 | [],[],P,k,off,_,_=>by simp
 | v :: Z,a :: A,P,k,off,hl,hP=>by
  rw [List.zipIdx_cons,List.foldl_cons];have Y:(P++(a :: A)++B).toArray.setIfInBounds (off+k) v=((P++[v])++A++B).toArray:=by rw [<-hP];simp
  show List.foldl _ ((P++(a :: A)++B).toArray.setIfInBounds (off+k) v) _=_;rw [Y,amE B Z A (P++[v]) (k+1) off (by simpa using hl) (by simp;omega)];simp
theorem abR (Z:Nat->Option (Nat×Nat))(P A B Y:List Value)(i:Nat)(v:Value)(rest:List (Nat×Value))(V:v.cells=Y.toArray)(X:Y.length=A.length)(U:Z i=some (P.length,A.length)) :
  Instr.fill Z (P++A++B).toArray ((i,v) :: rest)=Instr.fill Z (P++Y++B).toArray rest:=by
 have e:=amE B Y A P 0 P.length X rfl;rw [Instr.fill];simp only [U,V];rw [if_neg (by simp [X])];congr 1;rw [<-e];simp
theorem aaO {P:Program}{Y:Array Oper}{S:World->Prop}{op:Oper}{a:Act}(X:Region.wanted op (yielded Y a.tmps)=true)(t:TypeId)(Z:Array (Nat×Operand))(ho:op.op=.build t Z)(V:Array Value)
  (U:P.built t (Z.map fun (i,x)=>(i,a.eval x)).toList=some V):YieldsIf P Y S op (.agg V) a:=
 .inl ⟨X,fun w _=>by
  unfold execOp;simp only [ho,awX,run_build w t _ V U,Result.andThen_ok]
  rfl⟩
theorem afN {w:World}{b:Nat}{A B:List Value}{t:TypeId}{fr:Nat×Nat}(X:w.heap[b]?=some (.cells (A++B).toArray t fr)):w.rangeAt b 0 A:=fun j v Z=>by
 have Y:j<A.length:=(awR.1 Z).1;have e:(A++B)[j]?=some v:=by rw [ax8 Y];exact Z
 simp only [World.cell?,X,axz]
 simpa using e
theorem avn (L:List Int)(m:Int)(row:Value):dvC L m row=L.map (Value.int .i64)++[.int .i64 m,row]:=by simp [dvC]
theorem Dv.range {W:World}{B:Nat}{L:List Int}{m:Int}{row:Value}(h:Dv W B L m row):W.rangeAt B 0 (L.map (Value.int .i64)):=by
 have Z:=h.box;rw [avn] at Z;exact afN Z
theorem auF (t:TV)(X:Option Addr)(Z Y:Nat):(ZP.built 227 [(1,Value.agg #[.slice t.ua t.un t.uc,.slice t.da t.dn t.dc,.slice t.xa t.xn t.xc,.slice t.ba t.bn t.bc]),(2,.slice X Z Y)])=some (ajE (List.replicate 256 0) 0 (.slice none 0 0) t (.slice X Z Y)).toArray:=by kernel_rfl
theorem ah7 {P:Program}{Y:Array Oper}{rest:List Oper}{o:Oper}{a:Act}{w:World}{Q:Exit->Act->World->Prop}(U:o.guard=none)(t:TypeId)(Z:Array (Nat×Operand))(ho:o.op=.build t Z)(V:Array Value)
  (X:P.built t (Z.map fun (i,x)=>(i,a.eval x)).toList=some V) (h:wpList P Y Q rest (a.put o.dst (.agg V)) w):wpList P Y Q (o :: rest) a w:=
 wpList_build U t Z ho (by rw [X];rfl) (by rw [X];exact h)
theorem amv (w:World)(g:Nat)(cs:Array Value)(t:TypeId)(fr:Nat×Nat)(Y:w.heap[g]?=some (.cells cs t fr)):w.setRow g cs=w:=by
 have e:(w.setRow g cs).heap=w.heap:=by
  apply Array.ext_getElem?
  intro i
  by_cases Z:i=g
  · rw [Z,setRow_heap w g _ cs t fr Y,Y]
  · exact setRow_other w g i cs Z
 have X:w.setRow g cs={ w with heap:=(w.setRow g cs).heap }:=rfl;rw [X,e]
theorem afL (b:Nat)(t:TypeId)(fr:Nat×Nat)(B:List Value):∀(Z A P:List Value) (w:World),Z.length=A.length->w.heap[b]?=some (.cells (P++A++B).toArray t fr)->w.setCells b P.length Z=w.setRow b (P++Z++B).toArray
 | [],[],P,w,_,hg=>by simpa [World.setCells] using (amv w b _ t fr hg).symm
 | v :: Z,a :: A,P,w,hl,hg=>by
  have e:=setCell_eq_setRow w b P.length _ t fr v hg;have V:(P++(a :: A)++B).toArray.setIfInBounds P.length v=((P++[v])++A++B).toArray:=by simp
  rw [V] at e;have Y:=setRow_heap w b _ ((P++[v])++A++B).toArray t fr hg;have X:=afL b t fr B Z A (P++[v]) (w.setRow b ((P++[v])++A++B).toArray) (by simpa using hl) Y;rw [World.setCells,e];rw [show P.length+1=(P++[v]).length by simp,X,setRow_setRow];simp
theorem afu {P:Program}{Y:Array Oper}{rest:List Oper}{op:Oper}{a:Act}{w:World}{Q:Exit->Act->World->Prop}(U:op.guard=none)(V:TypeId)(x y:Operand)(ho:op.op=.store V x y)
  (b:Nat) (Z A B:List Value) (H:a.eval x=.pointer (some ⟨b,0,none⟩)) (I:a.eval y=.agg Z.toArray) (t:TypeId) (N:w.heap[b]?=some (.cells (A++B).toArray t (0,0))) (J:Z.length=A.length)
  (D:(P.info? V).map (·.size)=some Z.toArray.size) (h1:Z.toArray.all (·.oneCell')=true)
  (h:wpList P Y Q rest (a.put op.dst undef) (w.setRow b (Z++B).toArray)):wpList P Y Q (op :: rest) a w:=by
 refine wpList_store_mid U V x y ho b 0 Z.toArray H I (fun j X=>?_) D h1 ?_
 ·
  have X:j<A.length:=by rw [<-J];simpa using X
  refine⟨?_,?_⟩
  · simp [World.cell?,N,ax8 X,X]
  · simp [World.frozen?,N]
 · have e:=afL b t (0,0) B Z A [] w J N;simp only [ay0,axV] at e;rw [show Z.toArray.toList=Z by simp,e];exact h
theorem afw (L:List Int)(m:Int)(row:Value)(t:TV)(lk:Value):ajE L m row t lk=L.map (Value.int .i64)++[.int .i64 m,row,.slice t.ua t.un t.uc,.slice t.da t.dn t.dc,.slice t.xa t.xn t.xc,.slice t.ba t.bn t.bc,lk]:=by simp [ajE]
theorem aqP (L:List Int)(m:Int)(row:Value)(t:TV)(lk:Value):ajE L m row t lk=dvC L m row++[.slice t.ua t.un t.uc,.slice t.da t.dn t.dc,.slice t.xa t.xn t.xc,.slice t.ba t.bn t.bc,lk]:=by simp [ajE,dvC]
theorem atA (L:List Int)(m:Int)(row:Value)(t:TV)(lk:Value)(Y:row.oneCell'=true)(X:lk.oneCell'=true):(ajE L m row t lk).toArray.all (·.oneCell')=true:=by
 rw [aqP];have:=alL L m row Y;rw [Array.all_eq_true_iff_forall_mem] at this ⊢;intro v Z;rw [List.mem_toArray,ayd] at Z
 rcases Z with h | h
 · exact this v (by rw [List.mem_toArray];exact h)
 · simp at h;rcases h with rfl | rfl | rfl | rfl | rfl<;>first | rfl | exact X
theorem aqF {L:List Int}(Z:L.length=256)(m:Int)(row:Value)(t:TV)(lk:Value):(ajE L m row t lk).toArray.size=263:=by simp [ajE,Z]
theorem Mk.frozen {W:World}{M:Nat}{L:List Int}{m:Int}{row lk:Value}{t:TV}(h:Mk W M L m row t lk)(i:Nat):W.frozen? ⟨M,i,none⟩=false:=by simp [World.frozen?,h.box]
theorem Mk.setMany {W:World}{M:Nat}{L:List Int}{m:Int}{row lk:Value}{t:TV}(h:Mk W M L m row t lk)(v:Int):Mk (W.setCell ⟨M,256,none⟩ (.int .i64 v)) M L v row t lk:=by
 refine⟨?_,h.len⟩;rw [setCell_eq_setRow W M 256 _ _ _ _ h.box,setRow_heap W M _ _ _ _ h.box];have e:(ajE L m row t lk).toArray.setIfInBounds 256 (.int .i64 v)=(ajE L v row t lk).toArray:=by
  rw [afw,afw,ayD,ayg _ _ (by simp [h.len])];simp [h.len]
 rw [e]
theorem Mk.setRows {W:World}{M:Nat}{L:List Int}{m:Int}{row lk:Value}{t:TV}(h:Mk W M L m row t lk)(v:Value):Mk (W.setCell ⟨M,257,none⟩ v) M L m v t lk:=by
 refine⟨?_,h.len⟩;rw [setCell_eq_setRow W M 257 _ _ _ _ h.box,setRow_heap W M _ _ _ _ h.box];have e:(ajE L m row t lk).toArray.setIfInBounds 257 v=(ajE L m v t lk).toArray:=by
  rw [afw,afw,ayD,ayg _ _ (by simp [h.len])];simp [h.len]
 rw [e]
theorem ajb {W:World}{α:Type}{enc:α->Value}{a:Option Addr}{n:Nat}{xs:List α}(h:Sl1 enc W a n xs)(X:0<xs.length)(x:Addr)(Y:a=some x):x.block<W.heap.size:=by
 rcases h.2 with h0 | ⟨b,off,e,Z,_⟩
 · have:=h.1;omega
 · rw [Y] at e;cases e;exact Z
theorem av0 {W:World}{t:TV}{T:aaN}(h:Tri W t T)(h1:0<T.up.length)(h2:0<T.dep.length)(h3:0<T.wrd.length)(h4:0<T.byt.length):avJ t W.heap.size:=by
 rintro a (e | e | e | e)
 · exact ajb h.up h1 a e
 · exact ajb h.dep h2 a e
 · exact ajb h.wrd h3 a e
 · exact ajb h.byt.1 h4 a e
theorem auD {fold:Bool}{ws:List (List Int)}(X:abO fold ws)(c:Nat)(v:Int)(h:(ade fold ws)[c]?=some v):0<=v/\v<(aat fold ws:Int):=by
 have Y:c<256:=by have:=(awR.1 h).1;rw [acZ] at this;exact this
 have V:1<=aat fold ws:=(abj _ _ _).1
 cases Z:inB fold ws (c:Int) with
 | false=>
  have:=atT (fold:=fold) Z Y;rw [show (abg (inB fold ws) fold 256).1=ade fold ws from rfl,h] at this
  cases this;omega
 | true=>
  have e:=amh (abZ X) Z Y;rw [show (abg (inB fold ws) fold 256).1=ade fold ws from rfl,h] at e;have U:ahE (inB fold ws) fold c<aat fold ws:=agR (abZ X) Z Y
  cases e;omega
theorem avj:(ZP.info? 227).map (·.size)=some 263:=by kernel_rfl
theorem avN:Tryz.zeroCells227.size=263:=by kernel_rfl
theorem anW (fold:Bool)(a:Option Addr)(la ca:Nat)(wss:List (List Int))(w:World)(hA:Wds w a la wss)(aW:la<=1000000)(hM:∀x∈wss,x.length<=1000000)(hT:(abo fold wss).length<=1000000)(hr:aan fold wss=true) :
  Calls ZP 86 #[.agg (aaF fold a la ca)] w fun e w'=>∃R,e=.returned (.tuple #[.agg (dvC (ade fold wss) (aat fold wss) (.slice (some ⟨R,0,none⟩) (aat fold wss*(aa0 wss).length) (aat fold wss*(aa0 wss).length))).toArray,.int .i64 0])/\
   aaa R (an0 fold wss) w'/\w.heap.size<=R/\Below w.heap.size w w':=by
 obtain⟨W,hW⟩:∃W,W=(w.alloc (.cells (aaF fold a la ca) 24)).alloc (.cells Tryz.zeroCells146 146):=⟨_,rfl⟩;have hB:Below w.heap.size w W:=by rw [hW];exact ((axf _ _).alloc (axe _) _).alloc (by simp) _
 have hO:Bx w.heap.size [.cells (aaF fold a la ca) 24,.cells Tryz.zeroCells146 146] W:=by rw [hW];exact ((Bx.nil _ w).snoc _ rfl).snoc _ (by simp)
 have s0:W.cell? ⟨w.heap.size,0,none⟩=some (.bool fold):=hO.cell (i:=0) rfl rfl;have s1:W.cell? ⟨w.heap.size,1,none⟩=some (.slice a la ca):=hO.cell (i:=0) rfl rfl;have aL:=hA.below hB;have aE:abI (aa5 wss)=some (aa0 wss,wss):=ab6.2 ⟨abq hr,rfl,rfl⟩;have HC:=ax3 (ahg fold a la ca wss W aL aW hM hT hr);have HO:=ax3 hO;have bW:=ax3 aL;have bK:=ax3 aE;have bI:=ax3 hr;have HM:=ax3 hM;have HT:=ax3 hT;have bx:(aa0 wss).length<=400:=afO aE;have ar:0<(aa0 wss).length:=ayG.2 (adD wss);have hg:abO fold wss:=ail (abr hr).2;have aX:∀x,ad1 wss x->0<=x/\x<=255:=by rintro x ⟨xs,h1,h2⟩;exact hA.bytes xs h1 x h2
 have HG:=ax3 hg;have bV:=ax3 aX;obtain⟨n,hn⟩:∃n,(aa0 wss).length=n:=⟨_,rfl⟩;obtain⟨m,hm⟩:∃m,aat fold wss=m:=⟨_,rfl⟩;have j:1<=m/\m<=257:=by rw [<-hm];exact abj _ _ _
 have HN:=ax3 hn;have ab:=ax3 hm;obtain⟨Q,hQ⟩:∃Q,m*n=Q:=⟨_,rfl⟩;have c9:Q<=257*400:=by rw [<-hQ];exact axA j.2 (by omega)
 have e1:wrap64 ((m:Int)*(n:Int))=(Q:Int):=by rw [<-axB,hQ];unfold wrap64;omega
 have HQ:=ax3 hQ;rw [hn,hm,hQ];rw [hn] at bx ar;clear hr hO hA aL aE hM hT hg aX hn hm hQ;go_enter func86,ntmps86;go_upto_region 1 with fail
 rw [<-hW];clear hW;go_upto_region 4 with (go_at_call 87;refine HC.out.mono ?_;rintro e J ⟨t,rfl,aY,aH⟩)
 obtain⟨W2,a1⟩:∃W2,W2=J.alloc (.cells #[.slice t.ua t.un t.uc,.slice t.da t.dn t.dc,.slice t.xa t.xn t.xc,.slice t.ba t.bn t.bc] 150):=⟨_,rfl⟩;have bC:Below W.heap.size W W2:=by rw [a1];exact aH.alloc aH.size _
 have ay:Below J.heap.size J W2:=by rw [a1];exact aa1 _ _
 have D:Bx J.heap.size [.cells #[.slice t.ua t.un t.uc,.slice t.da t.dn t.dc,.slice t.xa t.xn t.xc,.slice t.ba t.bn t.bc] 150] W2:=by rw [a1];exact (Bx.nil _ J).snoc _ rfl
 have ag:=aY.below ay;rw [<-a1];have v0:W2.cell? ⟨J.heap.size,0,none⟩=some (.slice t.ua t.un t.uc):=D.cell (i:=0) rfl rfl;have v1:W2.cell? ⟨J.heap.size,1,none⟩=some (.slice t.da t.dn t.dc):=D.cell (i:=0) rfl rfl;have v2:W2.cell? ⟨J.heap.size,2,none⟩=some (.slice t.xa t.xn t.xc):=D.cell (i:=0) rfl rfl;have v3:W2.cell? ⟨J.heap.size,3,none⟩=some (.slice t.ba t.bn t.bc):=D.cell (i:=0) rfl rfl;have bv:t.un=n:=by rw [<-HN.out,<-aqb];exact ag.up.1.symm
 have HL:=ax3 (aiv t (aa5 wss) (aa0 wss) wss W2 ag (by omega) bK.out);rw [HN.out] at HL;have bN:=ax3 D;have bG:=ax3 ag;have bq:=ax3 bC;clear a1 ay D ag aY aH bv s0 s1;go_upto_region 7 with (go_at_call 127;refine HL.out.mono ?_;rintro e w3 ⟨q,rfl,hq,c8,af⟩)
 have aj:Below W.heap.size W w3:=bq.out.trans (af.mono bq.out.size);have aI:=HO.out.below aj;have s0:w3.cell? ⟨w.heap.size,0,none⟩=some (.bool fold):=aI.cell (i:=0) rfl rfl;have s1:w3.cell? ⟨w.heap.size,1,none⟩=some (.slice a la ca):=aI.cell (i:=0) rfl rfl;have HF:=ax3 (asX fold a la ca wss w3 (bW.out.below aj) aW HM.out HT.out bI.out);rw [ab.out] at HF;have bF:=ax3 (bG.out.below af);have bi:=ax3 (bN.out.below af);have bh:=ax3 hq;have bp:=ax3 aj;have c6:J.heap.size<w3.heap.size:=(awU.1 (bi.out 0 _ rfl)).1;have bZ:w.heap.size+1<W.heap.size:=(awU.1 (HO.out 1 _ rfl)).1;clear aI v0 v1 v2 v3 hq af aj;have aq:(Tryz.zeroCells144).size=(((ade fold wss).map (Value.int .i64)).toArray).size:=by rw [atE,acB,acB,acZ];simp
 have av:(ZP.info? 144).map (·.size)=some (((ade fold wss).map (Value.int .i64)).toArray).size:=by rw [acB,acZ];exact apJ
 have bd:=ax3 aq;have ac:=ax3 av;clear aq av;go_upto_region 10 with (first
  | (refine wpList_store_row rfl 144 _ _ rfl _ _ rfl rfl 144 _ (heap_alloc_new _ _) ac.out bd.out (aj2 _) ?_)
  | (go_at_call 128;refine HF.out.mono ?_;rintro e w4 ⟨rfl,aG⟩))
 rw [World.setRow_alloc_new];obtain⟨Y,ae⟩:∃Y,Y=w4.alloc (.cells ((ade fold wss).map (Value.int .i64)).toArray 144):=⟨_,rfl⟩;have ax:Below w4.heap.size w4 Y:=by rw [ae];exact aa1 _ _
 have a7:Below w3.heap.size w3 Y:=aG.trans (ax.mono aG.size);have aR:Hid (Y.heap[w4.heap.size]?=some (.cells ((ade fold wss).map (Value.int .i64)).toArray 144 (0,0))):=by rw [Hid,ae];exact heap_alloc_new _ _
 have au:w4.heap.size<Y.heap.size:=(awU.1 aR.out).1;rw [<-ae];clear ae;have a2:=bi.out.below a7;have v0:Y.cell? ⟨J.heap.size,0,none⟩=some (.slice t.ua t.un t.uc):=a2.cell (i:=0) rfl rfl;have v1:Y.cell? ⟨J.heap.size,1,none⟩=some (.slice t.da t.dn t.dc):=a2.cell (i:=0) rfl rfl;have v2:Y.cell? ⟨J.heap.size,2,none⟩=some (.slice t.xa t.xn t.xc):=a2.cell (i:=0) rfl rfl;have v3:Y.cell? ⟨J.heap.size,3,none⟩=some (.slice t.ba t.bn t.bc):=a2.cell (i:=0) rfl rfl;have aN:=ax3 (bF.out.below a7);have aQ:Hid (avJ t Y.heap.size):=by
  have hp:0<(aa0 wss).length:=by rw [HN.out];exact ar
  exact av0 aN.out (by simpa [aa5] using hp) (by simpa [aa5] using hp) (by simpa [aa5] using hp) (by simpa [aa5] using hp)
 have ao:Hid (aaa q (aaA wss) Y):=(a7.block q bh.out.lt).trans bh.out;have a8:=bp.out.trans (a7.mono bp.out.size);have aP:Hid (Y.heap[w.heap.size+1]?=some (.cells Tryz.zeroCells146 146 (0,0))):=(HO.out.below a8) 1 _ rfl;have aC:=ax3 (hB.trans (a8.mono hB.size));have o:w.heap.size+1<Y.heap.size:=(awU.1 aP.out).1;clear a2 a7 ax aG s0 s1 a8 hB;obtain⟨Z,hZ⟩:∃Z,(ajE (List.replicate 256 0) 0 (.slice none 0 0) t (.slice (some ⟨q,0,none⟩) n n)).toArray=Z:=⟨_,rfl⟩;have bm:Hid (ZP.built 227 [(1,Value.agg #[.slice t.ua t.un t.uc,.slice t.da t.dn t.dc,.slice t.xa t.xn t.xc,.slice t.ba t.bn t.bc]),(2,.slice (some ⟨q,0,none⟩) n n)]=some Z):=by rw [Hid,auF,hZ]
 have aM:Hid (Z.size=263):=by rw [Hid,<-hZ];exact aqF (by simp) _ _ _ _
 have am:Hid (Z.all (·.oneCell')=true):=by rw [Hid,<-hZ];exact atA _ _ _ _ _ rfl rfl
 have aa:Hid ((ZP.info? 227).map (·.size)=some Z.size):=by rw [Hid,aM.out];exact avj
 have ak:Hid (Tryz.zeroCells227.size=Z.size):=by rw [Hid,aM.out];exact avN
 have al:=ax3 hZ;clear hZ
 iterate 7 (first | go_values | go_skip | go_guarded | go_step)
 refine ah7 rfl 227 _ rfl Z (by go_simp;exact bm.out) ?_
 iterate 3 (first | go_values | go_skip | go_guarded | go_step)
 refine wpList_store_row rfl 227 _ _ rfl Y.heap.size Z rfl rfl 227 _ (heap_alloc_new _ _) aa.out ak.out am.out ?_;rw [World.setRow_alloc_new];obtain⟨U,ad⟩:∃U,U=Y.alloc (.cells Z 227):=⟨_,rfl⟩;have X:Below Y.heap.size Y U:=by rw [ad];exact aa1 _ _
 have a6:Mk U Y.heap.size (List.replicate 256 0) 0 (.slice none 0 0) t (.slice (some ⟨q,0,none⟩) n n):=⟨by rw [ad,al.out];exact heap_alloc_new _ _,by simp⟩;have ap:Y.heap.size<U.heap.size:=a6.lt;have bl:Hid (U.heap[w4.heap.size]?=some (.cells ((ade fold wss).map (Value.int .i64)).toArray 144 (0,0))):=(X.block _ au).trans aR.out;have b9:=ax3 (aN.out.below X);have bg:Hid (aaa q (aaA wss) U):=(X.block q ao.out.lt).trans ao.out;have aV:=ao.out.lt;have az:Hid (U.heap[w.heap.size+1]?=some (.cells Tryz.zeroCells146 146 (0,0))):=(X.block _ o).trans aP.out;have bo:Hid (Below w.heap.size w U):=aC.out.trans (X.mono (by omega));rw [<-ad];obtain⟨M,b0⟩:∃M,Y.heap.size=M:=⟨_,rfl⟩;rw [b0] at a6 aQ ap o aV ⊢;have aF:=a6.box;rw [afw] at aF;have bk:Hid (((ade fold wss).map (Value.int .i64)).length=((List.replicate 256 (0:Int)).map (Value.int .i64)).length):=by rw [Hid,ayq,ayq,acZ,axC]
 have aB:=ax3 aF;have bQ:=ax3 a6;clear ad X aR aN ao aP aC aa ak am aM bm al v0 v1 v2 v3 aF a6 au b0;go_upto_region 11 with fail
 iterate 1 (first | go_values | go_skip | go_guarded | go_step)
 refine wpList_load_row rfl 144 _ rfl w4.heap.size rfl 144 _ (0,0) _ bl.out underlying144 rfl ac.out ?_
 iterate 9 (first | go_values | go_skip | go_guarded | go_step)
 refine afu rfl 144 _ _ rfl M ((ade fold wss).map (Value.int .i64)) _ _ rfl rfl 227 aB.out bk.out ac.out (aj2 _) ?_;rw [<-afw];obtain⟨w7,y⟩:∃w7,w7=U.setRow M (ajE (ade fold wss) 0 (.slice none 0 0) t (.slice (some ⟨q,0,none⟩) n n)).toArray:=⟨_,rfl⟩;have ai:Mk w7 M (ade fold wss) 0 (.slice none 0 0) t (.slice (some ⟨q,0,none⟩) n n):=⟨by rw [y];exact setRow_heap U M _ _ _ _ bQ.out.box,acZ _ _⟩;have b4:RowKit.Below M U w7:=by rw [y];exact abS (axf _ _) (axe _) _
 have bH:Hid (w7.heap.size=U.heap.size):=by rw [Hid,y,setRow_size]
 rw [<-y];have b8:=ai.cells.1;have b6:=ai.frozen 256;have bP:=ax3 ai;have bU:=ax3 b4;clear y ai b4 bl aB bk;go_upto_region 12 with fail
 obtain⟨B,z⟩:∃B,B=w7.setCell ⟨M,256,none⟩ (.int .i64 (m:Int)):=⟨_,rfl⟩;have ah:Mk B M (ade fold wss) (m:Int) (.slice none 0 0) t (.slice (some ⟨q,0,none⟩) n n):=by rw [z];exact bP.out.setMany _
 have b3:RowKit.Below M U B:=by rw [z];exact bU.out.setCell (axe _) _
 have aT:B.heap.size=U.heap.size:=by rw [z];simpa using bH.out
 rw [<-z];have bb:=ax3 aT;clear aT;have b7:=ah.cells.2.1;have b5:=ah.frozen 257;have b2:M<B.heap.size:=by rw [bb.out];exact ap
 have bO:=ax3 ah;have bT:=ax3 b3;have bz:∀V:World,(Instr.makeSlice 30 (.int .i64 Q) (.int .i64 Q)).run ZP V=.ok (.slice (some ⟨V.heap.size,0,none⟩) Q Q) (V.alloc (.cells (abW Q) 3)):=fun V=>by
  obtain⟨i0,hi,bu,I,bt⟩:=info_parts ac8;have h:=run_makeSlice (P:=ZP) (w:=V) 30 3 i0 (.int .i64 0) underlying30 hi bu .i64 .i64 (Q:Int) (Q:Int) (by omega) (by omega) (by rw [I];omega) (by rw [bt];omega) (by omega);rw [I] at h;have e1:(Q:Int).toNat*1=Q:=by omega
  rw [e1,aeP,axs] at h;exact h
 clear z ah b3 b8 b6;go_upto_region 13 with fail
 obtain⟨R,hR⟩:∃R,B.heap.size=R:=⟨_,rfl⟩;rw [hR];have bX:U.heap.size=R:=bb.out.symm.trans hR;obtain⟨C,H⟩:∃C,C=(B.setCell ⟨M,257,none⟩ (.slice (some ⟨R,0,none⟩) Q Q)).alloc (.cells (abW Q) 3):=⟨_,rfl⟩;have aS:(B.setCell ⟨M,257,none⟩ (.slice (some ⟨R,0,none⟩) Q Q)).heap.size=R:=by simp [hR]
 have aO:=ax3 aS;clear aS;have aw:RowKit.Below M B C:=by rw [H];exact ((axf M B).setCell (p:=⟨M,257,none⟩) (axe _) _).alloc (by rw [aO.out,<-hR];exact axd b2) _
 have b1:Mk C M (ade fold wss) (m:Int) (.slice (some ⟨R,0,none⟩) (m*n) (m*n)) t (.slice (some ⟨q,0,none⟩) n n):=by rw [H,HQ.out];exact (bO.out.setRows _).below (aa1 _ _)
 have aZ:aaa R (List.replicate Q 0) C:=by
  have h:=aaa.new (B.setCell ⟨M,257,none⟩ (.slice (some ⟨R,0,none⟩) Q Q)) Q;rw [aO.out] at h;rw [H];exact h
 have c7:C.heap.size=R+1:=by rw [H,ax7,aO.out]
 rw [<-H];have N:RowKit.Below M U C:=bT.out.trans aw;have bE:=ax3 (b9.out.keep N (by omega) aQ.out);have bM:Hid (aaa q (aaA wss) C):=(N.block q aV).trans bg.out;have bf:Hid (C.heap[w.heap.size+1]?=some (.cells Tryz.zeroCells146 146 (0,0))):=(N.block _ o).trans az.out;have bS:Hid (Below w.heap.size w C):=bo.out.trans (N.mono (by omega));have aA:Hid (avJ t R):=fun a h=>ax6 (aQ.out a h) (by omega);have aK:M<R:=by omega
 have aU:q<R:=by omega
 have bj:=ax3 b1;have bL:=ax3 aZ;clear bz b7 b5 H aw b1 aZ N b9 bg az bo hR e1;have bR:Hid (∀(V:World) (i:Nat),i<n->aaa R (atZ fold wss i) V->RowKit.Below R C V->Calls ZP 129 #[.pointer (some ⟨M,0,none⟩),.int .i64 (i:Int)] V fun e w'=>e=.returned (.tuple #[])/\aaa R (atZ fold wss (i+1)) w'/\RowKit.Below R V w'):=fun V i hi hr hb=>by
  have hX:=ay4 (show i<(aa0 wss).length by rw [HN.out];exact hi);have h:=aoy t (aa5 wss) M R q n m i (ade fold wss) (atZ fold wss i) (aaA wss) V (bE.out.keep hb (by omega) aA.out) (by simp [aa5]) (by rw [aqb,HN.out];omega) (bj.out.keep hb aK) (fun c v hv=>by have:=auD HG.out c v hv;rw [ab.out] at this;exact this) ⟨aK,aU⟩ aA.out ((hb.block q aU).trans bM.out) (by rw [abQ,HN.out]) hr (by rw [(ang HG.out bV.out (i:=i) (by rw [HN.out];omega)).1,ab.out,HN.out]) hi (by omega) j.1 (by omega) (fun h0=>by obtain⟨k,h1,h2,_⟩:=aiD hX h0;exact⟨k,h1,by omega⟩);rw [<-ab.out] at h;exact h
 go_wp2_with fail
 go_loopw [10,54] (fun bY bs wr=>∃i:Nat,i<=n/\bs=.int .i64 i/\Hid (aaa R (atZ fold wss i) wr)/\Hid (RowKit.Below R C wr)) (fun _ s _=>n-(intOf s).toNat)
 case atStart=>exact⟨0,axh _,rfl,by show aaa R (List.replicate (aat fold wss*(aa0 wss).length) 0) _;rw [ab.out,HN.out,HQ.out];exact bL.out,axf _ _⟩
 case round=>
  obtain⟨i,hi,rfl,hr,hb⟩:=hrel
  by_cases bA:i<n
  ·
   have hd:decide ((i:Int)<(n:Int))=true:=by simp;omega
   go_wp2_with (go_at_call 129;refine (bR.out wr i bA hr.out hb.out).mono ?_;rintro e wf ⟨rfl,bw,bB⟩)
   go_roundw
   case rel=>exact⟨i+1,by omega,by go_num,bw,hb.out.trans bB⟩
   case measure=>simp [intOf];omega
  ·
   obtain rfl:i=n:=by omega
   have hd:decide ((i:Int)<(i:Int))=false:=by simp
   have aJ:=(bj.out.keep hb.out aK).box;rw [aqP,HQ.out] at aJ;have aD:=afN aJ;have A:(dvC (ade fold wss) (m:Int) (.slice (some ⟨R,0,none⟩) Q Q)).toArray.size=258:=adY (acZ _ _) _ _;have I:=alL (ade fold wss) (m:Int) (.slice (some ⟨R,0,none⟩) Q Q) rfl;obtain⟨Z,hZ⟩:∃Z,dvC (ade fold wss) (m:Int) (.slice (some ⟨R,0,none⟩) Q Q)=Z:=⟨_,rfl⟩;rw [hZ] at aD A I;have bJ:=ax3 aD;have am:=ax3 I;have aa:Hid ((ZP.info? 146).map (·.size)=some Z.toArray.size):=by rw [Hid,A];exact amU
   have bD:Hid ((ZP.info? 146).map (·.size)=some Z.length):=by rw [Hid,show Z.length=258 by simpa using A];exact amU
   have ak:Hid (Tryz.zeroCells146.size=Z.toArray.size):=by rw [Hid,A,atJ];exact adY (by simp) _ _
   have al:=ax3 hZ;have be:Hid (wr.heap[w.heap.size+1]?=some (.cells Tryz.zeroCells146 146 (0,0))):=(hb.out.block _ (by omega)).trans bf.out;have H2:=ax3 (setRow_heap wr (w.heap.size+1) _ Z.toArray _ _ be.out);clear aJ aD A I hZ;go_upto_region 18 with fail
   iterate 4 (first | go_values | go_skip | go_guarded | go_step)
   refine wpList_load_mid rfl 146 _ rfl M 0 rfl Z _ bJ.out underlying146 rfl bD.out ?_;refine wpList_store_row rfl 146 _ _ rfl (w.heap.size+1) Z.toArray rfl rfl 146 _ be.out aa.out ak.out am.out ?_
   go_wp2_with fail
   refine bodyPost_ret (ahT rfl rfl H2.out aa.out) rfl ?_;refine⟨R,by rw [al.out];rfl,?_,by omega,abS (bS.out.trans (hb.out.mono (by omega))) (by omega) _⟩;have hf:aaa R (an0 fold wss) wr:=by show aaa R (atZ fold wss (aa0 wss).length) wr;rw [HN.out];exact hr.out
   exact (setRow_other _ _ _ _ (by omega)).trans hf
def fcB (fold:Bool)(c:Int):Int:=if fold=true then aaU c else c
theorem akw (fold:Bool)(b:List Int):aai fold b=b.map (fcB fold):=by
 unfold aai fcB
 cases fold<;>simp
theorem asy {fold:Bool}{c:Nat}(Z:c<256):∃d:Nat,fcB fold (c:Int)=(d:Int)/\d<256:=by
 unfold fcB aaU
 cases fold
 · exact⟨c,by simp,Z⟩
 ·
  by_cases h:(65:Int)<=(c:Int)/\(c:Int)<=90
  · refine⟨c+32,?_,by omega⟩;rw [if_pos rfl,if_pos h];omega
  · exact⟨c,by rw [if_pos rfl,if_neg h],Z⟩
theorem atU {fold:Bool}{ws:List (List Int)}(Z:abO fold ws){c:Int}:inB fold ws c=true↔ad1 ws (fcB fold c):=by
 rw [amA];unfold fcB aaU aaL
 cases fold with
 | false=>simp
 | true=>
  have g:=Z rfl;simp only [if_true,decide_eq_true_iff,true_and]
  constructor
  ·
   rintro ⟨x,h1,h2⟩;have Y:=g x h1
   rcases h2 with rfl | ⟨h3,h4⟩
   · rw [if_neg Y];exact h1
   · rw [if_pos (by omega),show c+32=x by omega];exact h1
  ·
   intro h
   split at h
   · exact⟨c+32,h,.inr ⟨by omega,by omega⟩⟩
   · exact⟨c,h,.inl rfl⟩
theorem aul {fold:Bool}{ws:List (List Int)}{c d:Nat}(h:fcB fold (c:Int)=(d:Int)):ahE (inB fold ws) fold c=ahE (inB fold ws) fold d:=by
 unfold ahE;have e:ajN fold c=ajN fold d:=by
  unfold ajN aaL;unfold fcB aaU at h
  cases fold with
  | false=>simp at h;simp;omega
  | true=>
   simp only [if_true] at h;simp only [ayC,decide_eq_true_iff]
   split at h
   · rw [if_neg (by omega),if_pos (by omega)];omega
   ·
    have:c=d:=by omega
    rw [this]
 rw [e]
theorem avZ {fold:Bool}{ws:List (List Int)}(X:abO fold ws){c:Nat}(Y:c<256):(ade fold ws)[c]?=some (if inB fold ws c=true then (ahE (inB fold ws) fold c:Int) else 0):=by
 cases Z:inB fold ws (c:Int) with
 | false=>rw [if_neg (by simp)];exact atT Z Y
 | true=>rw [if_pos rfl];exact amh (abZ X) Z Y
theorem auH {ws:List (List Int)}{x:List Int}{c:Int}(h:¬ad1 ws c):lsf (aa0 ws) (x++[c])=[]:=by
 have h0:([]:List Int)∈aa0 ws:=(aal ws).2 (.inl rfl);refine aiB h0 (List.nil_suffix) h0 (fun z Z X=>?_)
 rcases List.eq_nil_or_concat z with rfl | ⟨y,d,rfl⟩
 · simp
 ·
  exfalso
  rw [List.concat_eq_append] at Z X;obtain⟨t,Y⟩:=Z;rw [<-ayi] at Y;have:=(List.append_inj' Y rfl).2;have e:d=c:=by simpa using this
  subst e;exact h (adK X)
def aot (ws:List (List Int))(x:List Int):Int:=aaR (aa0 ws) x
theorem amW {ws:List (List Int)}{j:Nat}{x:List Int}(h:(aa0 ws)[j]?=some x):aot ws x=(j:Int):=aae (aac ws).nodup h
theorem auB {ws:List (List Int)}{x:List Int}(h:x∈aa0 ws):∃j:Nat,(aa0 ws)[j]?=some x/\aot ws x=(j:Int)/\j<(aa0 ws).length:=by
 obtain⟨j,Z⟩:=ayB h;exact⟨j,Z,amW Z,(awR.1 Z).1⟩
structure OkT (fold:Bool)(ws:List (List Int)):Prop where
 great:abO fold ws
 byt:∀x,ad1 ws x->0<=x/\x<=255
 pos:0<(aa0 ws).length
theorem aiG {fold:Bool}{ws:List (List Int)}(h:OkT fold ws):(an0 fold ws).length=aat fold ws*(aa0 ws).length:=(ang h.great h.byt (axe _)).1
theorem anm (fold:Bool)(ws:List (List Int)):1<=aat fold ws:=(abj _ _ _).1
theorem afv {fold:Bool}{ws:List (List Int)}(h:OkT fold ws):ad9 (aat fold ws) (an0 fold ws).length=((aa0 ws).length:Int):=by
 have:=anm fold ws;unfold ad9;rw [aiG h,if_neg (by omega),<-Int.natCast_ediv,Nat.mul_div_cancel_left _ (by omega)]
theorem apj {fold:Bool}{ws:List (List Int)}(h:OkT fold ws){j:Nat}{x:List Int}(N:(aa0 ws)[j]?=some x){c:Nat}(U:c<256) :
  goD (ade fold ws) (aat fold ws) (an0 fold ws) j c=some (aot ws (lsf (aa0 ws) (x++[fcB fold c]))):=by
 have B:=(awR.1 N).1;have C:=anm fold ws;obtain⟨h1,h2⟩:=avI h.great h.byt N;obtain⟨v,H⟩:∃v:Nat,(ade fold ws)[c]?=some (v:Int)/\v<aat fold ws/\(an0 fold ws)[j*aat fold ws+v]?=some (aot ws (lsf (aa0 ws) (x++[fcB fold c]))):=by
  rw [avZ h.great U]
  by_cases Z:inB fold ws (c:Int)=true
  · rw [if_pos Z];refine⟨_,rfl,agR (abZ h.great) Z U,?_⟩;obtain⟨d,J,D⟩:=asy (fold:=fold) U;have Y:=(atU h.great).1 Z;rw [J] at Y ⊢;rw [aul J];exact h2 d Y
  · rw [if_neg Z];refine⟨0,rfl,by omega,?_⟩;rw [auH (fun Y=>Z ((atU h.great).2 Y)),amW (aaf ws),ayc];exact h1
 obtain⟨V,I,X⟩:=H;unfold goD;rw [afv h,V,ayr,if_neg (by rintro ((h | h) | (h | h))<;>omega)];rw [show ((j:Int)*(aat fold ws:Int)+(v:Int)).toNat=j*aat fold ws+v by rw [<-axB];omega];exact X
theorem auE {fold:Bool}{ws:List (List Int)}(h:OkT fold ws){j:Int}(Z:j<0∨((aa0 ws).length:Int)<=j)(c:Nat):goD (ade fold ws) (aat fold ws) (an0 fold ws) j c=none:=by
 unfold goD;rw [afv h,if_pos (.inr Z)]
theorem okT {fold:Bool}{ws:List (List Int)}(Z:aan fold ws=true)(Y:∀x∈ws,∀c∈x,0<=c/\c<=255):OkT fold ws:=
 ⟨ail (abr Z).2,fun x ⟨w,h1,h2⟩=>Y w h1 x h2,ayG.2 (adD ws)⟩
section
open Go Go.RowKit Go.Sort
def nxN (L wd:List Int):Nat->Nat->Nat
 | 0,_=>0
 | f+1,z=>if z=0 then 0 else if 0<=(wd[((L[z]?).getD 0).toNat]?).getD (-1) then ((L[z]?).getD 0).toNat else nxN L wd f ((L[z]?).getD 0).toNat
theorem aeS (L wd:List Int)(f:Nat):nxN L wd f 0=0:=by cases f<;>simp [nxN]
theorem amS {L wd:List Int}{B:Nat}(Z:∀z,0<z->z<=B->((L[z]?).getD 0).toNat<z):∀{f g z:Nat},z<=B->z<=f->z<=g->nxN L wd f z=nxN L wd g z
 | 0,g,z,hb,hf,hg=>by
  obtain rfl:z=0:=by omega
  rw [aeS,aeS]
 | f+1,0,z,hb,hf,hg=>by
  obtain rfl:z=0:=by omega
  rw [aeS,aeS]
 | f+1,g+1,z,hb,hf,hg=>by
  unfold nxN
  by_cases h0:z=0
  · rw [if_pos h0,if_pos h0]
  ·
   rw [if_neg h0,if_neg h0];have:=Z z (by omega) hb
   split
   · rfl
   · exact amS Z (by omega) (by omega) (by omega)
def nx (ws:List (List Int))(z:Nat):Nat:=nxN (aaA ws) (aa5 ws).wrd z z
def aay (ws:List (List Int)):List Int:=(List.range (aa0 ws).length).map fun z=>(nx ws z:Int)
section
variable {ws:List (List Int)}
theorem af6 {z:Nat}{x:List Int}(Y:(aa0 ws)[z]?=some x):∃k:Nat,(aaA ws)[z]?=some (k:Int)/\(z=0->k=0)/\(0<z->k<z)/\(aa0 ws)[k]?=some (ado (aa0 ws) x):=by
 by_cases h0:z=0
 · subst h0;have Z:=(aav Y).1 rfl;subst Z;have X:agU ws []=0:=aae (aac ws).nodup (aaf ws);exact⟨0,by rw [acd Y,X];rfl,fun _=>rfl,fun h=>absurd h (Nat.lt_irrefl 0),aaf ws⟩
 · obtain⟨k,h1,h2,h3⟩:=(aqC ws (z+1)).at_ (Nat.lt_succ_self z) Y h0;exact⟨k,h1,fun h=>absurd h h0,fun _=>h2,h3⟩
theorem an8 {z:Nat}(h0:0<z)(Z:z<(aa0 ws).length):(((aaA ws)[z]?).getD 0).toNat<z:=by
 obtain⟨k,h1,_,h3,_⟩:=af6 (ws:=ws) (z:=z) (x:=(aa0 ws)[z]) (by simp);rw [h1]
 simpa using h3 h0
theorem ahz (ws:List (List Int)):nx ws 0=0:=aeS _ _ _
theorem aqZ {z k:Nat}(h0:0<z)(Y:z<(aa0 ws).length)(V:(aaA ws)[z]?=some (k:Int)){v:Int}(X:(aa5 ws).wrd[k]?=some v):nx ws z=if 0<=v then k else nx ws k:=by
 obtain⟨f,rfl⟩:∃f,z=f+1:=⟨z-1,by omega⟩;have Z:=an8 h0 Y;unfold nx
 conv=>lhs;unfold nxN
 rw [V,ayr,axs] at Z ⊢;rw [if_neg (by omega),X,ayr]
 split
 · rfl
 · exact amS (B:=f) (fun z h1 h2=>an8 h1 (by omega)) (by omega) (by omega) (axe _)
theorem afy (ws:List (List Int)):(aa5 ws).wrd.length=(aa0 ws).length/\(aa5 ws).dep.length=(aa0 ws).length/\(aa5 ws).up.length=(aa0 ws).length/\(aa5 ws).byt.length=(aa0 ws).length:=by simp [aa5]
theorem avu:∀{z:Nat} {x:List Int},(aa0 ws)[z]?=some x->∃y,(aa0 ws)[nx ws z]?=some y/\(0<z->nx ws z<z/\y.length<x.length)/\(0<nx ws z->∃v:Int,(aa5 ws).wrd[nx ws z]?=some v/\0<=v):=by
 intro z
 induction z using Nat.strongRecOn with
 | _ z ih=>
  intro x J;have D:=(awR.1 J).1
  by_cases h0:z=0
  · subst h0;exact⟨[],by rw [ahz];exact aaf ws,fun h=>absurd h (Nat.lt_irrefl 0),fun h=>by rw [ahz] at h;exact absurd h (Nat.lt_irrefl 0)⟩
  ·
   obtain⟨k,h1,_,h3,h4⟩:=af6 J;have Y:x≠[]:=fun e=>h0 ((aav J).2 e);have B:=adC (N:=aa0 ws) Y;have X:=h3 (by omega);obtain⟨v,H⟩:∃v,(aa5 ws).wrd[k]?=some v:=⟨(aa5 ws).wrd[k]'(by rw [(afy ws).1];omega),by simp⟩;have V:=aqZ (by omega) D h1 H
   by_cases Z:0<=v
   · rw [if_pos Z] at V;rw [V];exact⟨_,h4,fun _=>⟨X,B⟩,fun _=>⟨v,H,Z⟩⟩
   ·
    rw [if_neg Z] at V;obtain⟨y,U,s,A⟩:=ih k X h4;rw [V];refine⟨y,U,fun _=>?_,A⟩
    by_cases I:k=0
    · subst I;rw [ahz] at U ⊢;rw [aaf] at U;have C:=awV U;rw [<-C];refine⟨by omega,?_⟩;have:x.length≠0:=fun e=>Y (ayk e);simp;omega
    · obtain⟨j,o⟩:=s (by omega);exact⟨by omega,by omega⟩
theorem abv {z:Nat}(Z:z<(aa0 ws).length):(aay ws)[z]?=some (nx ws z:Int):=by simp [aay,Z]
theorem ao1 (ws:List (List Int)):(aay ws).length=(aa0 ws).length:=by simp [aay]
end
def ae5 (nxt wd:List Int):Nat->Nat->List Nat
 | 0,_=>[]
 | f+1,z=>if z=0 then [] else (if 0<=(wd[z]?).getD (-1) then [z] else [])++ae5 nxt wd f ((nxt[z]?).getD 0).toNat
theorem abN (nxt wd:List Int)(f:Nat):ae5 nxt wd f 0=[]:=by cases f<;>simp [ae5]
theorem afr (nxt wd:List Int)(f z:Nat):ae5 nxt wd (f+1) z=if z=0 then [] else (if 0<=(wd[z]?).getD (-1) then [z] else [])++ae5 nxt wd f ((nxt[z]?).getD 0).toNat:=rfl
theorem aih {nxt wd:List Int}{B:Nat}(Z:∀z,0<z->z<=B->((nxt[z]?).getD 0).toNat<z):∀{f g z:Nat},z<=B->z<=f->z<=g->ae5 nxt wd f z=ae5 nxt wd g z
 | 0,g,z,hb,hf,hg=>by
  obtain rfl:z=0:=by omega
  rw [abN,abN]
 | f+1,0,z,hb,hf,hg=>by
  obtain rfl:z=0:=by omega
  rw [abN,abN]
 | f+1,g+1,z,hb,hf,hg=>by
  unfold ae5
  by_cases h0:z=0
  · rw [if_pos h0,if_pos h0]
  · rw [if_neg h0,if_neg h0];have:=Z z (by omega) hb;rw [aih Z (show ((nxt[z]?).getD 0).toNat<=B by omega) (show _<=f by omega) (show _<=g by omega)]
theorem agN (nxt wd:List Int):∀(f z:Nat),(ae5 nxt wd f z).length<=f
 | 0,z=>by simp [ae5]
 | f+1,z=>by
  unfold ae5
  split
  · simp
  ·
   have:=agN nxt wd f ((nxt[z]?).getD 0).toNat;rw [List.length_append]
   split<;>simp<;>omega
def afo (ws:List (List Int))(z:Nat):List Nat:=ae5 (aay ws) (aa5 ws).wrd z z
theorem agi {ws:List (List Int)}{z:Nat}(h0:0<z)(Z:z<(aa0 ws).length):(((aay ws)[z]?).getD 0).toNat<z:=by
 rw [abv Z,ayr,axs];obtain⟨y,_,h,_⟩:=avu (ws:=ws) (z:=z) (x:=(aa0 ws)[z]) (by simp);exact (h h0).1
theorem aqs {ws:List (List Int)}{z:Nat}(h0:0<z)(Y:z<(aa0 ws).length):afo ws z=(if 0<=((aa5 ws).wrd[z]?).getD (-1) then [z] else [])++afo ws (nx ws z):=by
 obtain⟨f,rfl⟩:∃f,z=f+1:=⟨z-1,by omega⟩;have Z:=agi h0 Y;unfold afo;rw [afr,if_neg (by omega)];rw [abv Y,ayr,axs] at Z ⊢;congr 1;exact aih (B:=f) (fun z h1 h2=>agi h1 (by omega)) (by omega) (by omega) (axe _)
end
end Go.Proofs.YtaamacoicojhnaaGreat
