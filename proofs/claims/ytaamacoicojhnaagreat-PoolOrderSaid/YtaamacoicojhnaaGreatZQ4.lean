/- Proofs over the given program, part 4. -/
import Derived.Test.YtaamacoicojhnaaGreatZQ3
set_option linter.unusedVariables false
set_option linter.unusedSimpArgs false
set_option maxRecDepth 100000
set_option maxHeartbeats 16000000
open Go.Proofs.Tryz
open Go.Proofs.Tryz renaming prog→ZP
open Go.World(cell? frozen?)
open Option renaming some→E,none→O
open Go.Value renaming int→R,slice→T,pointer→L,bool→i6,tuple→ta,agg→i8
open Go.IntKind renaming i64→K
open Bool renaming false→M,true→G
open Go renaming World→Wa,Value→Vk
open Go.Ending renaming returned→ra
open Go.Obj renaming cells→i7
open List renaming length→lc
namespace Go.Proofs.YtaamacoicojhnaaGreat
open Go.RowKit Go.Sort
section
attribute[local go_sem] Oper.semAt_some
attribute[local simp] Ak Al
attribute[local go_sem] Ak Al
def Hd(F:List Int)(many node:Nat)(lk:List Int):List Int:=if node=0 then(F.drop (node*many)).take many else(F.drop (((lk[node]?).getD 0).toNat*many)).take many
def Kn(LO:List Int)(Ta:Ay)(lk:List Int)(F:List Int)(many node:Nat):List Int:=spl F (node*many) (DV (Hd F many node lk) (Ec LO Ta (node:Int) (lc Ta.up)))
theorem IE{many n k:Nat}(h:k<n):k*many+many<=many*n:=by have h1:(k+1)*many<=n*many:=IO _ h;rw[Nat.succ_mul,Nat.mul_comm n many]at h1;exact h1
theorem adR{F lk:List Int}{many n node:Nat}(V:lc F=many*n)(Y:node<n)(X:node≠0->∃k:Nat,lk[node]?=E (k:Int)/\k<n):(Hd F many node lk).length=many:=by
 unfold Hd
 split
 ·have:=IE (many:=many) Y;simp;omega
 ·rename_i h
  obtain⟨k,hk,Z⟩:=X h;have:=IE (many:=many) Z;rw[hk];simp;omega
def Lw(t:TV)(Ra:Nat):Prop:=∀a,(t.ua=E a∨t.da=E a∨t.xa=E a∨t.ba=E a)->a.block<Ra
theorem Sl1.keep{α:Type}{enc:α->Vk}{Ra:Nat}{W V:Wa}{a:Option Addr}{n:Nat}{xs:List α}(h:Sl1 enc W a n xs)(Y:Below Ra W V)(J:Ra<=W.heap.size)(U:∀x,a=E x->x.block<Ra):Sl1 enc V a n xs:=by
 refine⟨h.1,?_⟩
 rcases h.2 with h0|⟨b,off,e,Z,N⟩
 ·exact .inl h0
 ·exact .inr ⟨b,off,e,Af Z Y.size,λi x X=>(BC (Y.block b (U _ e))).trans (N i x X)⟩
theorem Tri.keep{Ra:Nat}{W V:Wa}{t:TV}{Ta:Ay}(h:Tri W t Ta)(Y:Below Ra W V)(X:Ra<=W.heap.size)(Z:Lw t Ra):Tri V t Ta:=⟨h.up.keep Y X (λa e=>Z a (.inl e)),h.dep.keep Y X (λa e=>Z a (.inr (.inl e))),h.wrd.keep Y X (λa e=>Z a (.inr (.inr (.inl e)))),⟨h.byt.1.keep Y X (λa e=>Z a (.inr (.inr (.inr e)))),h.byt.2⟩,h.cap⟩
theorem Mk.keep{Ra:Nat}{W V:Wa}{MH:Nat}{LO:List Int}{m:Int}{row lk:Vk}{t:TV}(h:Mk W MH LO m row t lk)(Z:Below Ra W V)(Y:MH<Ra):Mk V MH LO m row t lk:=⟨(Z.block MH Y).trans h.box,h.len⟩
theorem ah2(t:TV)(Ta:Ay)(MH Ra q n many node:Nat)(LO F lk:List Int)(w:Wa)(hT:Tri w t Ta)(hb:lc Ta.byt=lc Ta.up)(aP:lc Ta.up<=400)
  (hM:Mk w MH LO (many:Int) (T (E ⟨Ra,0,O⟩) (many*n) (many*n)) t (T (E ⟨q,0,O⟩) n n)) (hL:∀(c:Nat)(v:Int),LO[c]?=E v->0<=v/\v<(many:Int))
  (b6:MH<Ra/\q<Ra) (aE:Lw t Ra) (hq:AU q lk w) (bg:lc lk=n) (hR:AU Ra F w) (hF:lc F=many*n)
  (hn:node<n) (hm:many<=1000) (aR:1<=many) (aQ:n<=1000000) (hl:node≠0->∃k:Nat,lk[node]?=E (k:Int)/\k<n) :
  Calls ZP 129 #[L (E ⟨MH,0,O⟩),R K (node:Int)] w λe w'=>e=ra (ta #[])/\AU Ra (Kn LO Ta lk F many node) w'/\Below Ra w w':=by
 obtain⟨r0,r1⟩:=b6;have r2:∀a,t.ua=E a->a.block<Ra:=λa h=>aE a (.inl h);have r3:∀a,t.ba=E a->a.block<Ra:=λa h=>aE a (.inr (.inr (.inr h)));have a2:=hR.lt;have az:=adR (lk:=lk) hF hn hl;have hP:=IE (many:=many) hn;have H:=alx (F:=F) (P:=node*many) (m:=many) (by rw[hF];exact hP);refine Hc func129 rfl ?_;simp only[ntmps129,Cw,Ao,Bw,Nat.reduceAdd,Nat.reduceSub,Dd,Dc,DX,Da,Av,CT];have KR:=AA (aem MH Ra n many node LO t _ w hM hn hm aR aQ);obtain⟨P,aB⟩:∃P,node*many=P:=⟨_,rfl⟩;obtain⟨B0,aw⟩:∃B0,Hd F many node lk=B0:=⟨_,rfl⟩;have Y:=aw;rw[aw]at az;unfold Hd at Y;rw[aB]at KR hP H Y;have b2:=AA aB;have b5:=AA aw;have b4:=AA az;have HF:=AA hF
 by_cases h0:node=0
 ·have hd:((node:Int) != 0)=M:=by simp[h0]
  rw[Lq h0]at Y;rw[Y]at H;have b9:=AA H;clear aw aB Y hF az hl H h0;go_upto_region 3 with(go_at_call 178;refine KR.out.mono ?_;rintro e w1 ⟨rfl,A⟩)
  obtain⟨X,aa⟩:∃W,W=w1.alloc (i7 #[T (E ⟨Ra,P,O⟩) many (many*n-P)] 30):=⟨_,rfl⟩;have N:Boxed X w1.heap.size 30 (T (E ⟨Ra,P,O⟩) many (many*n-P)):=by rw[aa];exact Boxed.new w1 30 _
  have a6:La w X:=by rw[aa];exact A.alloc A.size _
  rw[<-aa];clear aa;have am:=hT.below a6;have ap:=hM.below a6;have B:AU Ra (spl F P B0) X:=by rw[b9.out];exact(a6.block Ra a2).trans hR
  have av:Below Ra w X:=a6.mono (DP a2);have ar:Ra<w1.heap.size:=Af a2 A.size;obtain⟨BX,au⟩:∃BX,w1.heap.size=BX:=⟨_,rfl⟩;rw[au]at N ar⊢;clear hT hM hq hR A au a6
  go_wp2_with (go_at_call 179;refine(acy MH (node:Int) X).mono ?_;rintro e w' ⟨rfl,rfl⟩)
  obtain⟨s,C⟩:∃W,W=(X.alloc (i7 #[L (E ⟨MH,0,O⟩)] 285)).alloc (i7 #[R K (node:Int)] 3):=⟨_,rfl⟩;have U:La X s:=by rw[C];exact(AL _ _).alloc sm _
  have ax:Boxed s X.heap.size 285 (L (E ⟨MH,0,O⟩)):=by rw[C];exact(Boxed.new X 285 _).alloc _
  have ac:Boxed s (X.heap.size+1) 3 (R K (node:Int)):=by
   rw[C];have:=Boxed.new (X.alloc (i7 #[L (E ⟨MH,0,O⟩)] 285)) 3 (R K (node:Int))
   rwa[DN]at this
  rw[<-C];clear C;have aN:=ac.lt;have ak:Boxed s BX 30 (T (E ⟨Ra,P,O⟩) many (many*n-P)):=(U.block _ N.lt).trans N;have aG:AU Ra (spl F P B0) s:=(U.block _ B.lt).trans B;have aq:Below Ra w s:=av.trans (U.mono (DP B.lt));have aS:=B.lt;have aV:=N.lt;have aD:=ab9 t Ta MH Ra X.heap.size (X.heap.size+1) many (node:Int) _ _ _ LO 8 s (am.below U) hb aP (ap.below U) hL ax ac ⟨by omega,by omega,by omega,λa h=>Nat.ne_of_lt (r2 a h),λa h=>Nat.ne_of_lt (r3 a h)⟩;clear am ap ax ac B N U av
  apply KI rfl (enters_of func222 kr rfl) aD GD (JR λk hk=>hk.1) (λ_=>rfl)
   (λJ W=>Boxed W BX 30 (T (E ⟨Ra,P,O⟩) many (many*n-P))/\AU Ra (spl F P (DV B0 (J.map Subtype.val))) W/\Below Ra w W/\s.heap.size<=W.heap.size)
   (λ_ _ _=>False)
  case hI=>exact OwnFrom.and (Own.from (boxed_own _ _ _) _) (OwnFrom.and (Own.from (acr _ _) _) (OwnFrom.and (ownFrom_below (DP a2) om) (Li _ _)))
  case hIx=>exact λ_ _ _ _ _ hs _ _=>hs
  case h0=>exact⟨ak,aG,aq,AC _⟩
  case hassign=>
   intro l x W KB hK;unfold Ni
   gi_wp2
   exact hK
  case hbody=>
   rintro l' J ⟨⟨c,k⟩,hc⟩ W ⟨hx,hr,ab,hs⟩ aT;dsimp only at hc⊢;obtain⟨Z,hZ⟩:∃Z,DV B0 (J.map Subtype.val)=Z:=⟨_,rfl⟩;have a8:lc Z=many:=by rw[<-hZ,aaW,b4.out]
   have aM:Hid (DV B0 ((J++[(⟨(c,k),hc⟩:KdQ many)]).map Subtype.val)=Z.set c (k:Int)):=by rw[Hid,Aj];show DV B0 (J.map Subtype.val++[(c,k)])=_;rw[abW,hZ]
   rw[hZ]at hr;have HZ:=AA hZ;clear hZ;have c1:=hx.cell;have a7:c<lc Z:=by rw[a8];exact hc
   have c2:=hr.cell ((Ok (by rw[a8,HF.out];exact hP) a7).trans (Ar a7));have c3:=hr.frozen (P+c);have i1:(0:Int)<=(c:Int):=by omega
   have i2:(c:Int)<(many:Int):=by omega
   have I:=hr.set (j:=P+c) (k:Int);rw[ajT (by rw[a8,HF.out];exact hP) a7,<-aM.out]at I;have ay:=AA I;clear I
   gi_wp2
   refine⟨(Jp W ⟨Ra,P+c,O⟩ (R K (k:Int))).from s.heap.size,λb hb=>AQ _ _ _ _ (λe=>hb.2 (by simpa using e)),(AQ _ _ _ _ (by simp;omega)).trans hx,ay.out,ab.setCell sm _,by simpa using hs⟩
  case hdone=>
   rintro D zs W hD hS ⟨hx,hr,ab,hs⟩ aL;rw[hS]at hr;go_wp2;refine aon rfl aL (results_none rfl _ _ _) ⟨rfl,?_,FZ ab om om _⟩;unfold Kn;rw[b2.out,b5.out];exact(Cm om).trans hr
  case hstop=>exact λ_ _ _ _ _ _ h _=>h.elim
 ·have hd:((node:Int) != 0)=G:=by simp[h0]
  rw[Lc h0]at Y;obtain⟨k,hk,aU⟩:=hl h0;rw[hk]at Y;have Y:(F.drop (k*many)).take many=B0:=Y;have aY:=IE (many:=many) aU;obtain⟨KP,aK⟩:∃KP,k*many=KP:=⟨_,rfl⟩;rw[aK]at aY Y;have be:=AA aK;have bf:=AA Y;clear aw aB Y az hl H h0 aK;go_upto_region 2 with(go_at_call 178;refine KR.out.mono ?_;rintro e w1 ⟨rfl,A⟩)
  obtain⟨W2,aA⟩:∃W,W=w1.alloc (i7 #[T (E ⟨Ra,P,O⟩) many (many*n-P)] 30):=⟨_,rfl⟩;have al:Boxed W2 w1.heap.size 30 (T (E ⟨Ra,P,O⟩) many (many*n-P)):=by rw[aA];exact Boxed.new w1 30 _
  have ai:La w W2:=by rw[aA];exact A.alloc A.size _
  rw[<-aA];clear aA;have ar:Ra<w1.heap.size:=Af a2 A.size;obtain⟨BX,au⟩:∃BX,w1.heap.size=BX:=⟨_,rfl⟩;rw[au]at al ar⊢;have aJ:=hM.below ai;have aX:=hT.below ai;have aO:AU q lk W2:=(ai.block q (by have:=hq.lt;omega)).trans hq;have aI:AU Ra F W2:=(ai.block Ra a2).trans hR;have a1:=aI.lt;have b1:Below Ra w W2:=ai.mono (DP a2);have b7:=AA (λV (hV:La W2 V)=>aem MH Ra n many k LO t _ V (aJ.below hV) aU hm aR aQ);have b3:=AA aJ;have b8:=AA aX;have bd:=AA aO;have bb:=AA aI;have aj:=AA al;have HK:=AA hk;have j1:(0:Int)<=(node:Int):=by omega
  have j2:(node:Int)<(n:Int):=by omega
  clear hT hM hq hR A ai al aJ aX aO aI au hk;refine Ve ?_;refine Vd (S:=λV=>RowKit.Below Ra W2 V/\Boxed V BX 30 (T (E ⟨Ra,P,O⟩) many (many*n-P))) kr ⟨(AN W2 1).mono (DP a1),((AN W2 1).block _ aj.out.lt).trans aj.out⟩ (λhHeld=>?_);refine tkW 0 (v:=?_) ?_ ?_;rotate_left
  ·intro V hV;have r0:=hV.2.cell
   first|(go_simp;done)|(go_simp;with_reducible rfl)
  try simp only[pq]
  refine tkA 1 ?_;refine tkA 2 ?_;refine tkA 3 ?_;refine tkA 4 ?_;refine tkW 5 (v:=?_) ?_ ?_;rotate_left
  ·intro V hV;have r0:=(b3.out.keep hV.1 (by assumption)).cells.2.2.2.2.2.2
   first|(go_simp;done)|(go_simp;with_reducible rfl)
  try simp only[pq]
  refine tkA 6 ?_;refine tkA 7 ?_;refine tkW 8 (v:=?_) ?_ ?_;rotate_left
  ·intro V hV;have r0:=AU.cell (show AU q lk V from(hV.1.block q (by assumption)).trans bd.out) HK.out
   first|(go_simp;done)|(go_simp;with_reducible rfl)
  try simp only[pq]
  refine rdy 9 (λKB hK=>?_);go_simp;have aF:=b7.out W2.drew (AN W2 1);rw[be.out]at aF
  go_at_call 178;refine aF.mono ?_;rintro e w4 ⟨rfl,aW⟩
  have ag:La W2 w4:=(AN W2 1).trans aW;refine hK.out _ _ ⟨ag.mono (DP a1),(ag.block _ aj.out.lt).trans aj.out⟩ (λae=>?_);clear hK KB hHeld;have hHeld:=ae;clear ae
  try simp only[pq]
  refine rdy 10 (λKB hK=>?_);have aC:Boxed w4 BX 30 (T (E ⟨Ra,P,O⟩) many (many*n-P)):=(ag.block _ aj.out.lt).trans aj.out;have aH:AU Ra F w4:=(ag.block Ra a1).trans bb.out;have aZ:P+many<=lc F:=by rw[HF.out];exact hP
  have b0:KP+many<=lc F:=by rw[HF.out];exact aY
  refine acM kr ?_;refine ajm w4 _ _ _ _ rfl _ _ rfl rfl (aoG w4 Ra P KP many _ _ F _ aH aZ b0) ?_;rw[bf.out];have ao:=setRow_heap w4 Ra _ (((spl F P B0).map (R K)).toArray) _ _ aH;have af:RowKit.Below Ra W2 (w4.setRow Ra (((spl F P B0).map (R K)).toArray)):=MF (ag.mono (DP a1)) (AC Ra) _;have N:Boxed (w4.setRow Ra (((spl F P B0).map (R K)).toArray)) BX 30 (T (E ⟨Ra,P,O⟩) many (many*n-P)):=(setRow_other _ _ _ _ om).trans aC;obtain⟨X,aa⟩:∃W,W=w4.setRow Ra (((spl F P B0).map (R K)).toArray):=⟨_,rfl⟩;rw[<-aa]at ao af N⊢;have B:AU Ra (spl F P B0) X:=ao;have av:Below Ra w X:=b1.trans af;have am:Tri X t Ta:=b8.out.keep af (DP a1) aE;have ap:=b3.out.keep af (by assumption);clear aa ao aH aC aZ b0 aF aW ag;refine hK.out _ _ ⟨af,N⟩ (λae=>?_);clear hK KB hHeld ae af
  try simp only[pq]
  refine Vg kr ?_ _;refine At ?_
  go_wp2_with (go_at_call 179;refine(acy MH (node:Int) X).mono ?_;rintro e w' ⟨rfl,rfl⟩)
  obtain⟨s,C⟩:∃W,W=(X.alloc (i7 #[L (E ⟨MH,0,O⟩)] 285)).alloc (i7 #[R K (node:Int)] 3):=⟨_,rfl⟩;have U:La X s:=by rw[C];exact(AL _ _).alloc sm _
  have ax:Boxed s X.heap.size 285 (L (E ⟨MH,0,O⟩)):=by rw[C];exact(Boxed.new X 285 _).alloc _
  have ac:Boxed s (X.heap.size+1) 3 (R K (node:Int)):=by
   rw[C];have:=Boxed.new (X.alloc (i7 #[L (E ⟨MH,0,O⟩)] 285)) 3 (R K (node:Int))
   rwa[DN]at this
  rw[<-C];clear C;have aN:=ac.lt;have ak:Boxed s BX 30 (T (E ⟨Ra,P,O⟩) many (many*n-P)):=(U.block _ N.lt).trans N;have aG:AU Ra (spl F P B0) s:=(U.block _ B.lt).trans B;have aq:Below Ra w s:=av.trans (U.mono (DP B.lt));have aS:=B.lt;have aV:=N.lt;have aD:=ab9 t Ta MH Ra X.heap.size (X.heap.size+1) many (node:Int) _ _ _ LO 8 s (am.below U) hb aP (ap.below U) hL ax ac ⟨by omega,by omega,by omega,λa h=>Nat.ne_of_lt (r2 a h),λa h=>Nat.ne_of_lt (r3 a h)⟩;clear am ap ax ac B N U av
  apply KI rfl (enters_of func222 kr rfl) aD GD (JR λk hk=>hk.1) (λ_=>rfl)
   (λJ W=>Boxed W BX 30 (T (E ⟨Ra,P,O⟩) many (many*n-P))/\AU Ra (spl F P (DV B0 (J.map Subtype.val))) W/\Below Ra w W/\s.heap.size<=W.heap.size)
   (λ_ _ _=>False)
  case hI=>exact OwnFrom.and (Own.from (boxed_own _ _ _) _) (OwnFrom.and (Own.from (acr _ _) _) (OwnFrom.and (ownFrom_below (DP a2) om) (Li _ _)))
  case hIx=>exact λ_ _ _ _ _ hs _ _=>hs
  case h0=>exact⟨ak,aG,aq,AC _⟩
  case hassign=>
   intro l x W KB hK;unfold Ni
   gi_wp2
   exact hK
  case hbody=>
   rintro l' J ⟨⟨c,k⟩,hc⟩ W ⟨hx,hr,ab,hs⟩ aT;dsimp only at hc⊢;obtain⟨Z,hZ⟩:∃Z,DV B0 (J.map Subtype.val)=Z:=⟨_,rfl⟩;have a8:lc Z=many:=by rw[<-hZ,aaW,b4.out]
   have aM:Hid (DV B0 ((J++[(⟨(c,k),hc⟩:KdQ many)]).map Subtype.val)=Z.set c (k:Int)):=by rw[Hid,Aj];show DV B0 (J.map Subtype.val++[(c,k)])=_;rw[abW,hZ]
   rw[hZ]at hr;have HZ:=AA hZ;clear hZ;have c1:=hx.cell;have a7:c<lc Z:=by rw[a8];exact hc
   have c2:=hr.cell ((Ok (by rw[a8,HF.out];exact hP) a7).trans (Ar a7));have c3:=hr.frozen (P+c);have i1:(0:Int)<=(c:Int):=by omega
   have i2:(c:Int)<(many:Int):=by omega
   have I:=hr.set (j:=P+c) (k:Int);rw[ajT (by rw[a8,HF.out];exact hP) a7,<-aM.out]at I;have ay:=AA I;clear I
   gi_wp2
   refine⟨(Jp W ⟨Ra,P+c,O⟩ (R K (k:Int))).from s.heap.size,λb hb=>AQ _ _ _ _ (λe=>hb.2 (by simpa using e)),(AQ _ _ _ _ (by simp;omega)).trans hx,ay.out,ab.setCell sm _,by simpa using hs⟩
  case hdone=>
   rintro D zs W hD hS ⟨hx,hr,ab,hs⟩ aL;rw[hS]at hr;go_wp2;refine aon rfl aL (results_none rfl _ _ _) ⟨rfl,?_,FZ ab om om _⟩;unfold Kn;rw[b2.out,b5.out];exact(Cm om).trans hr
  case hstop=>exact λ_ _ _ _ _ _ h _=>h.elim
end
def NR(p:Int->Bool)(fold:Bool)(j:Nat):Prop:=p j=G/\(fold&&CF j)=M
theorem af3(p:Int->Bool)(fold:Bool){j:Nat}:∀{i:Nat},j<=i->(Ac p fold j).2<=(Ac p fold i).2
 |0,h=>by rw[Nat.le_zero.1 h];exact AC _
 |i+1,h=>by
  by_cases e:j=i+1
  ·rw[e];exact AC _
  ·have Z:=af3 p fold (j:=j) (i:=i) om;rw[Kr]
   split
   ·exact Z
   ·split
    ·exact Z
    ·exact Nat.le_succ_of_le Z
theorem akM{p:Int->Bool}{fold:Bool}{j:Nat}(h:NR p fold j):(Ac p fold (j+1)).2=(Ac p fold j).2+1:=by rw[Kr,Lc (by rw[h.1];decide),Lc (by rw[h.2];decide)]
theorem agb{p:Int->Bool}{fold:Bool}{j i:Nat}(h:NR p fold j)(Z:j<i):(Ac p fold j).2<(Ac p fold i).2:=by have h1:=akM h;have h2:=af3 p fold (j:=j+1) (i:=i) Z;omega
theorem aj5{p:Int->Bool}{fold:Bool}{j i:Nat}(h:NR p fold j)(Z:j<i):(Ac p fold i).1[j]?=E ((Ac p fold j).2:Int):=by rw[ajB p fold Z,Lc (by rw[h.1];decide),Lc (by rw[h.2];decide)]
theorem amJ{p:Int->Bool}{fold:Bool}{j i:Nat}(h:p j=M)(Z:j<i):(Ac p fold i).1[j]?=E 0:=by rw[ajB p fold Z,Lq h]
def EJ(fold:Bool)(c:Nat):Nat:=if(fold&&CF c)=G then c-32 else c
def Shut(p:Int->Bool)(fold:Bool):Prop:=∀j:Nat,(fold&&CF j)=G->p j=p ((j-32:Nat):Int)
theorem NI{p:Int->Bool}{fold:Bool}(Y:Shut p fold){c:Nat}(h:p c=G):NR p fold (EJ fold c):=by
 unfold EJ
 split
 ·rename_i Z
  refine⟨by rw[<-Y c Z];exact h,?_⟩;have h2:CF c=G:=by rw[Bq]at Z;exact Z.2
  unfold CF at h2⊢;rw[decide_eq_true_iff]at h2;have:¬(97<=((c-32:Nat):Int)/\((c-32:Nat):Int)<=122):=by omega
  rw[decide_eq_false this,Bool.and_false]
 ·rename_i Z
  exact⟨h,by simpa using Z⟩
theorem aof(fold:Bool)(c:Nat):EJ fold c<=c:=by unfold EJ;split<;>omega
def DA(p:Int->Bool)(fold:Bool)(c:Nat):Nat:=(Ac p fold (EJ fold c)).2
theorem ag8{p:Int->Bool}{fold:Bool}(X:Shut p fold){c i:Nat}(h:p c=G)(Y:c<i):(Ac p fold i).1[c]?=E (DA p fold c:Int):=by
 have ho:=NI X h;unfold DA
 by_cases Z:(fold&&CF c)=G
 ·rw[ajB p fold Y,Lc (by rw[h];decide),Lq Z];have e:EJ fold c=c-32:=by unfold EJ;rw[Lq Z]
  rw[e]at ho⊢;have h2:CF c=G:=by rw[Bq]at Z;exact Z.2
  unfold CF at h2;rw[decide_eq_true_iff]at h2;rw[aj5 ho om]
  rfl
 ·have e:EJ fold c=c:=by unfold EJ;rw[Lc Z]
  rw[e]at ho⊢;exact aj5 ho Y
theorem alr(p:Int->Bool)(fold:Bool)(c:Nat):1<=DA p fold c:=(Hb p fold _).1
theorem ME{p:Int->Bool}{fold:Bool}(Z:Shut p fold){c i:Nat}(h:p c=G)(Y:c<i):DA p fold c<(Ac p fold i).2:=agb (NI Z h) (Nat.lt_of_le_of_lt (aof fold c) Y)
theorem aln{p:Int->Bool}{fold:Bool}(Z:Shut p fold){c d:Nat}(X:p c=G)(Y:p d=G)(h:DA p fold c=DA p fold d):EJ fold c=EJ fold d:=by
 have h1:=NI Z X;have h2:=NI Z Y;unfold DA at h
 rcases Nat.lt_trichotomy (EJ fold c) (EJ fold d)with h3|h3|h3
 ·have:=agb h1 h3;omega
 ·exact h3
 ·have:=agb h2 h3;omega
def De(ws:Lb)(c:Int):Prop:=∃w∈ws,c∈w
theorem Kh{fold:Bool}{ws:Lb}{c:Int}(h:De ws c):inB fold ws c=G:=by obtain⟨w,h1,h2⟩:=h;unfold inB;rw[MZ];exact⟨w,h1,by rw[MZ];exact⟨c,h2,by simp⟩⟩
theorem afs{fold:Bool}{ws:Lb}{c:Int}:inB fold ws c=G↔∃x,De ws x/\(x=c∨fold=G/\CF x=G/\x-32=c):=by
 unfold inB;rw[MZ]
 constructor
 ·rintro⟨w,h1,h2⟩;rw[MZ]at h2;obtain⟨x,h3,h4⟩:=h2;refine⟨x,⟨w,h1,h3⟩,?_⟩;rw[Bool.or_eq_true,Bq,Bq,decide_eq_true_iff,decide_eq_true_iff]at h4
  rcases h4 with h4|⟨⟨h4,h5⟩,h6⟩
  ·exact .inl h4
  ·exact .inr ⟨h4,h5,h6⟩
 ·rintro⟨x,⟨w,h1,h2⟩,h3⟩;refine⟨w,h1,?_⟩;rw[MZ];refine⟨x,h2,?_⟩;rw[Bool.or_eq_true,Bq,Bq,decide_eq_true_iff,decide_eq_true_iff]
  rcases h3 with h3|⟨h3,h4,h5⟩
  ·exact .inl h3
  ·exact .inr ⟨⟨h3,h4⟩,h5⟩
def Fe(fold:Bool)(ws:Lb):Prop:=fold=G->∀x,De ws x->¬(65<=x/\x<=90)
theorem acv{fold:Bool}{ws:Lb}(Y:∀w∈ws,AO fold w=w):Fe fold ws:=by rintro rfl x ⟨w,h1,h2⟩ Z;have h:=Y w h1;unfold AO at h;rw[Lq rfl]at h;obtain⟨i,X⟩:=DR h2;have h3:=congrArg (λl=>l[i]?) h;simp only[BU,X,Dw]at h3;have h4:BE x=x:=AK h3;unfold BE at h4;rw[Lq Z]at h4;omega
theorem IF{fold:Bool}{ws:Lb}(V:Fe fold ws):Shut (inB fold ws) fold:=by
 intro j X;rw[Bq]at X;obtain⟨rfl,Y⟩:=X;have Z:=Y;unfold CF at Z;rw[decide_eq_true_iff]at Z;rw[Db,afs,afs]
 constructor
 ·rintro⟨x,h1,h2⟩;refine⟨j,?_,.inr ⟨rfl,Y,by omega⟩⟩
  rcases h2 with rfl|⟨_,h3,h4⟩
  ·exact h1
  ·unfold CF at h3;rw[decide_eq_true_iff]at h3;omega
 ·rintro⟨x,h1,h2⟩;have U:=V rfl x h1
  rcases h2 with h2|⟨_,h3,h4⟩
  ·omega
  ·obtain rfl:x=j:=by omega
   exact⟨_,h1,.inl rfl⟩
theorem agV{fold:Bool}{ws:Lb}(Z:Fe fold ws){c d:Nat}(X:De ws c)(Y:De ws d)(h:DA (inB fold ws) fold c=DA (inB fold ws) fold d):c=d:=by
 have h1:=aln (IF Z) (Kh X) (Kh Y) h;unfold EJ at h1
 cases fold with
 |false=>simpa using h1
 |true=>
  have U:=Z rfl c X;have V:=Z rfl d Y;unfold CF at h1;simp only[FJ,decide_eq_true_iff]at h1
  split at h1<;>split at h1<;>omega
section
open Go Go.RowKit Go.Sort
theorem aby{p:Nat}:∀(Z:List (Nat×Nat))(r:List Int),(∀q∈Z,q.1≠p)->(DV r Z)[p]?=r[p]?
 |[],r,_=>rfl
 |k::Z,r,h=>by show(DV (r.set k.1 _) Z)[p]?=_;rw[aby Z _ (λq Y=>h q (by simp[Y])),FH (h k sm)]
theorem acG{p k:Nat}:∀(Y:List (Nat×Nat))(r:List Int),(∀q∈Y,q.1=p->q.2=k)->p<lc r->((∃q∈Y,q.1=p)∨r[p]?=E (k:Int))->(DV r Y)[p]?=E (k:Int)
 |[],r,_,_,h=>by
  rcases h with⟨q,Z,_⟩|h
  ·cases Z
  ·exact h
 |a::Y,r,h,hp,h2=>by
  show(DV (r.set a.1 (a.2:Int)) Y)[p]?=_;refine acG Y _ (λq Z=>h q (by simp[Z])) (by simpa using hp) ?_
  by_cases e:a.1=p
  ·right
   rw[e,FU hp,h a sm e]
  ·rcases h2 with⟨q,Z,X⟩|h2
   ·rcases CR.1 Z with rfl|Z
    ·exact absurd X e
    ·exact .inl ⟨q,Z,X⟩
   ·right
    rw[FH e];exact h2
def FX(F:List Int)(many j:Nat):List Int:=(F.drop (j*many)).take many
theorem LZ{F:List Int}{many j p:Nat}(Z:p<many):(FX F many j)[p]?=F[j*many+p]?:=by unfold FX;rw[MW Z,Hm]
theorem abe{F:List Int}{many n j:Nat}(Y:lc F=many*n)(Z:j<n):(FX F many j).length=many:=by have:=IE (many:=many) Z;unfold FX;simp;omega
theorem an0{F r:List Int}{P q:Nat}(h:P+lc r<=lc F)(Z:q<P∨P+lc r<=q):(spl F P r)[q]?=F[q]?:=by
 have Y:(F.take P).length=P:=by simp;omega
 unfold spl
 rcases Z with Z|Z
 ·rw[CE,By om,MW Z]
 ·rw[DY (by rw[List.length_append,Y];exact Z),List.length_append,Y,Hm];congr 1;omega
theorem ahm{F r:List Int}{many n i:Nat}(V:lc F=many*n)(Z:i<n)(U:lc r=many):FX (spl F (i*many) r) many i=r:=by
 have Y:=IE (many:=many) Z
 apply Hn
 intro p
 by_cases X:p<many
 ·rw[LZ X,Ok om om]
 ·have h1:=abe (F:=spl F (i*many) r) (many:=many) (n:=n) (by rw[Oj om];exact V) Z;rw[GT om,GT om]
theorem abS{F r:List Int}{many n i j:Nat}(U:lc F=many*n)(N:i<n)(X:j<n)(J:lc r=many)(Z:j≠i):FX (spl F (i*many) r) many j=FX F many j:=by
 have V:=IE (many:=many) N
 apply Hn
 intro p
 by_cases Y:p<many
 ·rw[LZ Y,LZ Y];refine an0 om ?_
  rcases Nat.lt_or_gt_of_ne Z with h|h
  ·left
   have:=IO many (show j+1<=i from h);rw[Nat.succ_mul]at this;omega
  ·right
   have:=IO many (show i+1<=j from h);rw[Nat.succ_mul]at this;omega
 ·have h1:=abe (F:=spl F (i*many) r) (many:=many) (n:=n) (by rw[Oj om];exact U) X;have h2:=abe (F:=F) (many:=many) U X;rw[GT om,GT om]
def JV(ws:Lb)(x:List Int)(c:Int):Int:=CW (AB ws) (lsf (AB ws) (x++[c]))
theorem Lp{ws:Lb}{x:List Int}{c:Int}(h:x++[c]∈AB ws):De ws c:=by
 rcases(DT ws).1 h with h|⟨w,Z,k,_,_,Y⟩
 ·simp at h
 ·exact⟨w,Z,EG (i:=k) (by rw[<-Y];simp)⟩
theorem ajg{fold:Bool}{ws:Lb}(hg:Fe fold ws)(B:∀x,De ws x->0<=x/\x<=255){i:Nat}{x:List Int}(D:(AB ws)[i]?=E x){q:Nat×Nat} :q∈Ec (BF fold ws) (AG ws) (i:Int) (AB ws).length↔∃(c j:Nat),(AB ws)[j]?=E (x++[(c:Int)])/\q=(DA (inB fold ws) fold c,j):=by
 have Y:=(CL ws).nodup;have X:∀c:Nat,De ws (c:Int)->(BF fold ws)[c]?=E (DA (inB fold ws) fold c:Int):=λc C=>ag8 (IF hg) (Kh C) (by have:=B _ C;omega);unfold Ec;rw[Be]
 constructor
 ·rintro⟨⟨b,j⟩,v,rfl⟩;obtain⟨h1,h2,h3,h4⟩:=ac0.1 v;dsimp only at h1 h2 h3 h4;obtain⟨y,Z⟩:∃y,(AB ws)[j]?=E y:=⟨(AB ws)[j]'h2,by simp⟩;obtain⟨u1,N,_⟩:=JC Z;rw[u1]at h3;rw[N,CG]at h4;have J:y≠[]:=λe2=>by have:=(EM Z).2 e2;omega
  obtain⟨k,hk⟩:=DR (LR (AX Z));have A:=CV Y hk;have H:k=i:=by have:=AK h3;omega
  subst H;rw[D]at hk;have I:y=x++[b]:=by rw[AK hk,h4];exact Om J
  subst I;have V:=Lp (AX Z);have a1:=B _ V;obtain⟨c,rfl⟩:∃c:Nat,b=(c:Int):=⟨b.toNat,by omega⟩;refine⟨c,j,Z,?_⟩;rw[Aa,X c V,CG,Aa]
 ·rintro⟨c,j,U,rfl⟩;have V:=Lp (AX U);refine⟨((c:Int),j),ac0.2 ?_,?_⟩
  ·obtain⟨u1,N,_⟩:=JC U;rw[u1,N,LJ];have s:=(AP.1 U).1;refine⟨?_,s,?_,?_⟩
   ·have h0:j≠0:=λe=>by have:=(EM U).1 e;simp at this
    show 1<=j;omega
   ·rw[CV Y D]
   ·show(c:Int)=_;simp[DU]
  ·dsimp only;rw[Aa,X c V,CG,Aa]
def anY(fold:Bool)(ws:Lb)(r:List Int)(x:List Int):Prop:=
 lc r=Ah fold ws/\r[0]?=E 0/\∀c:Nat,De ws (c:Int)->r[DA (inB fold ws) fold c]?=E (JV ws x (c:Int))
theorem agJ{fold:Bool}{ws:Lb}(J:Fe fold ws)(C:∀x,De ws x->0<=x/\x<=255){i:Nat}{x:List Int}(B:(AB ws)[i]?=E x){r:List Int}(A:lc r=Ah fold ws)(h0:r[0]?=E 0)
  (Y:∀c:Nat,De ws (c:Int)->x++[(c:Int)] ∉ AB ws->r[DA (inB fold ws) fold c]?=E (JV ws x (c:Int))) :
  anY fold ws (DV r (Ec (BF fold ws) (AG ws) (i:Int) (AB ws).length)) x:=by
 have N:=@ajg fold ws J C i x B;refine⟨by rw[aaW];exact A,?_,λc V=>?_⟩
 ·rw[aby]
  ·exact h0
  ·intro q X e;obtain⟨d,j,_,rfl⟩:=N.1 X;have:=alr (inB fold ws) fold d;dsimp only at e;omega
 ·have v:DA (inB fold ws) fold c<Ah fold ws:=ME (IF J) (Kh V) (by have:=C _ V;omega)
  by_cases U:x++[(c:Int)]∈AB ws
  ·obtain⟨j,I⟩:=DR U;have H:JV ws x (c:Int)=(j:Int):=by
    unfold JV;rw[Lu U,CV (CL ws).nodup I]
   rw[H];refine acG _ _ (λq X e=>?_) om (.inl ⟨_,N.2 ⟨c,j,I,rfl⟩,rfl⟩);obtain⟨d,k,hk,rfl⟩:=N.1 X;have D:=Lp (AX hk);have Z:=agV J D V e;subst Z;exact alO hk I
  ·rw[aby]
   ·exact Y c V U
   ·intro q X e;obtain⟨d,k,hk,rfl⟩:=N.1 X;have D:=Lp (AX hk);have Z:=agV J D V e;subst Z;exact U (AX hk)
def Nv(fold:Bool)(ws:Lb)(F:List Int)(i:Nat):Prop:=
 lc F=Ah fold ws*(AB ws).length/\(∀j:Nat,j<i->∀x,(AB ws)[j]?=E x->anY fold ws (FX F (Ah fold ws) j) x)/\∀j:Nat,i<=j->j<(AB ws).length->FX F (Ah fold ws) j=List.replicate (Ah fold ws) 0
theorem OY(ws:Lb):(AG ws).up.length=(AB ws).length:=by simp[AG]
theorem ada{ws:Lb}{i:Nat}{x:List Int}(Z:(AB ws)[i]?=E x)(h0:i≠0):∃k:Nat,(Bo ws)[i]?=E (k:Int)/\k<i/\(AB ws)[k]?=E (EC (AB ws) x):=by obtain⟨k,h1,h2⟩:=acQ (ws:=ws) x;refine⟨k,by rw[JP Z,h1],?_,h2⟩;exact afH Z h2 (Lx (λe=>h0 ((EM Z).2 e)))
theorem amk{fold:Bool}{ws:Lb}(hg:Fe fold ws)(hb:∀x,De ws x->0<=x/\x<=255){F:List Int}{i:Nat}(J:i<(AB ws).length)(h:Nv fold ws F i) :Nv fold ws (Kn (BF fold ws) (AG ws) (Bo ws) F (Ah fold ws) i) (i+1):=by
 obtain⟨C,V,Z⟩:=h;obtain⟨x,X⟩:∃x,(AB ws)[i]?=E x:=⟨(AB ws)[i],by simp⟩;have a2:1<=Ah fold ws:=(Hb _ _ _).1;have hl:i≠0->∃k:Nat,(Bo ws)[i]?=E (k:Int)/\k<(AB ws).length:=λh0=>by obtain⟨k,h1,h2,_⟩:=ada X h0;exact⟨k,h1,by omega⟩
 have Y:=adR (lk:=Bo ws) C J hl;have D:anY fold ws (DV (Hd F (Ah fold ws) i (Bo ws)) (Ec (BF fold ws) (AG ws) (i:Int) (AB ws).length)) x:=by
  by_cases h0:i=0
  ·subst h0;have v:=(EM X).1 rfl;subst v;have U:Hd F (Ah fold ws) 0 (Bo ws)=List.replicate (Ah fold ws) 0:=by
    rw[<-Z 0 (AC _) J];unfold Hd FX;rw[Lq rfl]
   rw[U]at Y⊢;refine agJ hg hb X Y (by rw[Jo,Lq om]) (λc B I=>?_);have s:DA (inB fold ws) fold c<Ah fold ws:=ME (IF hg) (Kh B) (by have:=hb _ B;omega);rw[Jo,Lq s];unfold JV;rw[Av]at I⊢;rw[ady I,CV (CL ws).nodup X]
   rfl
  ·obtain⟨k,h1,h2,h3⟩:=ada X h0;have U:Hd F (Ah fold ws) i (Bo ws)=FX F (Ah fold ws) k:=by
    unfold Hd FX;rw[Lc h0,h1]
    rfl
   rw[U]at Y⊢;obtain⟨g1,g2,g3⟩:=V k h2 _ h3;refine agJ hg hb X Y g2 (λc B I=>?_);rw[g3 c B];unfold JV EC;rw[<-Ng (KQ ws)]
   cases x with
   |nil=>exact absurd ((EM X).2 rfl) h0
   |cons a t=>
    conv=>rhs;rw[CT];unfold lsf
    rw[CT]at I;rw[Lc I]
    rfl
 unfold Kn;rw[OY];have N:=D.1;have a1:=IE (many:=Ah fold ws) J;refine⟨by rw[Oj om];exact C,λj hj y A=>?_,λj hj H=>?_⟩
 ·by_cases e:j=i
  ·subst e;rw[ahm C J N];rw[X]at A;rw[<-AK A];exact D
  ·rw[abS C J om N e];exact V j om y A
 ·rw[abS C J H N om];exact Z j om H
theorem alc(fold:Bool)(ws:Lb):Nv fold ws (List.replicate (Ah fold ws*(AB ws).length) 0) 0:=by refine⟨by simp,λj Z=>absurd Z (Nat.not_lt_zero _),λj _ Z=>?_⟩;have Y:=IE (many:=Ah fold ws) Z;unfold FX;rw[List.drop_replicate,List.take_replicate];congr 1;omega
def IR(fold:Bool)(ws:Lb):Nat->List Int
 |0=>List.replicate (Ah fold ws*(AB ws).length) 0
 |i+1=>Kn (BF fold ws) (AG ws) (Bo ws) (IR fold ws i) (Ah fold ws) i
theorem Mr{fold:Bool}{ws:Lb}(Z:Fe fold ws)(Y:∀x,De ws x->0<=x/\x<=255):∀{i:Nat},i<=(AB ws).length->Nv fold ws (IR fold ws i) i
 |0,_=>alc fold ws
 |i+1,h=>amk Z Y h (Mr Z Y om)
def FN(fold:Bool)(ws:Lb):List Int:=IR fold ws (AB ws).length
theorem aoy{fold:Bool}{ws:Lb}(V:Fe fold ws)(U:∀x,De ws x->0<=x/\x<=255){j:Nat}{x:List Int}(X:(AB ws)[j]?=E x) :(FN fold ws)[j*Ah fold ws]?=E 0/\∀c:Nat,De ws (c:Int)->(FN fold ws)[j*Ah fold ws+DA (inB fold ws) fold c]?=E (JV ws x (c:Int)):=by
 have J:=(AP.1 X).1;obtain⟨_,h1,_⟩:=Mr V U (AC (AB ws).length);obtain⟨h2,h3,h4⟩:=h1 j J x X;have N:1<=Ah fold ws:=(Hb _ _ _).1;refine⟨?_,λc Y=>?_⟩
 ·rw[LZ om]at h3;exact h3
 ·have h5:=h4 c Y;have Z:DA (inB fold ws) fold c<Ah fold ws:=ME (IF V) (Kh Y) (by have:=U _ Y;omega);rw[LZ Z]at h5;exact h5
end
def dvC(LO:List Int)(m:Int)(row:Vk):List Vk:=(LO.map (R K)++[R K m])++[row]
structure Dv(W:World)(B:Nat)(L:List Int)(m:Int)(row:Value):Prop where
 box:W.heap[B]?=some (.cells (dvC L m row).toArray 146 (0,0))
 len:L.length=256
theorem Dv.lt{W:Wa}{B:Nat}{LO:List Int}{m:Int}{row:Vk}(h:Dv W B LO m row):B<W.heap.size:=(AD.1 h.box).1
theorem Dv.below{W V:Wa}{B:Nat}{LO:List Int}{m:Int}{row:Vk}(h:Dv W B LO m row)(Z:La W V):Dv V B LO m row:=⟨(Z.block B h.lt).trans h.box,h.len⟩
theorem Dv.cells{W:Wa}{B:Nat}{LO:List Int}{m:Int}{row:Vk}(h:Dv W B LO m row):W.cell? ⟨B,256,O⟩=E (R K m)/\W.cell? ⟨B,257,O⟩=E row:=by
 have Z:=h.len;have Y:(dvC LO m row)[256]?=E (R K m):=by unfold dvC;rw[CE,DY (by simp[Z])];simp[Z]
 have e2:(dvC LO m row)[257]?=E row:=by unfold dvC;rw[DY (by simp[Z])];simp[Z]
 simp only[cell?,h.box];simp[Y,e2]
theorem Dv.new(w:Wa)(LO:List Int)(m:Int)(row:Vk)(Z:lc LO=256):Dv (w.alloc (i7 (dvC LO m row).toArray 146)) w.heap.size LO m row:=⟨((Bx.nil _ w).snoc (i7 (dvC LO m row).toArray 146) rfl) 0 _ rfl,Z⟩
def Hu(m:Int)(n:Nat):Int:=if m<1 then 0 else(n:Int) / m
theorem ab7(LO:List Int)(m:Int)(a:Option Addr)(n c:Nat)(w:Wa)(B:lc LO=256)(C:n<=1000000000000) :Calls ZP 89 #[i8 (dvC LO m (T a n c)).toArray] w λe w'=>e=ra (R K (Hu m n))/\La w w':=by
 have J:=Dv.new w LO m (T a n c) B;have hB:La w (w.alloc (i7 (dvC LO m (T a n c)).toArray 146)):=AL _ _;obtain⟨W,hW⟩:∃W,W=w.alloc (i7 (dvC LO m (T a n c)).toArray 146):=⟨_,rfl⟩;rw[<-hW]at J hB;obtain⟨s1,s2⟩:=J.cells;obtain⟨A,D⟩:∃A,(dvC LO m (T a n c)).toArray=A:=⟨_,rfl⟩;rw[D]at hW⊢;clear D J
 by_cases Z:m<1
 ·have v:decide (m<1)=G:=by simpa using Z
  have Y:Hu m n=0:=by unfold Hu;rw[Lq Z]
  rw[Y];clear Y Z;go_enter func89,ntmps89;go_upto_region 1 with fail
  rw[<-hW];clear hW
  go_wp2_with fail
  go_ret;exact⟨rfl,hB⟩
 ·have v:decide (m<1)=M:=by simpa using Z
  obtain⟨k,rfl⟩:∃k:Nat,m=(k:Int):=⟨m.toNat,by omega⟩;have Y:Hu k n=((n / k:Nat):Int):=by unfold Hu;rw[Lc Z];exact(Int.natCast_ediv n k).symm
  rw[Y];have N:¬((k:Int)=0):=by omega
  have U:((k:Int)==0)=M:=by simp;omega
  have H:(n:Int).tdiv (k:Int)=((n / k:Nat):Int):=(Int.ofNat_tdiv n k).symm;have V:n / k<=n:=Nat.div_le_self _ _;have X:wrap64 ((n:Int) / (k:Int))=((n / k:Nat):Int):=by
   have h2:n / k<=1000000000000:=AS V C;rw[<-Int.natCast_ediv];clear H N U V
   generalize n / k=d at h2⊢
   unfold wrap64;omega
  have I:=AA X;clear X H;clear Y Z;go_enter func89,ntmps89;go_upto_region 1 with fail
  rw[<-hW];clear hW
  go_wp2_with fail
  rw[I.out];go_ret;exact⟨rfl,hB⟩
theorem Nl:(ZP.info? 146).map (·.size)=E 258:=by kernel_rfl
theorem Ko{LO:List Int}(Z:lc LO=256)(m:Int)(row:Vk):(dvC LO m row).toArray.size=258:=by simp[dvC,Z]
def goD(LO:List Int)(m:Int)(F:List Int)(node:Int)(c:Nat):Option Int:=
 if((LO[c]?).getD 0<0∨m<=(LO[c]?).getD 0)∨(node<0∨Hu m (lc F)<=node) then O else F[(node*m+(LO[c]?).getD 0).toNat]?
def apk:Option Int->Vk
 |some x=>ta #[R K x,i6 G]
 |none=>ta #[R K 0,i6 M]
section inround
variable {P:Program}{ops:Array Oper}{Q Q':Exit->Act->Wa->Prop}{md:Region.Mode}{n l:Nat}
theorem adi{row:String}{args:Array Vk}{w:Wa}{Ra:Vk->Wa->Prop}(h:Rows P row args w Ra):RowsIn (Fence.wide.inRound l) n P row args w Ra:=λc cs _=>let⟨v,w',r,s⟩:=h c cs;⟨v,w',r,stepsIn_wide.2 s⟩
theorem acX{o:Oper}{a:Act}{w:Wa}{KB:Act->Wa->Prop}(Z:∀c,o.op≠.defer c)(V:∀e a w,Q e a w->Q' e a w)(U:¬LetsOut Q)
  (h:o.wp P a w KB Q):o.wpIn (Fence.wide.inRound l) n P a w KB Q':=by
 unfold Oper.wp at h;unfold Oper.wpIn;refine⟨λf _=>trivial,?_⟩;rw[Oper.semAt_eq _ _ _ Z]
 generalize (execOp a.eval o).run P w=r at *
 cases r with
 |ok x w'=>
  cases x<;>simp only[Oper.upon]at h<;>simp only[Oper.uponIn]
  case value u=>exact h
  case skip=>exact h
  case defer d=>exact h
  case enter f args=>
   refine⟨(λX=>by cases X),(callsIn_wide (n:=n-1)).2 (h.mono λe w'' Y=>?_)⟩
   cases e with
   |returned u=>exact Y
   |panicked c=>exact V _ _ _ Y
   |outgrown=>exact absurd Y U
  case row row args=>exact⟨(λX=>by cases X),adi h⟩
 |halt x w'=>
  cases x<;>simp only[Oper.upon]at h<;>simp only[Oper.uponIn]
  case panic u=>exact V _ _ _ h
theorem abr(X:Eb ops=G)(V:∀e a w,Q e a w->Q' e a w)(N:¬LetsOut Q):∀(Y:Nat)(Z:Array Bool)(a:Act)(w:Wa),
  wpAny P md ops Q Y Z a w->wpAnyIn (Fence.wide.inRound l) n P md ops Q' Y Z a w
 |0,_,_,_,h=>⟨h.1,V _ _ _ h.2⟩
 |Y+1,Z,a,w,h=>by
  refine⟨λh0=>V _ _ _ (h.1 h0),λi J=>?_⟩;have h1:=wpOp_mono (λH w' I=>abr X V N Y _ H w' I) (h.2 i J);unfold wpOp at h1;unfold wpOpIn
  split
  ·rename_i ho;simp only[ho]at h1;exact h1
  ·rename_i o ho
   simp only[ho]at h1
   split
   ·rename_i U
    simp only[U,if_true]at h1
    rcases h1 with h1|⟨_,h1⟩
    ·exact acX (ab0 X ho) V N h1
    ·exact absurd h1 N
   ·rename_i U
    simp only[U]at h1;exact⟨λf _=>trivial,h1⟩
def Gn(Q:Exit->Act->Wa->Prop):Exit->Act->Wa->Prop
 |.normal,a,w=>Q .normal a w
 |_,_,_=>False
theorem Gn.normal{a:Act}{w:Wa}(h:Q .normal a w):Gn Q .normal a w:=h
theorem Gn.imp:∀(e:Exit)(a:Act)(w:Wa),Gn Q e a w->Q e a w:=λe a w h=>by cases e<;>first|exact h|exact absurd h id
theorem af8:¬LetsOut (Gn Q):=λ⟨_,_,h⟩=>h
theorem aa4{S:Wa->Prop}{id:Nat}{a:Act}{w:Wa}(Y:P.follows .mixedOrders=G)(Z:Eb ops=G)(X:S w.drew)
  (h:S w.drew->wpAnyH P .any ops (Gn Q) S ops.size (Array.replicate ops.size M) a w.drew):(Code.region id ops G).wpIn (Fence.wide.inRound l) n P Q a w:=
 wpIn_region_any Y (abr Z Gn.imp af8 _ _ _ _ (wpAny_of_held _ _ _ _ (h X)))
theorem NT(w:Wa){o:Oper}{a:Act}{KB:Act->Wa->Prop}(s x:Operand)(t:TypeId)
  (D:o.op=.call {callee:=.builtin .append,args:=#[s,x],argTypes:=#[t,t]})
  (base:Nat) (e:TypeId) (i:TypeInfo) (z:Vk) (size bytes:Nat) (ht:P.underlying t=E (.slice e)) (hi:P.info? e=E i) (hz:i.zero=E z) (Y:i.size=size) (C:i.bytes=bytes) (J:z.cells.size=size) (I:0<size)
  (v:Vk) (n:Nat) (xs:List Vk) (hs:a.eval s=v) (U:w.ownsRow base e size v n xs) (A:Option Addr) (m c:Nat) (cs:List Vk) (hx:a.eval x=T A m c) (H:SlK size w A m cs) (N:∀u∈cs,u.oneCell'=G)
  (B:n+m<=maxLen) (Z:(n+m)*bytes<=140737488355328) (X:base<=w.heap.size)
  (h:∀v' w',w'.ownsRow base e size v' (n+m) (xs++cs)->w.grownBy w' v.ownBlock->(v'.ownBlock=v.ownBlock∨v'.ownBlock=E w.heap.size)->KB (a.put o.dst v') w'):o.wp P a w KB Q:=by
 obtain⟨v',w',V,r1,j,r3⟩:=Gu (P:=P) w base t o.type e i z size bytes ht hi hz Y C J I v n xs U A m c cs H N B Z X;unfold Oper.wp;simp[execOp,D,resolve,invoke,builtin,hs,hx,V,Result.andThen];exact h v' w' r1 j r3
theorem Mi{c:Bool}{p q:Prop}(Z:c=G)(h:p):if c=G then p else q:=by rw[Lq Z];exact h
end inround
theorem amP:Tryz.zeroCells146=(dvC (List.replicate 256 0) 0 (T O 0 0)).toArray:=by kernel_rfl
theorem afb(LO:List Int)(m:Int)(row:Vk)(Y:row.oneCell'=G):(dvC LO m row).toArray.all (·.oneCell')=G:=by
 rw[Array.all_eq_true_iff_forall_mem];intro v Z;have Z:v∈dvC LO m row:=by simpa using Z
 unfold dvC at Z;rw[Bf,Bf]at Z
 rcases Z with(Z|Z)|Z
 ·obtain⟨x,_,rfl⟩:=Be.1 Z;rfl
 ·rw[Fq]at Z;rw[Z];rfl
 ·rw[Fq]at Z;rw[Z];exact Y
theorem ace{fn:Func}{p u:Tmp}{tmps:Array Vk}{W:Wa}{B:Nat}{cs:Array Vk}(h:fn.results=#[.cell p 146,.tmp u])(X:tmps.getD p undef=L (E ⟨B,0,O⟩))(hB:W.heap[B]?=E (i7 cs 146 (0,0)))(Y:(ZP.info? 146).map (·.size)=E cs.size) :(results fn tmps).run ZP W=.ok (ta #[i8 cs,tmps.getD u undef]) W:=by
 have Z:tmps[p]?.getD undef=L (E ⟨B,0,O⟩):=by simpa using X
 simp[results,h,Z,asAddr,run_loadVar_row W B 146 146 cs (0,0) _ hB underlying146 rfl Y]
theorem agL(B:List Vk):∀(Z A P:List Vk)(k off:Nat),lc Z=lc A->lc P=off+k->
  (Z.zipIdx k).foldl (λcs (x:Vk×Nat)=>cs.setIfInBounds (off+x.2) x.1) (P++A++B).toArray=(P++Z++B).toArray
 |[],[],P,k,off,_,_=>by simp
 |v::Z,a::A,P,k,off,hl,hP=>by
  rw[List.zipIdx_cons,List.foldl_cons];have e2:(P++(a::A)++B).toArray.setIfInBounds (off+k) v=((P++[v])++A++B).toArray:=by rw[<-hP];simp
  show List.foldl _ ((P++(a::A)++B).toArray.setIfInBounds (off+k) v) _=_;rw[e2,agL B Z A (P++[v]) (k+1) off (by simpa using hl) (by simp;omega)];simp
theorem Ig(place:Nat->Option (Nat×Nat))(P A B Z:List Vk)(i:Nat)(v:Vk)(rest:List (Nat×Vk))(X:v.cells=Z.toArray)(Y:lc Z=lc A)(V:place i=E (lc P,lc A)) :Instr.fill place (P++A++B).toArray ((i,v)::rest)=Instr.fill place (P++Z++B).toArray rest:=by have e:=agL B Z A P 0 (lc P) Y rfl;rw[Instr.fill];simp only[V,X];rw[Lc (by simp[Y])];congr 1;rw[<-e];simp
theorem Iz{P:Program}{Y:Array Oper}{S:Wa->Prop}{op:Oper}{a:Act}(X:Region.wanted op (yielded Y a.tmps)=G)(t:TypeId)(Z:Array (Nat×Operand))(ho:op.op=.build t Z)(V:Array Vk)
  (U:P.built t (Z.map λ(i,x)=>(i,a.eval x)).toList=E V):YieldsIf P Y S op (i8 V) a:=
 .inl ⟨X,λw _=>by
  unfold execOp;simp only[ho,IN,run_build w t _ V U,Result.andThen_ok]
  rfl⟩
theorem ab4{w:Wa}{b:Nat}{A B:List Vk}{t:TypeId}{fr:Nat×Nat}(X:w.heap[b]?=E (i7 (A++B).toArray t fr)):w.rangeAt b 0 A:=λj v Z=>by
 have Y:j<lc A:=(AP.1 Z).1;have e:(A++B)[j]?=E v:=by rw[By Y];exact Z
 simp only[cell?,X,DD]
 simpa using e
theorem aoC(LO:List Int)(m:Int)(row:Vk):dvC LO m row=LO.map (R K)++[R K m,row]:=by simp[dvC]
theorem Dv.range{W:Wa}{B:Nat}{LO:List Int}{m:Int}{row:Vk}(h:Dv W B LO m row):W.rangeAt B 0 (LO.map (R K)):=by have Z:=h.box;rw[aoC]at Z;exact ab4 Z
theorem anl(t:TV)(Y:Option Addr)(ln Z:Nat):(ZP.built 227 [(1,Value.agg #[T t.ua t.un t.uc,T t.da t.dn t.dc,T t.xa t.xn t.xc,T t.ba t.bn t.bc]),(2,T Y ln Z)])=E (Dn (List.replicate 256 0) 0 (T O 0 0) t (T Y ln Z)).toArray:=by kernel_rfl
theorem abA{P:Program}{Y:Array Oper}{rest:List Oper}{o:Oper}{a:Act}{w:Wa}{Q:Exit->Act->Wa->Prop}(U:o.guard=O)(t:TypeId)(Z:Array (Nat×Operand))(ho:o.op=.build t Z)(V:Array Vk)
  (X:P.built t (Z.map λ(i,x)=>(i,a.eval x)).toList=E V) (h:wpList P Y Q rest (a.put o.dst (i8 V)) w):wpList P Y Q (o::rest) a w:=
 wpList_build U t Z ho (by rw[X];rfl) (by rw[X];exact h)
theorem ag0(w:Wa)(g:Nat)(cs:Array Vk)(t:TypeId)(fr:Nat×Nat)(Y:w.heap[g]?=E (i7 cs t fr)):w.setRow g cs=w:=by
 have e:(w.setRow g cs).heap=w.heap:=by
  apply Array.ext_getElem?
  intro i
  by_cases Z:i=g
  ·rw[Z,setRow_heap w g _ cs t fr Y,Y]
  ·exact setRow_other w g i cs Z
 have e2:w.setRow g cs={w with heap:=(w.setRow g cs).heap}:=rfl;rw[e2,e]
theorem aaZ(b:Nat)(t:TypeId)(fr:Nat×Nat)(B:List Vk):∀(Z A P:List Vk)(w:Wa),lc Z=lc A->w.heap[b]?=E (i7 (P++A++B).toArray t fr)->w.setCells b (lc P) Z=w.setRow b (P++Z++B).toArray
 |[],[],P,w,_,hg=>by simpa[World.setCells]using (ag0 w b _ t fr hg).symm
 |v::Z,a::A,P,w,hl,hg=>by
  have e:=setCell_eq_setRow w b (lc P) _ t fr v hg;have e2:(P++(a::A)++B).toArray.setIfInBounds (lc P) v=((P++[v])++A++B).toArray:=by simp
  rw[e2]at e;have Y:=setRow_heap w b _ ((P++[v])++A++B).toArray t fr hg;have X:=aaZ b t fr B Z A (P++[v]) (w.setRow b ((P++[v])++A++B).toArray) (by simpa using hl) Y;rw[World.setCells,e];rw[show lc P+1=(P++[v]).length by simp,X,setRow_setRow];simp
theorem aaN{P:Program}{Y:Array Oper}{rest:List Oper}{op:Oper}{a:Act}{w:Wa}{Q:Exit->Act->Wa->Prop}(V:op.guard=O)(ty:TypeId)(x y:Operand)(ho:op.op=.store ty x y)
  (b:Nat) (Z A B:List Vk) (I:a.eval x=L (E ⟨b,0,O⟩)) (J:a.eval y=i8 Z.toArray) (t:TypeId) (U:w.heap[b]?=E (i7 (A++B).toArray t (0,0))) (N:lc Z=lc A)
  (H:(P.info? ty).map (·.size)=E Z.toArray.size) (h1:Z.toArray.all (·.oneCell')=G)
  (h:wpList P Y Q rest (a.put op.dst undef) (w.setRow b (Z++B).toArray)):wpList P Y Q (op::rest) a w:=by
 refine wpList_store_mid V ty x y ho b 0 Z.toArray I J (λj X=>?_) H h1 ?_
 ·have X:j<lc A:=by rw[<-N];simpa using X
  refine⟨?_,?_⟩
  ·simp[cell?,U,By X,X]
  ·simp[frozen?,U]
 ·have e:=aaZ b t (0,0) B Z A [] w N U;simp only[Av,Bw]at e;rw[show Z.toArray.toList=Z by simp,e];exact h
theorem Kb(LO:List Int)(m:Int)(row:Vk)(t:TV)(lk:Vk):Dn LO m row t lk=LO.map (R K)++[R K m,row,T t.ua t.un t.uc,T t.da t.dn t.dc,T t.xa t.xn t.xc,T t.ba t.bn t.bc,lk]:=by simp[Dn]
theorem ajz(LO:List Int)(m:Int)(row:Vk)(t:TV)(lk:Vk):Dn LO m row t lk=dvC LO m row++[T t.ua t.un t.uc,T t.da t.dn t.dc,T t.xa t.xn t.xc,T t.ba t.bn t.bc,lk]:=by simp[Dn,dvC]
theorem akK(LO:List Int)(m:Int)(row:Vk)(t:TV)(lk:Vk)(Y:row.oneCell'=G)(hk:lk.oneCell'=G):(Dn LO m row t lk).toArray.all (·.oneCell')=G:=by
 rw[ajz];have:=afb LO m row Y;rw[Array.all_eq_true_iff_forall_mem]at this⊢;intro v Z;rw[List.mem_toArray,Bf]at Z
 rcases Z with h|h
 ·exact this v (by rw[List.mem_toArray];exact h)
 ·simp at h;rcases h with rfl|rfl|rfl|rfl|rfl<;>first|rfl|exact hk
theorem ajt{LO:List Int}(Z:lc LO=256)(m:Int)(row:Vk)(t:TV)(lk:Vk):(Dn LO m row t lk).toArray.size=263:=by simp[Dn,Z]
theorem Mk.frozen{W:Wa}{MH:Nat}{LO:List Int}{m:Int}{row lk:Vk}{t:TV}(h:Mk W MH LO m row t lk)(i:Nat):W.frozen? ⟨MH,i,O⟩=M:=by simp[frozen?,h.box]
theorem Mk.setMany{W:Wa}{MH:Nat}{LO:List Int}{m:Int}{row lk:Vk}{t:TV}(h:Mk W MH LO m row t lk)(v:Int):Mk (W.setCell ⟨MH,256,O⟩ (R K v)) MH LO v row t lk:=by
 refine⟨?_,h.len⟩;rw[setCell_eq_setRow W MH 256 _ _ _ _ h.box,setRow_heap W MH _ _ _ _ h.box];have e:(Dn LO m row t lk).toArray.setIfInBounds 256 (R K v)=(Dn LO v row t lk).toArray:=by rw[Kb,Kb,Fp,Jm _ _ (by simp[h.len])];simp[h.len]
 rw[e]
theorem Mk.setRows{W:Wa}{MH:Nat}{LO:List Int}{m:Int}{row lk:Vk}{t:TV}(h:Mk W MH LO m row t lk)(v:Vk):Mk (W.setCell ⟨MH,257,O⟩ v) MH LO m v t lk:=by
 refine⟨?_,h.len⟩;rw[setCell_eq_setRow W MH 257 _ _ _ _ h.box,setRow_heap W MH _ _ _ _ h.box];have e:(Dn LO m row t lk).toArray.setIfInBounds 257 v=(Dn LO m v t lk).toArray:=by rw[Kb,Kb,Fp,Jm _ _ (by simp[h.len])];simp[h.len]
 rw[e]
theorem Mw{W:Wa}{α:Type}{enc:α->Vk}{a:Option Addr}{n:Nat}{xs:List α}(h:Sl1 enc W a n xs)(X:0<lc xs)(x:Addr)(Y:a=E x):x.block<W.heap.size:=by
 rcases h.2 with h0|⟨b,off,e,Z,_⟩
 ·have:=h.1;omega
 ·rw[Y]at e;cases e;exact Z
theorem anf{W:Wa}{t:TV}{Ta:Ay}(h:Tri W t Ta)(h1:0<lc Ta.up)(h2:0<lc Ta.dep)(h3:0<lc Ta.wrd)(h4:0<lc Ta.byt):Lw t W.heap.size:=by
 rintro a (e|e|e|e)
 ·exact Mw h.up h1 a e
 ·exact Mw h.dep h2 a e
 ·exact Mw h.wrd h3 a e
 ·exact Mw h.byt.1 h4 a e
theorem anU{fold:Bool}{ws:Lb}(X:Fe fold ws)(c:Nat)(v:Int)(h:(BF fold ws)[c]?=E v):0<=v/\v<(Ah fold ws:Int):=by
 have Y:c<256:=by have:=(AP.1 h).1;rw[Jc]at this;exact this
 have V:1<=Ah fold ws:=(Hb _ _ _).1
 cases Z:inB fold ws (c:Int)with
 |false=>
  have:=amJ (fold:=fold) Z Y;rw[show(Ac (inB fold ws) fold 256).1=BF fold ws from rfl,h]at this
  cases this;omega
 |true=>
  have e:=ag8 (IF X) Z Y;rw[show(Ac (inB fold ws) fold 256).1=BF fold ws from rfl,h]at e;have U:DA (inB fold ws) fold c<Ah fold ws:=ME (IF X) Z Y
  cases e;omega
theorem aol:(ZP.info? 227).map (·.size)=E 263:=by kernel_rfl
theorem aox:Tryz.zeroCells227.size=263:=by kernel_rfl
theorem aha(fold:Bool)(a:Option Addr)(la ca:Nat)(wss:Lb)(w:Wa)(hA:Wds w a la wss)(b1:la<=1000000)(hM:∀x∈wss,lc x<=1000000)(hT:(Ad fold wss).length<=1000000)(hr:An fold wss=G) :Calls ZP 86 #[i8 (AM fold a la ca)] w λe w'=>∃Ra,e=ra (ta #[i8 (dvC (BF fold wss) (Ah fold wss) (.slice (E ⟨Ra,0,O⟩) (Ah fold wss*(AB wss).length) (Ah fold wss*(AB wss).length))).toArray,.int .i64 0])/\
   AU Ra (FN fold wss) w'/\w.heap.size<=Ra/\La w w':=by
 obtain⟨W,hW⟩:∃W,W=(w.alloc (i7 (AM fold a la ca) 24)).alloc (i7 Tryz.zeroCells146 146):=⟨_,rfl⟩;have hB:La w W:=by rw[hW];exact((AH _ _).alloc (AC _) _).alloc sm _
 have hO:Bx w.heap.size [i7 (AM fold a la ca) 24,i7 Tryz.zeroCells146 146] W:=by rw[hW];exact((Bx.nil _ w).snoc _ rfl).snoc _ sm
 have s0:W.cell? ⟨w.heap.size,0,O⟩=E (i6 fold):=hO.cell (i:=0) rfl rfl;have s1:W.cell? ⟨w.heap.size,1,O⟩=E (T a la ca):=hO.cell (i:=0) rfl rfl;have aQ:=hA.below hB;have aJ:CI (AG wss)=E (AB wss,wss):=Fy.2 ⟨IY hr,rfl,rfl⟩;have HC:=AA (abH fold a la ca wss W aQ b1 hM hT hr);have HO:=AA hO;have c8:=AA aQ;have bQ:=AA aJ;have bO:=AA hr;have HM:=AA hM;have HT:=AA hT;have bE:(AB wss).length<=400:=Hx aJ;have ay:0<(AB wss).length:=apG.2 (Lo wss);have hg:Fe fold wss:=acv (Fv hr).2;have b2:∀x,De wss x->0<=x/\x<=255:=by rintro x ⟨xs,h1,h2⟩;exact hA.bytes xs h1 x h2
 have HG:=AA hg;have c7:=AA b2;obtain⟨n,hn⟩:∃n,(AB wss).length=n:=⟨_,rfl⟩;obtain⟨m,hm⟩:∃m,Ah fold wss=m:=⟨_,rfl⟩;have a6:1<=m/\m<=257:=by rw[<-hm];exact Hb _ _ _
 have HN:=AA hn;have af:=AA hm;obtain⟨Q,hQ⟩:∃Q,m*n=Q:=⟨_,rfl⟩;have cg:Q<=257*400:=by rw[<-hQ];exact GR a6.2 om
 have e1:wrap64 ((m:Int)*(n:Int))=(Q:Int):=by rw[<-Iy,hQ];unfold wrap64;omega
 have HQ:=AA hQ;rw[hn,hm,hQ];rw[hn]at bE ay;clear hr hO hA aQ aJ hM hT hg b2 hn hm hQ;go_enter func86,ntmps86;go_upto_region 1 with fail
 rw[<-hW];clear hW;go_upto_region 4 with(go_at_call 87;refine HC.out.mono ?_;rintro e J ⟨t,rfl,b3,aM⟩)
 obtain⟨W2,a7⟩:∃W2,W2=J.alloc (i7 #[T t.ua t.un t.uc,T t.da t.dn t.dc,T t.xa t.xn t.xc,T t.ba t.bn t.bc] 150):=⟨_,rfl⟩;have bI:La W W2:=by rw[a7];exact aM.alloc aM.size _
 have aD:La J W2:=by rw[a7];exact AL _ _
 have D:Bx J.heap.size [i7 #[T t.ua t.un t.uc,T t.da t.dn t.dc,T t.xa t.xn t.xc,T t.ba t.bn t.bc] 150] W2:=by rw[a7];exact(Bx.nil _ J).snoc _ rfl
 have al:=b3.below aD;rw[<-a7];have v0:W2.cell? ⟨J.heap.size,0,O⟩=E (T t.ua t.un t.uc):=D.cell (i:=0) rfl rfl;have v1:W2.cell? ⟨J.heap.size,1,O⟩=E (T t.da t.dn t.dc):=D.cell (i:=0) rfl rfl;have v2:W2.cell? ⟨J.heap.size,2,O⟩=E (T t.xa t.xn t.xc):=D.cell (i:=0) rfl rfl;have v3:W2.cell? ⟨J.heap.size,3,O⟩=E (T t.ba t.bn t.bc):=D.cell (i:=0) rfl rfl;have bC:t.un=n:=by rw[<-HN.out,<-OY];exact al.up.1.symm
 have HL:=AA (ack t (AG wss) (AB wss) wss W2 al om bQ.out);rw[HN.out]at HL;have bT:=AA D;have bM:=AA al;have bx:=AA bI;clear a7 aD D al b3 aM bC s0 s1;go_upto_region 7 with(go_at_call 127;refine HL.out.mono ?_;rintro e w3 ⟨q,rfl,hq,cf,ak⟩)
 have ap:La W w3:=bx.out.trans (ak.mono bx.out.size);have aN:=HO.out.below ap;have s0:w3.cell? ⟨w.heap.size,0,O⟩=E (i6 fold):=aN.cell (i:=0) rfl rfl;have s1:w3.cell? ⟨w.heap.size,1,O⟩=E (T a la ca):=aN.cell (i:=0) rfl rfl;have HF:=AA (akJ fold a la ca wss w3 (c8.out.below ap) b1 HM.out HT.out bO.out);rw[af.out]at HF;have bL:=AA (bM.out.below ak);have bo:=AA (bT.out.below ak);have bm:=AA hq;have bw:=AA ap;have cd:J.heap.size<w3.heap.size:=(AD.1 (bo.out 0 _ rfl)).1;have cc:w.heap.size+1<W.heap.size:=(AD.1 (HO.out 1 _ rfl)).1;clear aN v0 v1 v2 v3 hq ak ap;have ax:(Tryz.zeroCells144).size=(((BF fold wss).map (R K)).toArray).size:=by rw[amX,KE,KE,Jc];simp
 have aA:(ZP.info? 144).map (·.size)=E (((BF fold wss).map (R K)).toArray).size:=by rw[KE,Jc];exact aiS
 have bi:=AA ax;have ag:=AA aA;clear ax aA;go_upto_region 10 with (first
  |(refine wpList_store_row rfl 144 _ _ rfl _ _ rfl rfl 144 _ (heap_alloc_new _ _) ag.out bi.out (acS _) ?_)
  |(go_at_call 128;refine HF.out.mono ?_;rintro e w4 ⟨rfl,aL⟩))
 rw[World.setRow_alloc_new];obtain⟨Y,aj⟩:∃Y,Y=w4.alloc (i7 ((BF fold wss).map (R K)).toArray 144):=⟨_,rfl⟩;have aC:La w4 Y:=by rw[aj];exact AL _ _
 have ab:La w3 Y:=aL.trans (aC.mono aL.size);have aW:Hid (Y.heap[w4.heap.size]?=E (i7 ((BF fold wss).map (R K)).toArray 144 (0,0))):=by rw[Hid,aj];exact heap_alloc_new _ _
 have az:w4.heap.size<Y.heap.size:=(AD.1 aW.out).1;rw[<-aj];clear aj;have a8:=bo.out.below ab;have v0:Y.cell? ⟨J.heap.size,0,O⟩=E (T t.ua t.un t.uc):=a8.cell (i:=0) rfl rfl;have v1:Y.cell? ⟨J.heap.size,1,O⟩=E (T t.da t.dn t.dc):=a8.cell (i:=0) rfl rfl;have v2:Y.cell? ⟨J.heap.size,2,O⟩=E (T t.xa t.xn t.xc):=a8.cell (i:=0) rfl rfl;have v3:Y.cell? ⟨J.heap.size,3,O⟩=E (T t.ba t.bn t.bc):=a8.cell (i:=0) rfl rfl;have aS:=AA (bL.out.below ab);have aV:Hid (Lw t Y.heap.size):=by
  have hp:0<(AB wss).length:=by rw[HN.out];exact ay
  exact anf aS.out (by simpa[AG]using hp) (by simpa[AG]using hp) (by simpa[AG]using hp) (by simpa[AG]using hp)
 have av:Hid (AU q (Bo wss) Y):=(ab.block q bm.out.lt).trans bm.out;have ac:=bw.out.trans (ab.mono bw.out.size);have aU:Hid (Y.heap[w.heap.size+1]?=E (i7 Tryz.zeroCells146 146 (0,0))):=(HO.out.below ac) 1 _ rfl;have aH:=AA (hB.trans (ac.mono hB.size));have a2:w.heap.size+1<Y.heap.size:=(AD.1 aU.out).1;clear a8 ab aC aL s0 s1 ac hB;obtain⟨Z,hZ⟩:∃Z,(Dn (List.replicate 256 0) 0 (T O 0 0) t (T (E ⟨q,0,O⟩) n n)).toArray=Z:=⟨_,rfl⟩;have bu:Hid (ZP.built 227 [(1,Value.agg #[T t.ua t.un t.uc,T t.da t.dn t.dc,T t.xa t.xn t.xc,T t.ba t.bn t.bc]),(2,T (E ⟨q,0,O⟩) n n)]=E Z):=by rw[Hid,anl,hZ]
 have aR:Hid (Z.size=263):=by rw[Hid,<-hZ];exact ajt sm _ _ _ _
 have au:Hid (Z.all (·.oneCell')=G):=by rw[Hid,<-hZ];exact akK _ _ _ _ _ rfl rfl
 have ae:Hid ((ZP.info? 227).map (·.size)=E Z.size):=by rw[Hid,aR.out];exact aol
 have aq:Hid (Tryz.zeroCells227.size=Z.size):=by rw[Hid,aR.out];exact aox
 have ar:=AA hZ;clear hZ
 iterate 7 (first|go_values|go_skip|go_guarded|go_step)
 refine abA rfl 227 _ rfl Z (by go_simp;exact bu.out) ?_
 iterate 3 (first|go_values|go_skip|go_guarded|go_step)
 refine wpList_store_row rfl 227 _ _ rfl Y.heap.size Z rfl rfl 227 _ (heap_alloc_new _ _) ae.out aq.out au.out ?_;rw[World.setRow_alloc_new];obtain⟨U,ai⟩:∃U,U=Y.alloc (i7 Z 227):=⟨_,rfl⟩;have X:La Y U:=by rw[ai];exact AL _ _
 have aa:Mk U Y.heap.size (List.replicate 256 0) 0 (T O 0 0) t (T (E ⟨q,0,O⟩) n n):=⟨by rw[ai,ar.out];exact heap_alloc_new _ _,by simp⟩;have aw:Y.heap.size<U.heap.size:=aa.lt;have bt:Hid (U.heap[w4.heap.size]?=E (i7 ((BF fold wss).map (R K)).toArray 144 (0,0))):=(X.block _ az).trans aW.out;have bg:=AA (aS.out.below X);have bl:Hid (AU q (Bo wss) U):=(X.block q av.out.lt).trans av.out;have b0:=av.out.lt;have aE:Hid (U.heap[w.heap.size+1]?=E (i7 Tryz.zeroCells146 146 (0,0))):=(X.block _ a2).trans aU.out;have bv:Hid (La w U):=aH.out.trans (X.mono om);rw[<-ai];obtain⟨MH,b5⟩:∃MH,Y.heap.size=MH:=⟨_,rfl⟩;rw[b5]at aa aV aw a2 b0⊢;have aK:=aa.box;rw[Kb]at aK;have bq:Hid (((BF fold wss).map (R K)).length=((List.replicate 256 (0:Int)).map (R K)).length):=by rw[Hid,BP,BP,Jc,CS]
 have aG:=AA aK;have bW:=AA aa;clear ai X aW aS av aU aH ae aq au aR bu ar v0 v1 v2 v3 aK aa az b5;go_upto_region 11 with fail
 iterate 1 (first|go_values|go_skip|go_guarded|go_step)
 refine wpList_load_row rfl 144 _ rfl w4.heap.size rfl 144 _ (0,0) _ bt.out underlying144 rfl ag.out ?_
 iterate 9 (first|go_values|go_skip|go_guarded|go_step)
 refine aaN rfl 144 _ _ rfl MH ((BF fold wss).map (R K)) _ _ rfl rfl 227 aG.out bq.out ag.out (acS _) ?_;rw[<-Kb];obtain⟨w7,a1⟩:∃w7,w7=U.setRow MH (Dn (BF fold wss) 0 (T O 0 0) t (T (E ⟨q,0,O⟩) n n)).toArray:=⟨_,rfl⟩;have ao:Mk w7 MH (BF fold wss) 0 (T O 0 0) t (T (E ⟨q,0,O⟩) n n):=⟨by rw[a1];exact setRow_heap U MH _ _ _ _ bW.out.box,Jc _ _⟩;have b9:RowKit.Below MH U w7:=by rw[a1];exact MF (AH _ _) (AC _) _
 have bN:Hid (w7.heap.size=U.heap.size):=by rw[Hid,a1,setRow_size]
 rw[<-a1];have bf:=ao.cells.1;have bd:=ao.frozen 256;have bV:=AA ao;have c6:=AA b9;clear a1 ao b9 bt aG bq;go_upto_region 12 with fail
 obtain⟨B,j⟩:∃B,B=w7.setCell ⟨MH,256,O⟩ (R K (m:Int)):=⟨_,rfl⟩;have am:Mk B MH (BF fold wss) (m:Int) (T O 0 0) t (T (E ⟨q,0,O⟩) n n):=by rw[j];exact bV.out.setMany _
 have b8:RowKit.Below MH U B:=by rw[j];exact c6.out.setCell (AC _) _
 have aY:B.heap.size=U.heap.size:=by rw[j];simpa using bN.out
 rw[<-j];have bh:=AA aY;clear aY;have be:=am.cells.2.1;have bb:=am.frozen 257;have b7:MH<B.heap.size:=by rw[bh.out];exact aw
 have bU:=AA am;have bZ:=AA b8;have bF:∀V:Wa,(Instr.makeSlice 30 (R K Q) (R K Q)).run ZP V=.ok (T (E ⟨V.heap.size,0,O⟩) Q Q) (V.alloc (i7 (GE Q) 3)):=λV=>by
  obtain⟨i0,hi,bB,I,bA⟩:=Vh JS;have h:=run_makeSlice (P:=ZP) (w:=V) 30 3 i0 (.int .i64 0) underlying30 hi bB .i64 .i64 (Q:Int) (Q:Int) om om (by rw[I];omega) (by rw[bA];omega) om;rw[I]at h;have e1:(Q:Int).toNat*1=Q:=by omega
  rw[e1,Nc,Aa]at h;exact h
 clear j am b8 bf bd;go_upto_region 13 with fail
 obtain⟨Ra,hR⟩:∃Ra,B.heap.size=Ra:=⟨_,rfl⟩;rw[hR];have c9:U.heap.size=Ra:=bh.out.symm.trans hR;obtain⟨C,H⟩:∃C,C=(B.setCell ⟨MH,257,O⟩ (T (E ⟨Ra,0,O⟩) Q Q)).alloc (i7 (GE Q) 3):=⟨_,rfl⟩;have aX:(B.setCell ⟨MH,257,O⟩ (T (E ⟨Ra,0,O⟩) Q Q)).heap.size=Ra:=by simp[hR]
 have aT:=AA aX;clear aX;have aB:RowKit.Below MH B C:=by rw[H];exact((AH MH B).setCell (p:=⟨MH,257,O⟩) (AC _) _).alloc (by rw[aT.out,<-hR];exact DP b7) _
 have b6:Mk C MH (BF fold wss) (m:Int) (T (E ⟨Ra,0,O⟩) (m*n) (m*n)) t (T (E ⟨q,0,O⟩) n n):=by rw[H,HQ.out];exact(bU.out.setRows _).below (AL _ _)
 have b4:AU Ra (List.replicate Q 0) C:=by have h:=AU.new (B.setCell ⟨MH,257,O⟩ (T (E ⟨Ra,0,O⟩) Q Q)) Q;rw[aT.out]at h;rw[H];exact h
 have ce:C.heap.size=Ra+1:=by rw[H,DN,aT.out]
 rw[<-H];have N:RowKit.Below MH U C:=bZ.out.trans aB;have bK:=AA (bg.out.keep N om aV.out);have bS:Hid (AU q (Bo wss) C):=(N.block q b0).trans bl.out;have bk:Hid (C.heap[w.heap.size+1]?=E (i7 Tryz.zeroCells146 146 (0,0))):=(N.block _ a2).trans aE.out;have bY:Hid (La w C):=bv.out.trans (N.mono om);have aF:Hid (Lw t Ra):=λa h=>Af (aV.out a h) om;have aP:MH<Ra:=by omega
 have aZ:q<Ra:=by omega
 have bp:=AA b6;have bR:=AA b4;clear bF be bb H aB b6 b4 N bg bl aE bv hR e1;have bX:Hid (∀(V:Wa)(i:Nat),i<n->AU Ra (IR fold wss i) V->RowKit.Below Ra C V->Calls ZP 129 #[L (E ⟨MH,0,O⟩),R K (i:Int)] V λe w'=>e=ra (ta #[])/\AU Ra (IR fold wss (i+1)) w'/\RowKit.Below Ra V w'):=λV i hi hr hb=>by have hX:=Ar (show i<(AB wss).length by rw[HN.out];exact hi);have h:=ah2 t (AG wss) MH Ra q n m i (BF fold wss) (IR fold wss i) (Bo wss) V (bK.out.keep hb om aF.out) (by simp[AG]) (by rw[OY,HN.out];omega) (bp.out.keep hb aP) (λc v hv=>by have:=anU HG.out c v hv;rw[af.out]at this;exact this) ⟨aP,aZ⟩ aF.out ((hb.block q aZ).trans bS.out) (by rw[JO,HN.out]) hr (by rw[(Mr HG.out c7.out (i:=i) (by rw[HN.out];omega)).1,af.out,HN.out]) hi om a6.1 om (λh0=>by obtain⟨k,h1,h2,_⟩:=ada hX h0;exact⟨k,h1,by omega⟩);rw[<-af.out]at h;exact h
 go_wp2_with fail
 go_loopw[10,54] (λcb bz wr=>∃i:Nat,i<=n/\bz=R K i/\Hid (AU Ra (IR fold wss i) wr)/\Hid (RowKit.Below Ra C wr)) (λ_ s _=>n-(intOf s).toNat)
 case atStart=>exact⟨0,AR _,rfl,by show AU Ra (List.replicate (Ah fold wss*(AB wss).length) 0) _;rw[af.out,HN.out,HQ.out];exact bR.out,AH _ _⟩
 case round=>
  obtain⟨i,hi,rfl,hr,hb⟩:=hrel
  by_cases bG:i<n
  ·have hd:decide ((i:Int)<(n:Int))=G:=by simp;omega
   go_wp2_with (go_at_call 129;refine(bX.out wr i bG hr.out hb.out).mono ?_;rintro e wf ⟨rfl,bD,bH⟩)
   go_roundw
   case rel=>exact⟨i+1,by omega,by go_num,bD,hb.out.trans bH⟩
   case measure=>simp[intOf];omega
  ·obtain rfl:i=n:=by omega
   have hd:decide ((i:Int)<(i:Int))=M:=by simp
   have aO:=(bp.out.keep hb.out aP).box;rw[ajz,HQ.out]at aO;have aI:=ab4 aO;have A:(dvC (BF fold wss) (m:Int) (T (E ⟨Ra,0,O⟩) Q Q)).toArray.size=258:=Ko (Jc _ _) _ _;have I:=afb (BF fold wss) (m:Int) (T (E ⟨Ra,0,O⟩) Q Q) rfl;obtain⟨Z,hZ⟩:∃Z,dvC (BF fold wss) (m:Int) (T (E ⟨Ra,0,O⟩) Q Q)=Z:=⟨_,rfl⟩;rw[hZ]at aI A I;have bP:=AA aI;have au:=AA I;have ae:Hid ((ZP.info? 146).map (·.size)=E Z.toArray.size):=by rw[Hid,A];exact Nl
   have bJ:Hid ((ZP.info? 146).map (·.size)=E (lc Z)):=by rw[Hid,show lc Z=258 by simpa using A];exact Nl
   have aq:Hid (Tryz.zeroCells146.size=Z.toArray.size):=by rw[Hid,A,amP];exact Ko sm _ _
   have ar:=AA hZ;have bj:Hid (wr.heap[w.heap.size+1]?=E (i7 Tryz.zeroCells146 146 (0,0))):=(hb.out.block _ om).trans bk.out;have H2:=AA (setRow_heap wr (w.heap.size+1) _ Z.toArray _ _ bj.out);clear aO aI A I hZ;go_upto_region 18 with fail
   iterate 4 (first|go_values|go_skip|go_guarded|go_step)
   refine wpList_load_mid rfl 146 _ rfl MH 0 rfl Z _ bP.out underlying146 rfl bJ.out ?_;refine wpList_store_row rfl 146 _ _ rfl (w.heap.size+1) Z.toArray rfl rfl 146 _ bj.out ae.out aq.out au.out ?_
   go_wp2_with fail
   refine Vi (ace rfl rfl H2.out ae.out) rfl ?_;refine⟨Ra,by rw[ar.out];rfl,?_,by omega,MF (bY.out.trans (hb.out.mono om)) om _⟩;have hf:AU Ra (FN fold wss) wr:=by show AU Ra (IR fold wss (AB wss).length) wr;rw[HN.out];exact hr.out
   exact(setRow_other _ _ _ _ om).trans hf
def fcB(fold:Bool)(c:Int):Int:=if fold=G then BE c else c
theorem Nm(fold:Bool)(b:List Int):AO fold b=b.map (fcB fold):=by
 unfold AO fcB
 cases fold<;>simp
theorem al5{fold:Bool}{c:Nat}(Z:c<256):∃d:Nat,fcB fold (c:Int)=(d:Int)/\d<256:=by
 unfold fcB BE
 cases fold
 ·exact⟨c,by simp,Z⟩
 ·by_cases h:(65:Int)<=(c:Int)/\(c:Int)<=90
  ·refine⟨c+32,?_,by omega⟩;rw[Lq rfl,Lq h];omega
  ·exact⟨c,by rw[Lq rfl,Lc h],Z⟩
theorem amK{fold:Bool}{ws:Lb}(Z:Fe fold ws){c:Int}:inB fold ws c=G↔De ws (fcB fold c):=by
 rw[afs];unfold fcB BE CF
 cases fold with
 |false=>simp
 |true=>
  have g:=Z rfl;simp only[if_true,decide_eq_true_iff,true_and]
  constructor
  ·rintro⟨x,h1,h2⟩;have Y:=g x h1
   rcases h2 with rfl|⟨h3,h4⟩
   ·rw[Lc Y];exact h1
   ·rw[Lq om,show c+32=x by omega];exact h1
  ·intro h
   split at h
   ·exact⟨c+32,h,.inr ⟨by omega,by omega⟩⟩
   ·exact⟨c,h,.inl rfl⟩
theorem anJ{fold:Bool}{ws:Lb}{c d:Nat}(h:fcB fold (c:Int)=(d:Int)):DA (inB fold ws) fold c=DA (inB fold ws) fold d:=by
 unfold DA;have e:EJ fold c=EJ fold d:=by
  unfold EJ CF;unfold fcB BE at h
  cases fold with
  |false=>simp at h;simp;omega
  |true=>
   simp only[if_true]at h;simp only[FJ,decide_eq_true_iff]
   split at h
   ·rw[Lc om,Lq om];omega
   ·have:c=d:=by omega
    rw[this]
 rw[e]
theorem aow{fold:Bool}{ws:Lb}(X:Fe fold ws){c:Nat}(Y:c<256):(BF fold ws)[c]?=E (if inB fold ws c=G then(DA (inB fold ws) fold c:Int) else 0):=by
 cases Z:inB fold ws (c:Int)with
 |false=>rw[Lc sm];exact amJ Z Y
 |true=>rw[Lq rfl];exact ag8 (IF X) Z Y
theorem anr{ws:Lb}{x:List Int}{c:Int}(h:¬De ws c):lsf (AB ws) (x++[c])=[]:=by
 have h0:([]:List Int)∈AB ws:=(DT ws).2 (.inl rfl);refine aaP h0 (List.nil_suffix) h0 (λz Z X=>?_)
 rcases List.eq_nil_or_concat z with rfl|⟨y,d,rfl⟩
 ·simp
 ·exfalso
  rw[List.concat_eq_append]at Z X;obtain⟨t,Y⟩:=Z;rw[<-CE]at Y;have:=(List.append_inj' Y rfl).2;have e:d=c:=by simpa using this
  subst e;exact h (Lp X)
def KT(ws:Lb)(x:List Int):Int:=CW (AB ws) x
theorem agm{ws:Lb}{j:Nat}{x:List Int}(h:(AB ws)[j]?=E x):KT ws x=(j:Int):=CV (CL ws).nodup h
theorem anI{ws:Lb}{x:List Int}(h:x∈AB ws):∃j:Nat,(AB ws)[j]?=E x/\KT ws x=(j:Int)/\j<(AB ws).length:=by obtain⟨j,Z⟩:=DR h;exact⟨j,Z,agm Z,(AP.1 Z).1⟩
structure OkT(fold:Bool)(ws:Lb):Prop where
 great:Fe fold ws
 byt:∀x,De ws x->0<=x/\x<=255
 pos:0<(AB ws).length
theorem OZ{fold:Bool}{ws:Lb}(h:OkT fold ws):(FN fold ws).length=Ah fold ws*(AB ws).length:=(Mr h.great h.byt (AC _)).1
theorem agI(fold:Bool)(ws:Lb):1<=Ah fold ws:=(Hb _ _ _).1
theorem Oi{fold:Bool}{ws:Lb}(h:OkT fold ws):Hu (Ah fold ws) (FN fold ws).length=((AB ws).length:Int):=by have:=agI fold ws;unfold Hu;rw[OZ h,Lc om,<-Int.natCast_ediv,Nat.mul_div_cancel_left _ om]
theorem aju{fold:Bool}{ws:Lb}(h:OkT fold ws){j:Nat}{x:List Int}(N:(AB ws)[j]?=E x){c:Nat}(U:c<256) :goD (BF fold ws) (Ah fold ws) (FN fold ws) j c=E (KT ws (lsf (AB ws) (x++[fcB fold c]))):=by
 have B:=(AP.1 N).1;have C:=agI fold ws;obtain⟨h1,h2⟩:=aoy h.great h.byt N;obtain⟨v,H⟩:∃v:Nat,(BF fold ws)[c]?=E (v:Int)/\v<Ah fold ws/\(FN fold ws)[j*Ah fold ws+v]?=E (KT ws (lsf (AB ws) (x++[fcB fold c]))):=by
  rw[aow h.great U]
  by_cases Z:inB fold ws (c:Int)=G
  ·rw[Lq Z];refine⟨_,rfl,ME (IF h.great) Z U,?_⟩;obtain⟨d,J,D⟩:=al5 (fold:=fold) U;have Y:=(amK h.great).1 Z;rw[J]at Y⊢;rw[anJ J];exact h2 d Y
  ·rw[Lc Z];refine⟨0,rfl,by omega,?_⟩;rw[anr (λY=>Z ((amK h.great).2 Y)),agm (CM ws),DQ];exact h1
 obtain⟨V,I,X⟩:=H;unfold goD;rw[Oi h,V,CG,Lc (by rintro((h|h)|(h|h))<;>omega)];rw[show((j:Int)*(Ah fold ws:Int)+(v:Int)).toNat=j*Ah fold ws+v by rw[<-Iy];omega];exact X
theorem anF{fold:Bool}{ws:Lb}(h:OkT fold ws){j:Int}(Z:j<0∨((AB ws).length:Int)<=j)(c:Nat):goD (BF fold ws) (Ah fold ws) (FN fold ws) j c=O:=by unfold goD;rw[Oi h,Lq (.inr Z)]
theorem okT{fold:Bool}{ws:Lb}(Z:An fold ws=G)(Y:∀x∈ws,∀c∈x,0<=c/\c<=255):OkT fold ws:=⟨acv (Fv Z).2,λx ⟨w,h1,h2⟩=>Y w h1 x h2,apG.2 (Lo ws)⟩
section
open Go Go.RowKit Go.Sort
def nxN(LO wd:List Int):Nat->Nat->Nat
 |0,_=>0
 |f+1,z=>if z=0 then 0 else if 0<=(wd[((LO[z]?).getD 0).toNat]?).getD (-1) then((LO[z]?).getD 0).toNat else nxN LO wd f ((LO[z]?).getD 0).toNat
theorem Ll(LO wd:List Int)(f:Nat):nxN LO wd f 0=0:=by cases f<;>simp[nxN]
theorem agR{LO wd:List Int}{B:Nat}(Z:∀z,0<z->z<=B->((LO[z]?).getD 0).toNat<z):∀{f g z:Nat},z<=B->z<=f->z<=g->nxN LO wd f z=nxN LO wd g z
 |0,g,z,hb,hf,hg=>by
  obtain rfl:z=0:=by omega
  rw[Ll,Ll]
 |f+1,0,z,hb,hf,hg=>by
  obtain rfl:z=0:=by omega
  rw[Ll,Ll]
 |f+1,g+1,z,hb,hf,hg=>by
  unfold nxN
  by_cases h0:z=0
  ·rw[Lq h0,Lq h0]
  ·rw[Lc h0,Lc h0];have:=Z z om hb
   split
   ·rfl
   ·exact agR Z om om om
def nx(ws:Lb)(z:Nat):Nat:=nxN (Bo ws) (AG ws).wrd z z
def Bk(ws:Lb):List Int:=(List.range (AB ws).length).map λz=>(nx ws z:Int)
section
variable {ws:Lb}
theorem Nh{z:Nat}{x:List Int}(Y:(AB ws)[z]?=E x):∃k:Nat,(Bo ws)[z]?=E (k:Int)/\(z=0->k=0)/\(0<z->k<z)/\(AB ws)[k]?=E (EC (AB ws) x):=by
 by_cases h0:z=0
 ·subst h0;have Z:=(EM Y).1 rfl;subst Z;have X:Gc ws []=0:=CV (CL ws).nodup (CM ws);exact⟨0,by rw[JP Y,X];rfl,λ_=>rfl,λh=>absurd h (Nat.lt_irrefl 0),CM ws⟩
 ·obtain⟨k,h1,h2,h3⟩:=(aiJ ws (z+1)).at_ (Nat.lt_succ_self z) Y h0;exact⟨k,h1,λh=>absurd h h0,λ_=>h2,h3⟩
theorem agw{z:Nat}(h0:0<z)(Z:z<(AB ws).length):(((Bo ws)[z]?).getD 0).toNat<z:=by
 obtain⟨k,h1,_,h3,_⟩:=Nh (ws:=ws) (z:=z) (x:=(AB ws)[z]) sm;rw[h1]
 simpa using h3 h0
theorem Lk(ws:Lb):nx ws 0=0:=Ll _ _ _
theorem ajZ{z k:Nat}(h0:0<z)(Y:z<(AB ws).length)(hk:(Bo ws)[z]?=E (k:Int)){v:Int}(X:(AG ws).wrd[k]?=E v):nx ws z=if 0<=v then k else nx ws k:=by
 obtain⟨f,rfl⟩:∃f,z=f+1:=⟨z-1,by omega⟩;have Z:=agw h0 Y;unfold nx
 conv=>lhs;unfold nxN
 rw[hk,CG,Aa]at Z⊢;rw[Lc om,X,CG]
 split
 ·rfl
 ·exact agR (B:=f) (λz h1 h2=>agw h1 om) om om (AC _)
theorem Jt(ws:Lb):(AG ws).wrd.length=(AB ws).length/\(AG ws).dep.length=(AB ws).length/\(AG ws).up.length=(AB ws).length/\(AG ws).byt.length=(AB ws).length:=by simp[AG]
theorem aom:∀{z:Nat}{x:List Int},(AB ws)[z]?=E x->∃y,(AB ws)[nx ws z]?=E y/\(0<z->nx ws z<z/\lc y<lc x)/\(0<nx ws z->∃v:Int,(AG ws).wrd[nx ws z]?=E v/\0<=v):=by
 intro z
 induction z using Nat.strongRecOn with
 |_ z ih=>
  intro x J;have D:=(AP.1 J).1
  by_cases h0:z=0
  ·subst h0;exact⟨[],by rw[Lk];exact CM ws,λh=>absurd h (Nat.lt_irrefl 0),λh=>by rw[Lk]at h;exact absurd h (Nat.lt_irrefl 0)⟩
  ·obtain⟨k,h1,_,h3,h4⟩:=Nh J;have Y:x≠[]:=λe=>h0 ((EM J).2 e);have B:=Lx (N:=AB ws) Y;have X:=h3 om;obtain⟨v,H⟩:∃v,(AG ws).wrd[k]?=E v:=⟨(AG ws).wrd[k]'(by rw[(Jt ws).1];omega),by simp⟩;have V:=ajZ om D h1 H
   by_cases Z:0<=v
   ·rw[Lq Z]at V;rw[V];exact⟨_,h4,λ_=>⟨X,B⟩,λ_=>⟨v,H,Z⟩⟩
   ·rw[Lc Z]at V;obtain⟨y,U,e2,A⟩:=ih k X h4;rw[V];refine⟨y,U,λ_=>?_,A⟩
    by_cases I:k=0
    ·subst I;rw[Lk]at U⊢;rw[CM]at U;have C:=AK U;rw[<-C];refine⟨by omega,?_⟩;have:lc x≠0:=λe=>Y (Bz e);simp;omega
    ·obtain⟨j,s⟩:=e2 om;exact⟨by omega,by omega⟩
theorem ID{z:Nat}(Z:z<(AB ws).length):(Bk ws)[z]?=E (nx ws z:Int):=by simp[Bk,Z]
theorem aim(ws:Lb):(Bk ws).length=(AB ws).length:=by simp[Bk]
end
def Ed(nxt wd:List Int):Nat->Nat->List Nat
 |0,_=>[]
 |f+1,z=>if z=0 then [] else(if 0<=(wd[z]?).getD (-1) then [z] else [])++Ed nxt wd f ((nxt[z]?).getD 0).toNat
theorem JZ(nxt wd:List Int)(f:Nat):Ed nxt wd f 0=[]:=by cases f<;>simp[Ed]
theorem aaK(nxt wd:List Int)(f z:Nat):Ed nxt wd (f+1) z=if z=0 then [] else(if 0<=(wd[z]?).getD (-1) then [z] else [])++Ed nxt wd f ((nxt[z]?).getD 0).toNat:=rfl
theorem acq{nxt wd:List Int}{B:Nat}(Z:∀z,0<z->z<=B->((nxt[z]?).getD 0).toNat<z):∀{f g z:Nat},z<=B->z<=f->z<=g->Ed nxt wd f z=Ed nxt wd g z
 |0,g,z,hb,hf,hg=>by
  obtain rfl:z=0:=by omega
  rw[JZ,JZ]
 |f+1,0,z,hb,hf,hg=>by
  obtain rfl:z=0:=by omega
  rw[JZ,JZ]
 |f+1,g+1,z,hb,hf,hg=>by
  unfold Ed
  by_cases h0:z=0
  ·rw[Lq h0,Lq h0]
  ·rw[Lc h0,Lc h0];have:=Z z om hb;rw[acq Z (show((nxt[z]?).getD 0).toNat<=B by omega) (show _<=f by omega) (show _<=g by omega)]
theorem abd(nxt wd:List Int):∀(f z:Nat),(Ed nxt wd f z).length<=f
 |0,z=>by simp[Ed]
 |f+1,z=>by
  unfold Ed
  split
  ·simp
  ·have:=abd nxt wd f ((nxt[z]?).getD 0).toNat;rw[List.length_append]
   split<;>simp<;>omega
def Fh(ws:Lb)(z:Nat):List Nat:=Ed (Bk ws) (AG ws).wrd z z
theorem NW{ws:Lb}{z:Nat}(h0:0<z)(Z:z<(AB ws).length):(((Bk ws)[z]?).getD 0).toNat<z:=by rw[ID Z,CG,Aa];obtain⟨y,_,h,_⟩:=aom (ws:=ws) (z:=z) (x:=(AB ws)[z]) sm;exact(h h0).1
theorem akm{ws:Lb}{z:Nat}(h0:0<z)(Y:z<(AB ws).length):Fh ws z=(if 0<=((AG ws).wrd[z]?).getD (-1) then [z] else [])++Fh ws (nx ws z):=by obtain⟨f,rfl⟩:∃f,z=f+1:=⟨z-1,by omega⟩;have Z:=NW h0 Y;unfold Fh;rw[aaK,Lc om];rw[ID Y,CG,Aa]at Z⊢;congr 1;exact acq (B:=f) (λz h1 h2=>NW h1 om) om om (AC _)
end
def nTo(P:List Int)(n j:Nat):List Int:=P.take j++List.replicate (n-j) 0
theorem anz{P:List Int}{n j:Nat}(Z:lc P=n)(Y:j<=n):(nTo P n j).length=n:=by unfold nTo;rw[List.length_append,Ag,CS];omega
theorem aoJ{P:List Int}{n j i:Nat}(Z:i<j)(X:j<=n)(Y:lc P=n):(nTo P n j)[i]?=P[i]?:=by unfold nTo;rw[By (by rw[Ag];omega),FT,Lq Z]
theorem an7{P:List Int}{n:Nat}(h1:1<=n)(h0:P[0]?=E 0):nTo P n 1=List.replicate n 0:=by obtain⟨m,rfl⟩:∃m,n=m+1:=⟨n-1,by omega⟩;have Z:=As h0;unfold nTo;rw[Z,Ip];simp
theorem ano{P:List Int}{n j:Nat}{v:Int}(V:lc P=n)(U:j<n)(Z:P[j]?=E v):(nTo P n j).set j v=nTo P n (j+1):=by
 unfold nTo;obtain⟨m,Y⟩:∃m,n-j=m+1:=⟨n-j-1,by omega⟩;have X:(P.take j).length=j:=by rw[Ag];omega
 rw[Jm _ _ om,X,FG,Y,Ip,List.set_cons_zero,As Z,show n-(j+1)=m by omega,CE]
 rfl
theorem anP{P:List Int}{n:Nat}(Z:lc P=n):nTo P n n=P:=by unfold nTo;rw[FG,List.replicate_zero,Cx,Ap om]
structure OD(W:World)(base g:Nat)(t:TV)(ws:Lb):Prop where
 ex:∃q:Nat,W.heap[g]?=some (.cells #[T t.ua t.un t.uc,T t.da t.dn t.dc,T t.xa t.xn t.xc,T t.ba t.bn t.bc,T (some ⟨q,0,none⟩) (AB ws).length (AB ws).length] 238 (0,0))/\AU q (Bk ws) W/\base<=g/\base<=q
theorem OD.below{W V:Wa}{base g:Nat}{t:TV}{ws:Lb}(h:OD W base g t ws)(Z:La W V):OD V base g t ws:=by obtain⟨q,h1,h2,h3⟩:=h.ex;exact⟨q,(Z.block g (AD.1 h1).1).trans h1,(Z.block q (AD.1 (show W.heap[q]?=_ from h2)).1).trans h2,h3⟩
theorem ae2(t:TV)(Ta:Ay)(sp ws:Lb)(w:Wa)(hT:Tri w t Ta)(hb:t.un<=140737488351232)(hr:CI Ta=E (sp,ws)) :Calls ZP 133 #[i8 t.cells] w λe w'=>∃g,e=ra (ta #[L (E ⟨g,0,O⟩),i6 G])/\OD w' w.heap.size g t ws/\La w w':=by
 have a6:=Hx hr;obtain⟨_,ac,_⟩:=Fy.1 hr;obtain⟨ua,un,uc,da,dn,dc,xa,xn,xc,ba,bn,bc⟩:=t;have Y:xn=(AB ws).length:=by have:=hT.wrd.1;rw[ac]at this;simp[AG]at this;exact this.symm
 have au:=AA Y;clear Y;have a7:1<=(AB ws).length:=by have:=Lo ws;have:(AB ws).length≠0:=λe=>this (Bz e);omega
 obtain⟨W,hW⟩:∃W,W=w.alloc (i7 #[T ua un uc,T da dn dc,T xa xn xc,T ba bn bc] 150):=⟨_,rfl⟩;have hB:La w W:=by rw[hW];exact AL _ _
 have hQ:W.heap[w.heap.size]?=E (i7 #[T ua un uc,T da dn dc,T xa xn xc,T ba bn bc] 150 (0,0)):=by rw[hW];exact AT _ _
 have c0:W.cell? ⟨w.heap.size,0,O⟩=E (T ua un uc):=by simp[cell?,hQ]
 have c1:W.cell? ⟨w.heap.size,1,O⟩=E (T da dn dc):=by simp[cell?,hQ]
 have c2:W.cell? ⟨w.heap.size,2,O⟩=E (T xa xn xc):=by simp[cell?,hQ]
 have c3:W.cell? ⟨w.heap.size,3,O⟩=E (T ba bn bc):=by simp[cell?,hQ]
 have HC:=AA (ack _ Ta sp ws W (hT.below hB) hb hr);have aL:Hid (Sl1 (R K) w xa xn (AG ws).wrd):=by rw[Hid,<-ac];exact hT.wrd
 clear hT hr ac;go_enter func133,ntmps133;go_upto_region 1 with fail
 rw[<-hW];clear hW
 go_wp2_with fail
 refine HC.out.mono ?_;rintro e A ⟨q0,rfl,a1,aQ,ab⟩;have D:=hB.trans (ab.mono hB.size);have X:A.heap[w.heap.size]?=_:=(ab.block _ (AD.1 hQ).1).trans hQ;clear c0 c1 c2 c3 hQ HC hB ab;have aM:=AA (aL.out.below D);have aN:=AA X;obtain⟨n,a2⟩:∃n,(AB ws).length=n:=⟨_,rfl⟩;have N:=AA a2;have Y:=au.out;rw[a2]at a6 a7 Y⊢;clear au
 replace Y:=Y.symm
 subst Y;have aA:∀V:Wa,(Instr.makeSlice 30 (R K n) (R K n)).run ZP V=.ok (T (E ⟨V.heap.size,0,O⟩) n n) (V.alloc (i7 (GE n) 3)):=λV=>by
  obtain⟨i0,hi,ax,ae,aw⟩:=Vh JS;have h:=run_makeSlice (P:=ZP) (w:=V) 30 3 i0 (.int .i64 0) underlying30 hi ax .i64 .i64 (n:Int) (n:Int) om om (by rw[ae];omega) (by rw[aw];omega) om;rw[ae]at h;have e1:(n:Int).toNat*1=n:=by omega
  rw[e1,Nc,Aa]at h;exact h
 clear a2;have al:w.heap.size<A.heap.size:=(AD.1 X).1;have aj:w.heap.size≠A.heap.size:=by omega
 have ak:w.heap.size<A.heap.size+1:=by omega
 have c0:A.cell? ⟨w.heap.size,0,O⟩=E (T ua un uc):=by simp[cell?,X]
 have c1:A.cell? ⟨w.heap.size,1,O⟩=E (T da dn dc):=by simp[cell?,X]
 have c2:A.cell? ⟨w.heap.size,2,O⟩=E (T xa n xc):=by simp[cell?,X]
 have c3:A.cell? ⟨w.heap.size,3,O⟩=E (T ba bn bc):=by simp[cell?,X]
 go_upto_region 4 with fail
 go_cut[6] (λs6 wx=>∃g q:Nat,s6=L (E ⟨g,0,O⟩)/\wx.heap[g]?=E (i7 #[T ua un uc,T da dn dc,T xa n xc,T ba bn bc,T (E ⟨q,0,O⟩) n n] 238 (0,0))/\AU q (List.replicate n 0) wx/\g≠q/\A.heap.size<=g/\A.heap.size<=q/\La A wx)
 case first=>
  go_region
  all_goals
   go_wp2_with fail
   go_meet
   refine⟨A.heap.size+1,A.heap.size,rfl,Hf sm _,?_,by omega,by omega,by omega,?_⟩
   ·exact(Bg _ _ _ sm).trans (AU.new A n)
   ·exact((AL A _).alloc sm _).trans ⟨rfl,rfl,rfl,AC _,λ_ _=>rfl⟩
 case rest=>
  obtain⟨g,q,rfl,hg,H,aE,aV,ag,Z⟩:=hcut;clear c0 c1 c2 c3 aA aj ak X;have aq:∀V:Wa,La A V->AU q0 (Bo ws) V:=λV hV=>(hV.block q0 (AD.1 (show A.heap[q0]?=_ from a1)).1).trans a1;have aP:=AA aq;have aO:Hid ((Bk ws)[0]?=E 0):=by rw[Hid,ID (by rw[N.out];omega),Lk];rfl
  have C:Hid ((Bk ws).length=n):=by rw[Hid,aim,N.out]
  have ai:AU q (nTo (Bk ws) n 1) wc:=by rw[an7 a7 aO.out];exact H
  clear aq H a1;go_wp2
  go_loopw[7] (λs7 wr=>∃j:Nat,1<=j/\j<=n/\s7=R K j/\wr.heap[g]?=E (i7 #[T ua un uc,T da dn dc,T xa n xc,T ba bn bc,T (E ⟨q,0,O⟩) n n] 238 (0,0))/\AU q (nTo (Bk ws) n j) wr/\La A wr) (λs _=>n-(intOf s).toNat)
  case atStart=>exact⟨1,AC _,a7,rfl,hg,ai,Z⟩
  case round=>
   clear hg ai Z;obtain⟨j,aT,ao,rfl,hg,H,Z⟩:=hrel
   by_cases aa:j<n
   ·have hd:decide ((j:Int)<n)=G:=by simp;omega
    obtain⟨x,hx⟩:∃x,(AB ws)[j]?=E x:=⟨(AB ws)[j]'(by have:=N.out;omega),by simp⟩;obtain⟨k,a8,_,am,aD⟩:=Nh hx;have aC:=am om;obtain⟨b0,o0,v,e0,aB,cv,hv⟩:=DG aM.out (show k<n by omega);have B:=ajZ om (by rw[N.out];exact aa) a8 hv;have U:=ID (ws:=ws) (z:=j) (by rw[N.out];exact aa);rw[B]at U;have aS:wr.cell? ⟨q0,j,O⟩=E (R K (k:Int)):=by rw[cell_of_row wr q0 j _ _ _ (aP.out wr Z)];simp[a8]
    have ap:wr.heap[w.heap.size]?=_:=(Z.block _ al).trans aN.out;have x2:wr.cell? ⟨w.heap.size,2,O⟩=E (T xa n xc):=by simp[cell?,ap]
    subst e0;have aX:wr.cell? ⟨b0,o0+k,O⟩=E (R K v):=(Z.cell (p:=⟨b0,o0+k,O⟩) aB).trans cv;have g4:wr.cell? ⟨g,4,O⟩=E (T (E ⟨q,0,O⟩) n n):=by simp[cell?,hg]
    have ay:=anz (P:=Bk ws) C.out ao;have I:∀(i:Nat)(y:Int),(nTo (Bk ws) n j)[i]?=E y->wr.cell? ⟨q,i,O⟩=E (R K y):=λi y hy=>by rw[cell_of_row wr q i _ _ _ H];simp[hy]
    have aF:wr.frozen? ⟨q,j,O⟩=M:=by simp[frozen?,show wr.heap[q]?=_ from H]
    obtain⟨y0,af⟩:∃y,(nTo (Bk ws) n j)[j]?=E y:=⟨(nTo (Bk ws) n j)[j]'om,by simp⟩;have cj:=I j y0 af;have ck:=I k (nx ws k) (by rw[aoJ aC ao C.out];exact ID (by rw[N.out];omega));have aU:g<wr.heap.size:=(AD.1 hg).1;have az:q<wr.heap.size:=(AD.1 (show wr.heap[q]?=_ from H)).1;have ar:∀z:Int,(Bk ws)[j]?=E z->AU q (nTo (Bk ws) n (j+1)) (wr.setCell ⟨q,j,O⟩ (R K z))/\(wr.setCell ⟨q,j,O⟩ (R K z)).heap[g]?=E (i7 #[T ua un uc,T da dn dc,T (E ⟨b0,o0,O⟩) n xc,T ba bn bc,T (E ⟨q,0,O⟩) n n] 238 (0,0))/\La A (wr.setCell ⟨q,j,O⟩ (R K z)):=λz hz=>
     ⟨by have:=H.set (j:=j) z;rwa[ano C.out aa hz]at this,(AQ _ _ _ _ (by show g≠q;exact aE)).trans hg,Z.setCell ag _⟩
    have av:=AA ar;have j1:(0:Int)<=(j:Int):=by omega
    have j2:(j:Int)<(n:Int):=by omega
    have k1:(0:Int)<=(k:Int):=by omega
    have k2:(k:Int)<(n:Int):=by omega
    clear ar hx a8 am aD hv B ap I af ay
    by_cases J:0<=v
    ·have dv:decide ((0:Int)<=v)=G:=by simpa using J
     rw[Lq J]at U;obtain⟨f1,f2,f3⟩:=av.out _ U;clear U J;go_wp2
     go_roundw
     case rel=>exact⟨j+1,by omega,by omega,by go_num,f2,f1,f3⟩
     case measure=>simp[intOf];omega
    ·have dv:decide ((0:Int)<=v)=M:=by simpa using J
     rw[Lc J]at U;clear J;go_upto_region 11 with fail
     refine Hw 13 mixed kr ?_;dsimp only[List.take_succ_cons,List.take_zero,List.drop_succ_cons,List.drop_zero]
     repeat (go_big_quiet_step (fail))
     refine wpQuiet_nil ?_;rintro _ ⟨nq,rfl⟩;obtain⟨f1,f2,f3⟩:=av.out _ U;have aG:((wr.drewN nq).setCell ⟨q,j,O⟩ (R K (nx ws k:Int))).heap=(wr.setCell ⟨q,j,O⟩ (R K (nx ws k:Int))).heap:=rfl;have aK:AU q (nTo (Bk ws) n (j+1)) ((wr.drewN nq).setCell ⟨q,j,O⟩ (R K (nx ws k:Int))):=f1;have aJ:((wr.drewN nq).setCell ⟨q,j,O⟩ (R K (nx ws k:Int))).heap[g]?=E (i7 #[T ua un uc,T da dn dc,T (E ⟨b0,o0,O⟩) n xc,T ba bn bc,T (E ⟨q,0,O⟩) n n] 238 (0,0)):=f2;have aI:La A ((wr.drewN nq).setCell ⟨q,j,O⟩ (R K (nx ws k:Int))):=(Z.trans ((AN wr nq).mono Z.size)).setCell ag _;have aY:(wr.drewN nq).cell? ⟨q,j,O⟩=E (R K y0):=cj;have aW:(wr.drewN nq).frozen? ⟨q,j,O⟩=M:=aF;have aR:q<(wr.drewN nq).heap.size:=az;clear f1 f2 f3 aG U;go_wp2
     go_roundw
     case rel=>exact⟨j+1,by omega,by omega,by go_num,aJ,aK,aI⟩
     case measure=>simp[intOf];omega
   ·obtain rfl:j=n:=by omega
    have hd:decide ((j:Int)<j)=M:=by simp
    rw[anP C.out]at H;have aH:=D.trans (Z.mono D.size);have hs:=D.size;go_wp2;go_ret2;exact⟨g,rfl,⟨⟨q,by rw[N.out];exact hg,H,by omega,by omega⟩⟩,aH⟩
section
attribute[local go_sem] Oper.semAt_some
attribute[local simp] Ak Al
attribute[local go_sem] Ak Al
abbrev NdP(n:Nat):={z:Nat // z<n}
def anB{n:Nat}(z:NdP n):Array Vk:=#[R K (z.1:Int)]
theorem ak9(g:Nat)(node:Int)(w:Wa) :Calls ZP 136 #[.pointer (E ⟨g,0,O⟩),.int .i64 node] w λe w'=>e=ra (.func (.func 188) #[] #[.pointer (E ⟨w.heap.size+1,0,O⟩),.pointer (E ⟨w.heap.size,0,O⟩)])/\
   w'=(w.alloc (i7 #[L (E ⟨g,0,O⟩)] 234)).alloc (i7 #[R K node] 3):=by
 go_enter func136,ntmps136;go_wp2;go_ret;exact⟨rfl,rfl⟩
theorem ahI(ws:Lb)(g p1 p2 q n C o0 xc:Nat)(z0:Nat)(s0 s1 s3:Vk)(S:Nat->Prop)(m:Nat)(w:Wa)
  (hg:w.heap[g]?=E (i7 #[s0,s1,T (E ⟨C,o0,O⟩) n xc,s3,T (E ⟨q,0,O⟩) n n] 238 (0,0))) (hq:AU q (Bk ws) w) (hN:(AB ws).length=n) (hn:n<=1000000)
  (hW:∀(i:Nat)(v:Int),(AG ws).wrd[i]?=E v->w.cell? ⟨C,o0+i,O⟩=E (R K v))
  (h1:Boxed w p1 234 (L (E ⟨g,0,O⟩))) (h2:Boxed w p2 3 (R K (z0:Int)))
  (hS:S g/\S q/\S p1/\S p2/\S C) (D:∀k,S k->k<w.heap.size) (aj:z0<n) :
  SeqStopsK Fence.wide m ZP 188 #[L (E ⟨p2,0,O⟩),L (E ⟨p1,0,O⟩)] anB (Cc S) (λzs:List (NdP n)=>zs.map Subtype.val=Fh ws z0) (λZ=>∃r,Fh ws z0=Z.map Subtype.val++r) (z0+1) w:=by
 intro l J Jx W af hJ al hY h0;obtain⟨ac,A,ab,aa,a8⟩:=hS;have cells:∀v:Wa,Cc S w v->v.cell? ⟨p1,0,O⟩=E (.pointer (E ⟨g,0,O⟩))/\v.cell? ⟨p2,0,O⟩=E (.int .i64 (z0:Int))/\v.cell? ⟨g,2,O⟩=E (.slice (E ⟨C,o0,O⟩) n xc)/\v.cell? ⟨g,4,O⟩=E (.slice (E ⟨q,0,O⟩) n n)/\
   (∀(j:Nat)(x:Int),(Bk ws)[j]?=E x->v.cell? ⟨q,j,O⟩=E (R K x))/\(∀(j:Nat)(x:Int),(AG ws).wrd[j]?=E x->v.cell? ⟨C,o0+j,O⟩=E (R K x)):=by
  intro v X;have e1:v.heap[p1]?=E (i7 #[L (E ⟨g,0,O⟩)] 234 (0,0)):=(X p1 ab).trans h1;have e2:v.heap[g]?=_:=(X g ac).trans hg;have e3:v.heap[q]?=E (i7 ((Bk ws).map (R K)).toArray 3 (0,0)):=(X q A).trans hq;have e4:v.heap[p2]?=E (i7 #[R K (z0:Int)] 3 (0,0)):=(X p2 aa).trans h2;refine⟨by simp[cell?,e1],by simp[cell?,e4],by simp[cell?,e2],by simp[cell?,e2],λj x hx=>?_,λj x hx=>?_⟩
  ·rw[cell_of_row v q j _ _ _ e3];simp[hx]
  ·rw[<-hW j x hx];exact BC (X C a8)
 have HC:=AA cells;have H:Cc S w W:=Ke af D;have N:=AA hN;have ao:=AA D;clear hg hq h1 h2 cells hW hN D;obtain⟨c1,c2,_,_,_,_⟩:=HC.out W H;refine callsIn_of_wp func188 rfl trivial ?_ rfl;simp only[ntmps188,Cw,Ao,Bw,Nat.reduceAdd,Nat.reduceSub,Dd,Dc,DX,Da,Av,CT]
 gi_wp2
 clear c1 c2
 gi_loopw[4] (λs4 wr=>∃(z f:Nat)(Z:List (NdP n)),z<=f/\z<=z0/\s4=R K (z:Int)/\Hid (Fh ws z0=Z.map Subtype.val++Ed (Bk ws) (AG ws).wrd f z)/\J Z wr/\Cc S w wr) (λs _=>(intOf s).toNat)
 case atStart=>exact⟨z0,z0,[],AC _,AC _,rfl,rfl,h0,H⟩
 case round=>
  clear H;obtain⟨z,f,Z,ai,ag,rfl,HP,hj,hk⟩:=hrel;obtain⟨c1,c2,c3,c4,c5,c6⟩:=HC.out wr hk
  by_cases hz:z=0
  ·subst hz;have B:Hid (Z.map Subtype.val=Fh ws z0):=by rw[Hid,HP.out,JZ,Cx]
   gi_wp2
   go_end0
   exact⟨⟨_,rfl⟩,.inl ⟨Z,B.out,hj⟩⟩
  ·obtain⟨f,rfl⟩:∃f',f=f'+1:=⟨f-1,by omega⟩;obtain⟨v,X⟩:∃v,(AG ws).wrd[z]?=E v:=⟨(AG ws).wrd[z]'(by rw[(Jt ws).1,N.out];omega),by simp⟩;have U:=ID (ws:=ws) (z:=z) (by rw[N.out];omega);have ae:=NW (ws:=ws) (z:=z) om (by rw[N.out];omega);have Y:=HP.out;rw[aaK,Lc hz,X,CG]at Y;rw[U,CG,Aa]at Y ae;have cw:=c6 z v X;have cn:=c5 z _ U;have ak:((z:Int) != 0)=G:=by simp;omega
   have i1:(0:Int)<=(z:Int):=by omega
   have i2:(z:Int)<(n:Int):=by omega
   have I:z<n:=by omega
   by_cases V:0<=v
   ·have dv:decide ((0:Int)<=v)=G:=by simpa using V
    rw[Lq V]at Y;have B:Hid (Fh ws z0=(Z++[(⟨z,I⟩:NdP n)]).map Subtype.val++Ed (Bk ws) (AG ws).wrd f (nx ws z)):=by rw[Hid,Y];simp
    have a2:lc Z<z0+1:=by have h1:=congrArg List.length Y;have h2:=abd (Bk ws) (AG ws).wrd z0 z0;unfold Fh at h1;rw[List.length_append,List.length_append,BP,OK]at h1;omega
    obtain⟨fn,tmps,assign,body,a1,a7⟩:=hY Z ⟨z,I⟩ wr hj a2;dsimp only[anB]at a1;clear Y X U
    gi_wp2
    refine a7.mono ?_;rintro e W4 (⟨rfl,hJ4,hk4⟩|⟨rfl,hJx4⟩)
    ·have a6:=GD hk hk4;obtain⟨d1,d2,d3,d4,d5,d6⟩:=HC.out W4 a6;have dn:=(hk4 q A);have am:W4.cell? ⟨q,z,O⟩=E (R K (nx ws z:Int)):=d5 z _ (ID (by rw[N.out];omega));clear c1 c2 c3 c4 c5 c6 cw cn d5 d6 a7 a1 dn
     gi_wp2
     go_roundw
     case rel=>exact⟨nx ws z,f,_,by omega,by omega,rfl,B,hJ4,a6⟩
     case measure=>simp[intOf];omega
    ·have HG:Hid (∃r,Fh ws z0=(Z++[(⟨z,I⟩:NdP n)]).map Subtype.val++r):=⟨_,B.out⟩
     gi_wp2
     refine Vi (results_none rfl _ _ _) rfl ?_;exact⟨⟨_,rfl⟩,.inr ⟨_,HG.out,hJx4⟩⟩
   ·have dv:decide ((0:Int)<=v)=M:=by simpa using V
    rw[Lc V,Av]at Y;have B:=AA Y;clear Y X U c5 c6
    gi_wp2
    go_roundw
    case rel=>exact⟨nx ws z,f,Z,by omega,by omega,rfl,B,hj,hk⟩
    case measure=>simp[intOf];omega
end
section
attribute[local go_sem] Oper.semAt_some
attribute[local simp] Ak Al
attribute[local go_sem] Ak Al
theorem ane(W:Wa)(z:Int):SlK 1 (W.alloc (i7 #[R K z] 3)) (E ⟨W.heap.size,0,O⟩) 1 [R K z]:=
 ⟨rfl,.inr ⟨_,_,rfl,by simp,λi u Z=>by
  have:=GI (w:=W) #[R K z] 3 rfl i u (by simpa using Z)
  rwa[Cf]at this⟩⟩
theorem ak6(t:TV)(Ta:Ay)(X ws:Lb)(w:Wa)(U:Tri w t Ta)(J:t.un<=140737488351232)(V:CI Ta=E (X,ws)) :Calls ZP 88 #[i8 t.cells] w λe w'=>∃q,e=ra (ta #[T (E ⟨q,0,O⟩) (AB ws).length (AB ws).length,R K 0])/\AU q (Bk ws) w'/\w.heap.size<=q/\La w w':=by
 obtain⟨ua,un,uc,da,dn,dc,xa,xn,xc,ba,bn,bc⟩:=t;have hB:=AL w (i7 #[T ua un uc,T da dn dc,T xa xn xc,T ba bn bc] 150);have I:=AA (ae2 _ Ta X ws _ (U.below hB) J V);clear U V;go_enter func88,ntmps88
 go_wp2_with fail
 refine I.out.mono ?_;rintro e N ⟨g,rfl,Y,Z⟩;obtain⟨q,h1,h3,h6,h7⟩:=Y.ex;have c5:N.cell? ⟨g,4,O⟩=E (T (E ⟨q,0,O⟩) (AB ws).length (AB ws).length):=by simp[cell?,h1]
 simp only[DN]at h7;clear h1;go_wp2;go_ret2;exact⟨q,rfl,h3,by omega,hB.trans (Z.mono hB.size)⟩
end
section
attribute[local go_sem] Oper.semAt_some
attribute[local simp] Ak Al
attribute[local go_sem] Ak Al
def CA(ws:Lb)(z:Nat):List Int:=(Fh ws z).map λn=>((AG ws).wrd[n]?).getD 0
def DW(base b:Nat)(w W:Wa):Prop:=(∀k,k<base->k≠b->W.heap[k]?=w.heap[k]?)/\base<=W.heap.size
theorem aaq{base b:Nat}{v w:Wa}(h:DW base b v w)(o:Obj):DW base b v (w.alloc o):=⟨λk h1 h2=>((AL w o).block k (Af h1 h.2)).trans (h.1 k h1 h2),by have:=h.2;rw[DN];omega⟩
end
theorem afO(ws:Lb):CA ws 0=[]:=by
 unfold CA Fh;rw[JZ]
 rfl
theorem acI{ws:Lb}{z:Nat}{v:Int}(h0:0<z)(Y:z<(AB ws).length)(Z:(AG ws).wrd[z]?=E v):CA ws z=(if 0<=v then [v] else [])++CA ws (nx ws z):=by
 unfold CA;rw[akm h0 Y,Z,CG,Aj];congr 1
 split
 ·rw[BO,Z];rfl
 ·rfl
def mcC(LO:List Int)(m n:Int)(row:Vk)(fold:Bool)(sw:Vk)(lo mo:Int)(wd:Vk):List Vk:=LO.map (R K)++[R K m,R K n,row,i6 fold,sw,R K lo,R K mo,wd]
structure Mc(W:World)(B:Nat)(L:List Int)(m n:Int)(row:Value)(fold:Bool)(sw:Value)(lo mo:Int)(wd:Value):Prop where
 box:W.heap[B]?=some (.cells (mcC L m n row fold sw lo mo wd).toArray 162 (0,0))
 len:L.length=256
section
variable {W V:Wa}{B:Nat}{LO:List Int}{m n:Int}{row:Vk}{fold:Bool}{sw:Vk}{lo mo:Int}{wd:Vk}
theorem Mc.lt(h:Mc W B LO m n row fold sw lo mo wd):B<W.heap.size:=(AD.1 h.box).1
theorem Mc.below(h:Mc W B LO m n row fold sw lo mo wd)(Z:La W V):Mc V B LO m n row fold sw lo mo wd:=⟨(Z.block B h.lt).trans h.box,h.len⟩
theorem Mc.cls(h:Mc W B LO m n row fold sw lo mo wd){c:Nat}{v:Int}(Z:LO[c]?=E v):W.cell? ⟨B,c,O⟩=E (R K v):=by
 have Y:c<256:=by have:=(AP.1 Z).1;have:=h.len;omega
 have e:(mcC LO m n row fold sw lo mo wd)[c]?=E (R K v):=by
  unfold mcC;rw[By (by simp[h.len];omega),BU,Z]
  rfl
 simp only[cell?,h.box];simp[e]
theorem Mc.off(h:Mc W B LO m n row fold sw lo mo wd){i:Nat}{v:Vk}(Z:[R K m,R K n,row,i6 fold,sw,R K lo,R K mo,wd][i]?=E v):W.cell? ⟨B,256+i,O⟩=E v:=by
 have e:(mcC LO m n row fold sw lo mo wd)[256+i]?=E v:=by
  unfold mcC;rw[DY (by simp[h.len])]
  simpa[h.len]using Z
 simp only[cell?,h.box];simp[e]
theorem Mc.cells(h:Mc W B LO m n row fold sw lo mo wd):W.cell? ⟨B,256,O⟩=E (R K m)/\W.cell? ⟨B,257,O⟩=E (R K n)/\W.cell? ⟨B,258,O⟩=E row/\W.cell? ⟨B,259,O⟩=E (i6 fold)/\W.cell? ⟨B,260,O⟩=E sw/\W.cell? ⟨B,261,O⟩=E (R K lo)/\W.cell? ⟨B,262,O⟩=E (R K mo)/\W.cell? ⟨B,263,O⟩=E wd:=⟨h.off (i:=0) rfl,h.off (i:=1) rfl,h.off (i:=2) rfl,h.off (i:=3) rfl,h.off (i:=4) rfl,h.off (i:=5) rfl,h.off (i:=6) rfl,h.off (i:=7) rfl⟩
end
def Lls(W:Wa)(a:Option Addr)(len:Nat)(Z:Lb):Prop:=
 ∃Y:List (Option Addr×Nat×Nat),Sl1 (λv=>T v.1 v.2.1 v.2.2) W a len Y/\lc Y=lc Z/\∀(i:Nat)(v:Option Addr×Nat×Nat)(xs:List Int),Y[i]?=E v->Z[i]?=E xs->Sl1 (R K) W v.1 v.2.1 xs/\v.2.1<=v.2.2
theorem Lls.below{W V:Wa}{a:Option Addr}{len:Nat}{Z:Lb}(h:Lls W a len Z)(U:La W V):Lls V a len Z:=by obtain⟨N,h1,h2,h3⟩:=h;exact⟨N,h1.below U,h2,λi v xs X Y=>⟨(h3 i v xs X Y).1.below U,(h3 i v xs X Y).2⟩⟩
theorem Lls.at_{w:Wa}{a:Option Addr}{len:Nat}{Z:Lb}(h:Lls w a len Z){k:Nat}(hk:k<len) :∃b off J l c xs,a=E ⟨b,off,O⟩/\b<w.heap.size/\w.cell? ⟨b,off+k,O⟩=E (T J l c)/\Z[k]?=E xs/\Sl1 (R K) w J l xs/\l<=c:=by obtain⟨X,⟨h0,h1⟩,h2,h3⟩:=h;obtain⟨b,off,rfl,Y,I⟩:=h1.resolve_left om;obtain⟨v,N⟩:∃v,X[k]?=E v:=⟨X[k]'om,by simp⟩;obtain⟨x,U⟩:∃v,Z[k]?=E v:=⟨Z[k]'om,by simp⟩;exact⟨b,off,v.1,v.2.1,v.2.2,x,rfl,Y,I k v N,U,h3 k v x N U⟩
structure MOK(W:World)(B:Nat)(fold:Bool)(wss:Lb)(lo mo:Int)(R:Nat)(a:Option Addr)(la ca:Nat)(wa:Option Addr)(wc:Nat):Prop where
 mc:Mc W B (BF fold wss) (Ah fold wss) ((AB wss).length:Int) (T (some ⟨R,0,none⟩) (Ah fold wss*(AB wss).length) (Ah fold wss*(AB wss).length)) fold (T a la ca) lo mo (T wa (AB wss).length wc)
 row:AU R (FN fold wss) W
 wds:Wds W a la wss
 lls:Lls W wa (AB wss).length ((List.range (AB wss).length).map (CA wss))
theorem MOK.below{W V:Wa}{B Ra X U wc:Nat}{fold:Bool}{wss:Lb}{lo mo:Int}{a Y:Option Addr}(h:MOK W B fold wss lo mo Ra a X U Y wc)(Z:La W V):MOK V B fold wss lo mo Ra a X U Y wc:=⟨h.mc.below Z,(Z.block Ra h.row.lt).trans h.row,h.wds.below Z,h.lls.below Z⟩
theorem Nk(B:Nat)(LO:List Int)(m n:Int)(row:Vk)(fold:Bool)(sw:Vk)(lo mo:Int)(wd:Vk)(node:Int)(w:Wa)(h:Mc w B LO m n row fold sw lo mo wd) :Calls ZP 271 #[L (E ⟨B,0,O⟩),R K node] w λe w'=>e=ra (i6 (decide (0<=node/\node<n)))/\w=w':=by
 have c5:=h.cells.2.1;clear h
 by_cases h0:0<=node
 ·have X:decide ((0:Int)<=node)=G:=by simpa using h0
  obtain⟨D,U⟩:∃D,decide (node<n)=D:=⟨_,rfl⟩;have Y:Hid (decide (0<=node/\node<n)=D):=by rw[Hid,<-U];simp[h0]
  clear h0;have Z:∀(r:Ending)(w':Wa),r=ra (i6 D)/\w=w'->r=ra (i6 (decide (0<=node/\node<n)))/\w=w':=λr w' h=>by rw[Y.out];exact h
  refine Calls.mono ?_ Z;clear Z Y;go_enter func271,ntmps271;go_wp2;go_ret;exact⟨rfl,rfl⟩
 ·have X:decide ((0:Int)<=node)=M:=by simpa using h0
  have Y:Hid (decide (0<=node/\node<n)=M):=by simp[Hid];omega
  have Z:∀(r:Ending)(w':Wa),r=ra (i6 M)/\w=w'->r=ra (i6 (decide (0<=node/\node<n)))/\w=w':=λr w' h=>by rw[Y.out];exact h
  refine Calls.mono ?_ Z;clear Z Y;go_enter func271,ntmps271;go_wp2;go_ret;exact⟨rfl,rfl⟩
section
attribute[local go_sem] Oper.semAt_some
attribute[local simp] Ak Al
attribute[local go_sem] Ak Al
def OX(x:Int):Array Vk:=#[R K x]
theorem ain(t:TV)(a:Option Addr)(n c:Nat)(z:Int)(w:Wa) :Calls ZP 93 #[i8 t.cells,.slice a n c,.int .i64 z] w λe w'=>e=ra (.func (.func 137) #[] #[.pointer (E ⟨w.heap.size+1+1,0,O⟩),.pointer (E ⟨w.heap.size+1,0,O⟩),.pointer (E ⟨w.heap.size,0,O⟩)])/\
   w'=((w.alloc (i7 t.cells 150)).alloc (i7 #[T a n c] 30)).alloc (i7 #[R K z] 3):=by
 obtain⟨ua,un,uc,da,dn,dc,xa,xn,xc,ba,bn,bc⟩:=t;go_enter func93,ntmps93;go_wp2;go_ret;exact⟨rfl,rfl⟩
def Mg(ws:Lb)(l:List Nat):List Int:=l.map λn=>((AG ws).wrd[n]?).getD 0
theorem aez(ws:Lb)(p1 p2 p3 q n B o0 xc qc:Nat)(z0:Nat)(s0 s1 s3:Vk)(S:Nat->Prop)(m:Nat)(w:Wa)
  (hg:w.heap[p3]?=E (i7 #[s0,s1,T (E ⟨B,o0,O⟩) n xc,s3] 150 (0,0))) (hq:AU q (Bk ws) w) (hN:(AB ws).length=n) (hn:n<=1000000)
  (hW:∀(i:Nat)(v:Int),(AG ws).wrd[i]?=E v->w.cell? ⟨B,o0+i,O⟩=E (R K v))
  (h1:Boxed w p2 30 (T (E ⟨q,0,O⟩) n qc)) (h2:Boxed w p1 3 (R K (z0:Int)))
  (hS:S p3/\S q/\S p1/\S p2/\S B) (ab:∀k,S k->k<w.heap.size) (hp:p1≠p3/\p1≠q/\p1≠p2/\p1≠B) (av:z0<n) :
  abI Fence.wide m ZP 137 #[L (E ⟨p1,0,O⟩),L (E ⟨p2,0,O⟩),L (E ⟨p3,0,O⟩)] OX (Cc S) (λr=>r=p1) (λzs:List Int=>zs=CA ws z0) (λpre=>∃r,CA ws z0=pre++r) (z0+1) w:=by
 intro l J Jx W aa hJ ax hY h0;obtain⟨al,ak,aj,ai,ag⟩:=hS;obtain⟨n3,nq,n2,n0⟩:=hp;have cells:∀v:Wa,(∀k,S k->k≠p1->v.heap[k]?=w.heap[k]?)->v.cell? ⟨p2,0,O⟩=E (.slice (E ⟨q,0,O⟩) n qc)/\v.cell? ⟨p3,2,O⟩=E (.slice (E ⟨B,o0,O⟩) n xc)/\
   (∀(j:Nat)(x:Int),(Bk ws)[j]?=E x->v.cell? ⟨q,j,O⟩=E (R K x))/\(∀(j:Nat)(x:Int),(AG ws).wrd[j]?=E x->v.cell? ⟨B,o0+j,O⟩=E (R K x)):=by
  intro v U;have e1:v.heap[p2]?=E (i7 #[T (E ⟨q,0,O⟩) n qc] 30 (0,0)):=(U p2 ai (Ne.symm n2)).trans h1;have e2:v.heap[p3]?=_:=(U p3 al (Ne.symm n3)).trans hg;have e3:v.heap[q]?=E (i7 ((Bk ws).map (R K)).toArray 3 (0,0)):=(U q ak (Ne.symm nq)).trans hq;refine⟨by simp[cell?,e1],by simp[cell?,e2],λj x hx=>?_,λj x hx=>?_⟩
  ·rw[cell_of_row v q j _ _ _ e3];simp[hx]
  ·rw[<-hW j x hx];exact BC (U B ag (Ne.symm n0))
 have HC:=AA cells;have a8:∀k,S k->k≠p1->W.heap[k]?=w.heap[k]?:=λk hk _=>aa.block k (ab k hk);have ao:Boxed W p1 3 (R K (z0:Int)):=(aa.block p1 h2.lt).trans h2;have H:=AA hN;have ap:=AA aj;clear hg hq h1 h2 cells hW hN ab;refine callsIn_of_wp func137 rfl trivial ?_ rfl;simp only[ntmps137,Cw,Ao,Bw,Nat.reduceAdd,Nat.reduceSub,Dd,Dc,DX,Da,Av,CT]
 gi_wp2
 gi_loopw[5] (λs5 wr=>∃(z f:Nat)(pre:List Int),z<=f/\z<=z0/\Hid (CA ws z0=pre++Mg ws (Ed (Bk ws) (AG ws).wrd f z))/\Hid (lc pre+f<=z0)/\Boxed wr p1 3 (R K (z:Int))/\J pre wr/\Hid (∀k,S k->k≠p1->wr.heap[k]?=w.heap[k]?)) (λ_ wr=>Ic p1 wr)
 case atStart=>exact⟨z0,z0,[],AC _,AC _,rfl,by simp[Hid],ao,h0,a8⟩
 case round=>
  clear a8;obtain⟨z,f,pre,au,ar,HP,s,V,hj,HK⟩:=hrel;have cz:=V.cell;have ae:=AA (Lm V)
  by_cases hz:z=0
  ·subst hz;have HF:Hid (pre=CA ws z0):=by rw[Hid,HP.out,JZ];simp[Mg]
   gi_wp2
   go_end0
   exact⟨⟨_,rfl⟩,.inl ⟨pre,HF.out,hj⟩⟩
  ·obtain⟨f,rfl⟩:∃f',f=f'+1:=⟨f-1,by omega⟩;obtain⟨c1,c2,c3,c4⟩:=HC.out wr HK.out;obtain⟨v,U⟩:∃v,(AG ws).wrd[z]?=E v:=⟨(AG ws).wrd[z]'(by rw[(Jt ws).1,H.out];omega),by simp⟩;have I:=ID (ws:=ws) (z:=z) (by rw[H.out];omega);have D:=NW (ws:=ws) (z:=z) om (by rw[H.out];omega);have Z:=HP.out;rw[aaK,Lc hz,U,CG]at Z;rw[I,CG,Aa]at Z D;have cw:=c4 z v U;have cn:=c3 z _ I;have aw:((z:Int) != 0)=G:=by simp;omega
   have i1:(0:Int)<=(z:Int):=by omega
   have i2:(z:Int)<(n:Int):=by omega
   have fz:=V.frozen;have am:=V.lt
   by_cases N:0<=v
   ·have dv:decide ((0:Int)<=v)=G:=by simpa using N
    rw[Lq N]at Z;have HF:Hid (CA ws z0=(pre++[v])++Mg ws (Ed (Bk ws) (AG ws).wrd f (nx ws z))):=by rw[Hid,Z];simp[Mg,U]
    have a7:lc pre<z0+1:=by have:=s.out;omega
    obtain⟨fn,tmps,assign,body,a6,ac⟩:=hY pre v wr hj a7;dsimp only[OX]at a6;clear Z U I
    gi_wp2
    refine ac.mono ?_;rintro e W4 (⟨rfl,hJ4,hk4⟩|⟨rfl,hJx4⟩)
    ·have X:Boxed W4 p1 3 (R K (z:Int)):=(hk4 p1 ap.out).trans V;have af:Hid (∀k,S k->k≠p1->W4.heap[k]?=w.heap[k]?):=λk h1 h2=>(hk4 k h1).trans (HK.out k h1 h2);obtain⟨d1,d2,d3,d4⟩:=HC.out W4 af.out;have aA:W4.cell? ⟨q,z,O⟩=E (R K (nx ws z:Int)):=d3 z _ (ID (by rw[H.out];omega));have az:=X.cell;have ay:=X.frozen;have aq:=X.lt;have C:=adx hJ hJ4 (p:=p1) rfl 0 (R K (nx ws z:Int));have Y:=X.set (R K (nx ws z:Int));have A:=AA (Lm Y);have a2:Hid (∀j,S j->j≠p1->(W4.setCell ⟨p1,0,O⟩ (R K (nx ws z:Int))).heap[j]?=w.heap[j]?):=λj h1 h2=>(AQ _ _ _ _ (by show j≠p1;exact h2)).trans (af.out j h1 h2);have a1:Hid ((pre++[v]).length+f<=z0):=by have:=s.out;rw[Hid,List.length_append,OK];omega
     clear c1 c2 c3 c4 cw cn d3 d4 ac a6 cz fz am hJ4
     gi_wp2
     go_roundw
     case rel=>exact⟨nx ws z,f,_,by omega,by omega,HF,a1,Y,C,a2⟩
     case measure=>rw[ae.out,A.out];exact D
    ·have HG:Hid (∃r,CA ws z0=(pre++[v])++r):=⟨_,HF.out⟩
     gi_wp2
     refine Vi (results_none rfl _ _ _) rfl ?_;exact⟨⟨_,rfl⟩,.inr ⟨_,HG.out,hJx4⟩⟩
   ·have dv:decide ((0:Int)<=v)=M:=by simpa using N
    rw[Lc N,Av]at Z;have HF:=AA Z;have C:=adx hJ hj (p:=p1) rfl 0 (R K (nx ws z:Int));have Y:=V.set (R K (nx ws z:Int));have A:=AA (Lm Y);have a2:Hid (∀j,S j->j≠p1->(wr.setCell ⟨p1,0,O⟩ (R K (nx ws z:Int))).heap[j]?=w.heap[j]?):=λj h1 h2=>(AQ _ _ _ _ (by show j≠p1;exact h2)).trans (HK.out j h1 h2);have a1:Hid (lc pre+f<=z0):=by have:=s.out;rw[Hid];omega
    clear Z U I c3 c4
    gi_wp2
    go_roundw
    case rel=>exact⟨nx ws z,f,pre,by omega,by omega,HF,a1,Y,C,a2⟩
    case measure=>rw[ae.out,A.out];exact D
end
theorem aev(fold:Bool)(a:Option Addr)(Z H:Nat)(wss:Lb)(w:Wa)(N:Wds w a Z wss)(B:Z<=1000000) :Calls ZP 91 #[i8 (AM fold a Z H)] w λe w'=>e=ra (R K (Au wss))/\La w w':=by
 have Y:La w (w.alloc (i7 (AM fold a Z H) 24)):=(AH _ _).alloc (AC _) _;have U:=N.below Y;have j:=AA N.len;clear N;go_enter func91,ntmps91;go_wp2
 go_loop[3,9] (λs i=>∃(k:Nat)(n:Int),k<=Z/\i=R K k/\s=R K n/\Hid (n=Au (wss.take k))) (λ_ i=>Z-(intOf i).toNat)
 case atStart=>exact⟨0,0,AR _,rfl,rfl,by simp[Hid,Au]⟩
 case round=>
  obtain⟨k,n,hk,rfl,rfl,D⟩:=hrel
  by_cases X:k<Z
  ·obtain⟨bb,off,a',l,c,x,rfl,A,V,J,I,C⟩:=U.at_ X;have v:Hid (max n (l:Int)=Au (wss.take (k+1))):=by rw[Hid,As J,acO,I.len,D.out]
   clear J I;go_wp2
   go_round
   case rel=>exact⟨k+1,_,by omega,by go_num,rfl,v⟩
   case measure=>simp[intOf];omega
  ·obtain rfl:k=Z:=by omega
   have HF:Hid (n=Au wss):=by
    have h:=D.out
    rwa[Ap (by have:=j.out;omega)]at h
   go_wp2;go_ret;exact⟨by rw[<-HF.out];rfl,Y⟩
theorem aeD{fn:Func}{p:Tmp}{tmps:Array Vk}{W:Wa}{B:Nat}{x y:Vk}(h:fn.results=#[.cell p 24])(Y:tmps.getD p undef=L (E ⟨B,0,O⟩))(hB:W.heap[B]?=E (i7 #[x,y] 24 (0,0))) :(results fn tmps).run ZP W=.ok (i8 #[x,y]) W:=by
 have X:(loadVar 24 ⟨B,0,O⟩).run ZP W=.ok (i8 #[x,y]) W:=run_loadVar_row W B 24 24 #[x,y] (0,0) _ hB underlying24 rfl kr;have Z:tmps[p]?.getD undef=.pointer (E ⟨B,0,O⟩):=by simpa using Y
 simp[results,h,Z,asAddr,X,Result.andThen]
theorem alD(fold:Bool)(a:Option Addr)(U ca:Nat)(wss:Lb)(w:Wa)(hA:Wds w a U wss)(aH:U<=1000000)(hM:∀x∈wss,lc x<=1000000) :Calls ZP 90 #[i8 (AM fold a U ca)] w λe w'=>∃v,e=ra (i8 #[i6 fold,v])/\BI w' w.heap.size v wss/\La w w':=by
  obtain⟨W,hW⟩:∃W,W=(w.alloc (i7 (AM fold a U ca) 24)).alloc (i7 (AM M O 0 0) 24):=⟨_,rfl⟩;have hB:La w W:=by rw[hW];exact((AH _ _).alloc (AC _) _).alloc sm _
  have hO:Bx w.heap.size [i7 (AM fold a U ca) 24,i7 (AM M O 0 0) 24] W:=by rw[hW];exact((Bx.nil _ w).snoc _ rfl).snoc _ sm
  have s0:W.cell? ⟨w.heap.size,0,O⟩=E (i6 fold):=hO.cell (i:=0) rfl rfl;have s1:W.cell? ⟨w.heap.size,1,O⟩=E (T a U ca):=hO.cell (i:=0) rfl rfl;have hz:W.heap[w.heap.size+1]?=E (i7 (AM M O 0 0) 24 (0,0)):=hO 1 _ rfl;have a8:W.heap.size=w.heap.size+1+1:=by rw[hW];simp
  have HL:=AA hA.len;have HA:=AA hA;have ab:w.heap.size<W.heap.size:=by omega
  clear hO hA;go_enter func90,ntmps90;go_upto_region 1 with fail
  rw[<-hW];clear hW;go_upto_region 2 with fail
  have s2:(W.alloc (i7 #[i6 fold,T O 0 0] 24)).cell? ⟨w.heap.size,1,O⟩=E (T a U ca):=by rw[OH _ _ _ ab];exact s1
  have ac:La w (W.alloc (i7 #[i6 fold,T O 0 0] 24)):=hB.alloc hB.size _;have aa:(W.alloc (i7 #[i6 fold,T O 0 0] 24)).heap[w.heap.size+1+1]?=E (i7 #[i6 fold,T O 0 0] 24 (0,0)):=by rw[<-a8];exact AT _ _
  have a7:(W.alloc (i7 #[i6 fold,T O 0 0] 24)).heap[w.heap.size+1]?=E (i7 (AM M O 0 0) 24 (0,0)):=(Bg _ _ _ om).trans hz;clear s0 s1 a8;go_wp2
  go_loopw[12] (λi wr=>∃(k:Nat)(v:Vk),k<=U/\i=R K k/\La w wr/\wr.heap[w.heap.size+1]?=E (i7 (AM M O 0 0) 24 (0,0))/\wr.heap[w.heap.size+1+1]?=E (i7 #[i6 fold,v] 24 (0,0))/\BI wr w.heap.size v (wss.take k)) (λi _=>U-(intOf i).toNat)
  case atStart=>exact⟨0,T O 0 0,AR _,rfl,ac,a7,aa,by simpa using BI.nil _ _⟩
  case round=>
    clear s2 ac a7 aa;obtain⟨k,v,hk,rfl,D,Z,N,X⟩:=hrel
    by_cases am:k<U
    ·
      obtain⟨bb,off,a',l,c,x,rfl,aJ,ay,hx,hX,aG⟩:=(HA.out.below D).at_ am;have ai:l<=1000000:=by have:=Ff hM hx;rw[hX.len]at this;exact this
      obtain⟨H,I,rfl,ax,hW⟩:=X.wds;have al:(wss.take k).length<=1000000:=by have:=MU k wss;omega
      have HX:=AA hx;have i1:(0:Int)<=(k:Int):=by omega
      have i2:(k:Int)<(U:Int):=by omega
      have aw:decide ((k:Int)<(U:Int))=G:=by simp;omega
      clear hx;obtain⟨i0,hi,ar,aq,ap⟩:=Vh OT;have s1:wr.cell? ⟨w.heap.size+1+1,1,O⟩=E (T H (wss.take k).length I):=by simp[cell?,N]
      obtain⟨es,e1,e2,e3⟩:=X;have aB:∀n,Bys (wr.drewN n) a' l x:=λn=>hX.below ⟨rfl,rfl,rfl,AC _,λ_ _=>rfl⟩;have hd:∀n,La wr (wr.drewN n):=λn=>⟨rfl,rfl,rfl,AC _,λ_ _=>rfl⟩;obtain⟨m,hm⟩:∃m,(wss.take k).length=m:=⟨_,rfl⟩;rw[hm]at s1 N e1 e2 al;have a6:=AA hm;clear hm hW;go_wp2;have aA:Bys wr.drew a' l x:=aB 1;have au:La wr wr.drew:=hd 1
      go_region_law (first
        | (go_simp;go_at_call 134;refine (agG M a' l c x wr.drew aA ai).mono ?_;rintro e A ⟨a3,c3,rfl,a1,az⟩
           have C:La wr A:=au.trans az;have B:=DJ e1 C;have J:A.heap[w.heap.size+1+1]?=E (i7 #[i6 fold,T H m I] 24 (0,0)):=(C.block _ (AD.1 N).1).trans N;have ae:A.cell? ⟨w.heap.size+1+1,1,O⟩=E (T H m I):=by simp[cell?,J]
           have ao:w.heap.size+1+1<A.heap.size:=(AD.1 J).1;have aE:w.heap.size+1+1≠A.heap.size:=by omega
           have aD:A.heap.size≠w.heap.size+1+1:=by omega
           have aF:(A.alloc (i7 #[T a3 l c3] 32)).cell? ⟨w.heap.size+1+1,1,O⟩=E (T H m I):=by rw[OH _ _ _ ao];exact ae
           have ak:=Gz B J (Kf kr);have V:La w A:=D.trans (C.mono D.size);dsimp only)
        | (refine step_append_lies _ (by rfl) _ _ 22 (by rfl) w.heap.size 32 i0 (.slice O 0 0) 1 24 underlying22 hi ar aq ap rfl (by decide) (.slice H m I) m es (by rfl) (B.alloc _) ⟨A.heap.size,0,O⟩ 1 1 [.slice a3 l c3] (by rfl) rfl (cell_one_new _ _ _) (by simp [Value.oneCell']) (by decide) (by unfold maxLen;omega) om (by have:=V.size;simp;omega) _ rfl ?_
           intro g5 c5 w5 a2 Y aK aI;have s:w5.heap[w.heap.size+1+1]?=E (i7 #[i6 fold,T H m I] 24 (0,0)):=(Y.block _ (by simp;have:=(AD.1 J).1;omega) (Ne.symm ak)).trans ((Bg _ _ _ (AD.1 J).1).trans J);have q0:w5.cell? ⟨w.heap.size+1+1,1,O⟩=E (T H m I):=by simp[cell?,s]
           have q1:w5.frozen? ⟨w.heap.size+1+1,1,O⟩=M:=by simp[frozen?,s]))
      all_goals
        go_wp2;have aC:La w w5:=(V.alloc (by have:=V.size;omega) _).grown Y (by simp;have:=V.size;omega) (λj hj=>(B.lt j hj).1);have af:w5.heap[w.heap.size+1]?=E (i7 (AM M O 0 0) 24 (0,0)):=by have h3:A.heap[w.heap.size+1]?=_:=(C.block _ (AD.1 Z).1).trans Z;exact(Y.block _ (by simp;have:=(AD.1 h3).1;omega) (Ne.symm (Gz B h3 (Kf kr)))).trans ((Bg _ _ _ (AD.1 h3).1).trans h3)
        go_roundw
        case rel=>
          refine⟨k+1,_,by omega,by go_num,aC.setCell (by show w.heap.size<=w.heap.size+1+1;omega) _,(AQ w5 ⟨w.heap.size+1+1,1,O⟩ _ _ sm).trans af,by simpa using AJ (i:=1) s (.slice (E ⟨g5,0,O⟩) (m+1) c5),?_⟩;rw [As HX.out];have aj:=BI.step (wss:=wss.take k) (xs:=x) (e:=.slice a3 l c3) (es:=es) (v:=.slice H m I) (by rw [a6.out];exact B.alloc _) (by rw [a6.out];exact e2)
            (λi e xs he hx=>⟨DJ (DJ (e3 i e xs he hx).1 C) ((AH _ _).alloc (AC _) _),(e3 i e xs he hx).2⟩) (by rw[hX.len];exact(abR (a1.alloc _) (by have:=D.size;simpa using this))) hX.2 (by rw[a6.out];exact a2) Y
          exact aj.turned (BH w5 (w.heap.size+1+1) 1 _) s (Kf kr) (Kf kr)
        case measure=>simp[intOf];omega
    ·
      obtain rfl:k=U:=by omega
      have HF:Hid (wss.take k=wss):=Ap (by have:=HL.out;omega);have aw:decide ((k:Int)<(k:Int))=M:=by simp
      have s0:wr.cell? ⟨w.heap.size+1+1,0,O⟩=E (i6 fold):=by simp[cell?,N]
      rw[HF.out]at X;obtain⟨H,I,rfl,ax,hW⟩:=X.wds;have s1:wr.cell? ⟨w.heap.size+1+1,1,O⟩=E (T H (lc wss) I):=by simp[cell?,N]
      have z0:wr.cell? ⟨w.heap.size+1,0,O⟩=E (i6 M):=by simp[cell?,Z]
      have z1:wr.cell? ⟨w.heap.size+1,1,O⟩=E (T O 0 0):=by simp[cell?,Z]
      have y0:wr.frozen? ⟨w.heap.size+1,0,O⟩=M:=by simp[frozen?,Z]
      have y1:wr.frozen? ⟨w.heap.size+1,1,O⟩=M:=by simp[frozen?,Z]
      go_wp2;have ag:=AJ (i:=1) (AJ (i:=0) Z (i6 fold)) (T H (lc wss) I);refine Vi (aeD rfl rfl (by simpa using ag)) rfl ?_;refine⟨_,rfl,?_,(D.setCell sm _).setCell sm _⟩;have ho:=(X.turned (BH wr (w.heap.size+1) 0 (i6 fold)) Z (Kf kr) (Kf kr)).turned (BH _ (w.heap.size+1) 1 (T H (lc wss) I)) (AJ (i:=0) Z (i6 fold)) (Kf kr) (Kf kr);exact ho
def tbC(LO:List Int)(m n:Int)(row:Vk):List Vk:=LO.map (R K)++[R K m,R K n,row]
theorem amL(LO:List Int)(m n:Int)(row:Vk)(fold:Bool)(Z:Vk)(lo Y:Int)(wd:Vk):mcC LO m n row fold Z lo Y wd=tbC LO m n row++[i6 fold,Z,R K lo,R K Y,wd]:=by simp[mcC,tbC]
theorem ao5:(ZP.info? 157).map (λi=>i.zero.map Value.cells)=E (E (tbC (List.replicate 256 0) 0 0 (T O 0 0)).toArray):=by kernel_rfl
theorem an9:(ZP.info? 162).map (λi=>i.zero.map Value.cells)=E (E (mcC (List.replicate 256 0) 0 0 (T O 0 0) M (T O 0 0) 0 0 (T O 0 0)).toArray):=by kernel_rfl
theorem ajC:(match ZP.underlying 157 with|some (.struct fields)=>fields.toList.mapM (λf=>(ZP.info? f.type).map λi=>(f.offset,i.size))|_=>O)=E [(0,256),(256,1),(257,1),(258,1)]:=by kernel_rfl
theorem ajq:(match ZP.underlying 162 with|some (.struct fields)=>fields.toList.mapM (λf=>(ZP.info? f.type).map λi=>(f.offset,i.size))|_=>O)=E [(0,259),(259,2),(261,1),(262,1),(263,1)]:=by kernel_rfl
theorem ajU{LO:List Int}(Z:lc LO=256)(m n:Int)(row:Vk):(tbC LO m n row).length=259:=by simp[tbC,Z]
theorem adQ(LO:List Int)(m k:Int)(a:Option Addr)(n c:Nat)(N:lc LO=256) :ZP.built 157 [(0,i8 (LO.map (R K)).toArray),(1,R K m),(2,R K k),(3,T a n c)]=E (tbC LO m k (T a n c)).toArray:=by
 obtain⟨X,U,Z⟩:∃X:List Int,lc X=256/\(ZP.info? 157).map (λi=>i.zero.map Value.cells)=E (E (tbC X 0 0 (T O 0 0)).toArray):=⟨_,by rw[CS],ao5⟩;have Y:=ajC;unfold Program.built
 cases H:ZP.info? 157 with
 |none=>rw[H]at Z;cases Z
 |some it=>
  rw[H]at Z;simp only[Dw,DC]at Z
  cases I:ZP.underlying 157 with
  |none=>rw[I]at Y;cases Y
  |some d=>
   rw[I]at Y
   cases d<;>try (cases Y;done)
   rename_i J
   simp only at Y⊢
   cases V:it.zero with
   |none=>rw[V]at Z;cases Z
   |some z=>
    rw[V]at Z;simp only[Dw,DC]at Z;simp only[Y,Z];have A:(tbC X 0 0 (T O 0 0)).toArray=([]++(X.map (R K))++[R K 0,R K 0,T O 0 0]).toArray:=by simp[tbC]
    have B:[]++LO.map (R K)++[R K 0,R K 0,T O 0 0]=LO.map (R K)++[R K 0]++[R K 0,T O 0 0]:=by simp
    have e2:LO.map (R K)++[R K m]++[R K 0,T O 0 0]=(LO.map (R K)++[R K m])++[R K 0]++[T O 0 0]:=by simp
    have C:(LO.map (R K)++[R K m])++[R K k]++[T O 0 0]=(LO.map (R K)++[R K m,R K k])++[T O 0 0]++[]:=by simp
    have D:([(0,256),(256,1),(257,1),(258,1)]:List (Nat×Nat)).toArray[0]?=E (([]:List Vk).length,(X.map (R K)).length):=by rw[BP,U];rfl
    have p1:([(0,256),(256,1),(257,1),(258,1)]:List (Nat×Nat)).toArray[1]?=E ((LO.map (R K)).length,([R K 0]:List Vk).length):=by rw[BP,N];rfl
    have p2:([(0,256),(256,1),(257,1),(258,1)]:List (Nat×Nat)).toArray[2]?=E ((LO.map (R K)++[R K m]).length,([R K 0]:List Vk).length):=by rw[List.length_append,BP,N];rfl
    have p3:([(0,256),(256,1),(257,1),(258,1)]:List (Nat×Nat)).toArray[3]?=E ((LO.map (R K)++[R K m,R K k]).length,([T O 0 0]:List Vk).length):=by rw[List.length_append,BP,N];rfl
    rw[A,Ig _ _ _ _ (LO.map (R K)) 0 _ _ rfl (by rw[BP,BP,N,U]) D];rw[B,Ig _ _ [R K 0] _ [R K m] 1 (R K m) _ rfl rfl p1];rw[e2,Ig _ _ [R K 0] _ [R K k] 2 (R K k) _ rfl rfl p2];rw[C,Ig _ _ [T O 0 0] [] [T a n c] 3 (T a n c) _ rfl rfl p3];simp[Instr.fill,tbC]
theorem aad(Ta:List Vk)(fold:Bool)(a:Option Addr)(n c:Nat)(lo N:Int)(J:lc Ta=259) :ZP.built 162 [(0,i8 Ta.toArray),(1,i8 #[i6 fold,T a n c]),(2,R K lo),(3,R K N)]=E (Ta++[i6 fold,T a n c,R K lo,R K N,T O 0 0]).toArray:=by
 obtain⟨X,U,Z⟩:∃X:List Vk,lc X=259/\(ZP.info? 162).map (λi=>i.zero.map Value.cells)=E (E (X++[i6 M,T O 0 0,R K 0,R K 0,T O 0 0]).toArray):=
  ⟨tbC (List.replicate 256 0) 0 0 (T O 0 0),ajU (by rw[CS]) _ _ _,by rw[an9,amL]⟩
 have Y:=ajq;unfold Program.built
 cases D:ZP.info? 162 with
 |none=>rw[D]at Z;cases Z
 |some it=>
  rw[D]at Z;simp only[Dw,DC]at Z
  cases H:ZP.underlying 162 with
  |none=>rw[H]at Y;cases Y
  |some d=>
   rw[H]at Y
   cases d<;>try (cases Y;done)
   rename_i I
   simp only at Y⊢
   cases V:it.zero with
   |none=>rw[V]at Z;cases Z
   |some z=>
    rw[V]at Z;simp only[Dw,DC]at Z;simp only[Y,Z];have v:(X++[i6 M,T O 0 0,R K 0,R K 0,T O 0 0]).toArray=([]++X++[i6 M,T O 0 0,R K 0,R K 0,T O 0 0]).toArray:=by simp
    have A:[]++Ta++[i6 M,T O 0 0,R K 0,R K 0,T O 0 0]=Ta++[i6 M,T O 0 0]++[R K 0,R K 0,T O 0 0]:=by simp
    have e2:Ta++[i6 fold,T a n c]++[R K 0,R K 0,T O 0 0]=(Ta++[i6 fold,T a n c])++[R K 0]++[R K 0,T O 0 0]:=by simp
    have B:(Ta++[i6 fold,T a n c])++[R K lo]++[R K 0,T O 0 0]=(Ta++[i6 fold,T a n c,R K lo])++[R K 0]++[T O 0 0]:=by simp
    have C:([(0,259),(259,2),(261,1),(262,1),(263,1)]:List (Nat×Nat)).toArray[0]?=E (([]:List Vk).length,lc X):=by rw[U];rfl
    have p1:([(0,259),(259,2),(261,1),(262,1),(263,1)]:List (Nat×Nat)).toArray[1]?=E (lc Ta,([i6 M,T O 0 0]:List Vk).length):=by rw[J];rfl
    have p2:([(0,259),(259,2),(261,1),(262,1),(263,1)]:List (Nat×Nat)).toArray[2]?=E ((Ta++[i6 fold,T a n c]).length,([R K 0]:List Vk).length):=by rw[List.length_append,J];rfl
    have p3:([(0,259),(259,2),(261,1),(262,1),(263,1)]:List (Nat×Nat)).toArray[3]?=E ((Ta++[i6 fold,T a n c,R K lo]).length,([R K 0]:List Vk).length):=by rw[List.length_append,J];rfl
    rw[v,Ig _ _ _ _ Ta 0 _ _ rfl (by rw[J,U]) C];rw[A,Ig _ _ [i6 M,T O 0 0] _ [i6 fold,T a n c] 1 (Value.agg #[i6 fold,T a n c]) _ rfl rfl p1];rw[e2,Ig _ _ [R K 0] _ [R K lo] 2 (R K lo) _ rfl rfl p2];rw[B,Ig _ _ [R K 0] _ [R K N] 3 (R K N) _ rfl rfl p3];simp[Instr.fill]
theorem LL(ws:Lb)(z:Nat):(CA ws z).length<=z:=by unfold CA;rw[BP];exact abd _ _ _ _
section
attribute[local go_sem] Oper.semAt_some
attribute[local simp] Ak Al
attribute[local go_sem] Ak Al
def Jb(ws:Lb)(z:Nat):Nat:=(Fh ws z).length
theorem aht(ws:Lb)(g q ab s o0 n xc z:Nat)(s0 s1 s3:Vk)(w:Wa)
  (hg:w.heap[g]?=E (i7 #[s0,s1,T (E ⟨s,o0,O⟩) n xc,s3,T (E ⟨q,0,O⟩) n n] 238 (0,0))) (hq:AU q (Bk ws) w) (hN:(AB ws).length=n) (hn:n<=1000)
  (hW:∀(i:Nat)(v:Int),(AG ws).wrd[i]?=E v->w.cell? ⟨s,o0+i,O⟩=E (R K v)) (ac:s<w.heap.size)
  (ha:Boxed w ab 234 (L (E ⟨g,0,O⟩))) (hz:z<n) :
  Calls ZP 135 #[R K (z:Int),L (E ⟨ab,0,O⟩)] w λe w'=>e=ra (R K (Jb ws z:Int))/\La w w':=by
 have aa:g<w.heap.size:=(AD.1 hg).1;have a7:q<w.heap.size:=(AD.1 (show w.heap[q]?=_ from hq)).1;obtain⟨Y,U⟩:∃W,W=w.alloc (i7 #[R K 0] 3):=⟨_,rfl⟩;have I:La w Y:=by rw[U];exact AL _ _
 have bC:Boxed Y w.heap.size 3 (R K 0):=by rw[U];exact Boxed.new _ _ _
 have a6:Y.heap.size=w.heap.size+1:=by rw[U];simp
 have a2:Boxed Y ab 234 (L (E ⟨g,0,O⟩)):=(I.block ab ha.lt).trans ha;have ca:=a2.cell;refine Hc func135 rfl ?_;simp only[ntmps135,Cw,Ao,Bw,Nat.reduceAdd,Nat.reduceSub,Dd,Dc,DX,Da,Av,CT];go_upto_region 2 with fail
 rw[<-U];clear U
 go_wp2_with (go_at_call 136;refine(ak9 g z Y).mono ?_;rintro e w' ⟨rfl,rfl⟩)
 obtain⟨Z,V⟩:∃W,W=(Y.alloc (i7 #[L (E ⟨g,0,O⟩)] 234)).alloc (i7 #[R K (z:Int)] 3):=⟨_,rfl⟩;have N:La Y Z:=by rw[V];exact(AL _ _).alloc sm _
 have A:Boxed Z Y.heap.size 234 (L (E ⟨g,0,O⟩)):=by rw[V];exact(Boxed.new Y 234 _).alloc _
 have C:Boxed Z (Y.heap.size+1) 3 (R K (z:Int)):=by
  rw[V];have:=Boxed.new (Y.alloc (i7 #[L (E ⟨g,0,O⟩)] 234)) 3 (R K (z:Int))
  rwa[DN]at this
 rw[<-V];clear V;have af:Boxed Z w.heap.size 3 (R K 0):=(N.block _ bC.lt).trans bC;have H:La w Z:=I.trans (N.mono I.size);have e1:Z.heap[g]?=_:=(H.block g aa).trans hg;have e2:AU q (Bk ws) Z:=(H.block q a7).trans hq;have j:∀(i:Nat)(v:Int),(AG ws).wrd[i]?=E v->Z.cell? ⟨s,o0+i,O⟩=E (R K v):=λi v X=>(H.cell (p:=⟨s,o0+i,O⟩) ac).trans (hW i v X);have a1:=C.lt;rw[a6]at A C a1;have a8:=ahI ws g (w.heap.size+1) (w.heap.size+1+1) q n s o0 xc z _ _ _ (λk=>k<Z.heap.size/\k≠w.heap.size) 8 Z e1 e2 hN om j A C ⟨⟨by omega,by omega⟩,⟨by omega,by omega⟩,⟨by omega,by omega⟩,⟨by omega,by omega⟩,⟨by omega,by omega⟩⟩ (λk hk=>hk.1) hz;clear hg hq hW ha a2 ca e1 e2 A C j hN bC I N
 apply KI rfl (enters_of func188 kr rfl) a8 GD (JR λk hk=>hk.1) (λ_=>rfl)
  (λJ W=>Boxed W w.heap.size 3 (R K ((lc J:Nat):Int))/\La w W/\Z.heap.size<=W.heap.size)
  (λ_ _ _=>False)
 case hI=>exact OwnFrom.and (Own.from (boxed_own _ _ _) _) (OwnFrom.and (ownFrom_below (AC _) om) (Li _ _))
 case hIx=>exact λ_ _ _ _ _ hs _ _=>hs
 case h0=>exact⟨by simpa using af,H,AC _⟩
 case hassign=>
  intro l x W KB hK;unfold anB
  gi_wp2
  exact hK
 case hbody=>
  rintro l J ⟨y,hy⟩ W ⟨X,B,hs⟩ ag;dsimp only;obtain⟨m,hm⟩:∃m,lc J=m:=⟨_,rfl⟩;have HM:Hid ((J++[(⟨y,hy⟩:NdP n)]).length=m+1):=by rw[Hid,List.length_append,hm];rfl
  have aj:m<=1000000:=by omega
  rw[hm]at X;have c2:=X.cell;have c4:=X.frozen;have ak:=X.lt;clear hm
  gi_wp2
  refine⟨(Jp W ⟨w.heap.size,0,O⟩ (R K ((m:Int)+1))).from _,λk hk=>AQ _ _ _ _ hk.2,?_,B.setCell (AC _) _,by show Z.heap.size<=(W.setCell _ _).heap.size;rw[World.size_setCell];omega⟩;rw[HM.out];exact X.set (R K ((m:Int)+1))
 case hdone=>
  rintro D zs W hD hS ⟨X,B,hs⟩ ae;have HZ:Hid (((lc zs:Nat):Int)=(Jb ws z:Int)):=by unfold Hid Jb;rw[<-hS,BP]
  rw[HZ.out]at X;have ai:Boxed (W.putObj D (.deferred O)) w.heap.size 3 (R K (Jb ws z:Int)):=(Cm om).trans X;have c2:=X.cell;go_wp2;exact Gg rfl ae (results_tmp rfl _ _ _) ⟨rfl,FZ B om (AC _) _⟩
 case hstop=>exact λ_ _ _ _ _ _ h _=>h.elim
end
def Dm(ws:Lb):Nat->Nat
 |0=>0
 |i+1=>max (Dm ws i) (Jb ws i)
theorem akF(t:TV)(Ta:Ay)(sp ws:Lb)(w:Wa)(hT:Tri w t Ta)(hb:t.un<=140737488351232)(hr:CI Ta=E (sp,ws)) :Calls ZP 92 #[i8 t.cells] w λe w'=>e=ra (R K ((Dm ws (AB ws).length:Nat):Int))/\La w w':=by
 obtain⟨ua,un,uc,da,dn,dc,xa,xn,xc,ba,bn,bc⟩:=t;obtain⟨W,hW⟩:∃W,W=w.alloc (i7 #[T ua un uc,T da dn dc,T xa xn xc,T ba bn bc] 150):=⟨_,rfl⟩;have hB:La w W:=by rw[hW];exact AL _ _
 have hQ:W.heap[w.heap.size]?=E (i7 #[T ua un uc,T da dn dc,T xa xn xc,T ba bn bc] 150 (0,0)):=by rw[hW];exact AT _ _
 have c0:W.cell? ⟨w.heap.size,0,O⟩=E (T ua un uc):=by simp[cell?,hQ]
 have c1:W.cell? ⟨w.heap.size,1,O⟩=E (T da dn dc):=by simp[cell?,hQ]
 have c2:W.cell? ⟨w.heap.size,2,O⟩=E (T xa xn xc):=by simp[cell?,hQ]
 have c3:W.cell? ⟨w.heap.size,3,O⟩=E (T ba bn bc):=by simp[cell?,hQ]
 have HC:=AA (ae2 _ Ta sp ws W (hT.below hB) hb hr);have HN:Hid ((AB ws).length<=400):=Hx hr;obtain⟨_,D,_⟩:=Fy.1 hr;have J:Hid (Sl1 (R K) w xa xn (AG ws).wrd):=by rw[Hid,<-D];exact hT.wrd
 have a2:(AG ws).dep.length=dn:=by rw[<-D];exact hT.dep.1
 have a6:(AG ws).dep.length=(AB ws).length:=by simp[AG]
 rw[a6]at a2;subst a2;clear hT hr D a6;go_enter func92,ntmps92;go_upto_region 1 with fail
 rw[<-hW];clear hW
 go_wp2_with fail
 refine HC.out.mono ?_;rintro e H ⟨g,rfl,af,a8⟩;have ac:=hB.trans (a8.mono hB.size);clear c0 c1 c2 c3 hQ hB a8;go_upto_region 5 with fail
 obtain⟨B,V⟩:∃W,W=H.alloc (i7 #[L (E ⟨g,0,O⟩)] 234):=⟨_,rfl⟩;have a7:La H B:=by rw[V];exact AL _ _
 have N:Boxed B H.heap.size 234 (L (E ⟨g,0,O⟩)):=by rw[V];exact Boxed.new H 234 _
 rw[<-V];clear V;have U:=ac.trans (a7.mono ac.size);have Y:=af.below a7;have ak:=N.lt;obtain⟨q,C,f2,f3,f4⟩:=Y.ex;have A:(AG ws).wrd.length=xn:=J.out.1;rw[(Jt ws).1]at A;subst A;have au:g<B.heap.size:=(AD.1 C).1;have c7:=N.cell;have c8:B.cell? ⟨g,4,O⟩=E (T (E ⟨q,0,O⟩) (AB ws).length (AB ws).length):=by simp[cell?,C]
 have aq:=AA N;have ap:=AA Y;clear C f2 f3 f4 af N Y;obtain⟨n,hn⟩:∃n,(AB ws).length=n:=⟨_,rfl⟩;have I:=AA hn;rw[hn]at HC HN J c8;clear HC hn;have ar:n<=400:=HN.out
 go_wp2_with fail
 go_loopw[6,21] (λs6 ag wr=>∃i:Nat,i<=n/\s6=R K ((Dm ws i:Nat):Int)/\ag=R K i/\La B wr) (λ_ s _=>n-(intOf s).toNat)
 case atStart=>exact⟨0,AR _,rfl,rfl,AH _ _⟩
 case round=>
  obtain⟨i,hi,rfl,rfl,Z⟩:=hrel
  by_cases a1:i<n
  ·have hd:decide ((i:Int)<n)=G:=by simp;omega
   have ae:Boxed wr H.heap.size 234 (L (E ⟨g,0,O⟩)):=(Z.block _ ak).trans aq.out;have aa:=ap.out.below Z;obtain⟨q,C,f2,_⟩:=aa.ex;obtain⟨b0,o0,v0,ai,av,_,_⟩:=DG J.out a1;subst ai;have ab:=U.trans (Z.mono U.size);rw[I.out]at C;have HT:=AA (aht ws g q H.heap.size b0 o0 n xc i _ _ _ wr C f2 I.out (by have:=HN.out;omega) (λj v hv=>by
      obtain⟨b2,o2,x2,e2,al,ao,X⟩:=DG J.out (k:=j) (by rw[<-I.out,<-(Jt ws).1];exact(AP.1 hv).1)
      injection e2 with e2
      injection e2 with e3 e4 e5
      subst e3 e4;rw[hv]at X
      injection X with X
      subst X;exact(ab.cell (p:=⟨b0,o0+j,O⟩) al).trans ao) (by have:=ab.size;omega) ae a1)
   have aj:max ((Dm ws i:Nat):Int) ((Jb ws i:Nat):Int)=((Dm ws (i+1):Nat):Int):=by show _=((max (Dm ws i) (Jb ws i):Nat):Int);omega
   clear ae aa C f2
   go_wp2_with fail
   refine HT.out.mono ?_;rintro e w3 ⟨rfl,am⟩;go_wp2
   go_roundw
   case rel=>exact⟨i+1,by omega,by rw[<-aj],by go_num,Z.trans (am.mono Z.size)⟩
   case measure=>simp[intOf];omega
  ·obtain rfl:i=n:=by omega
   have hd:decide ((i:Int)<i)=M:=by simp
   go_wp2;go_ret;refine⟨?_,U.trans (Z.mono U.size)⟩;rw[I.out]
   rfl
section
variable {P:Program}{md:Region.Mode}{ops:Array Oper}{Q:Exit->Act->Wa->Prop}{S:Wa->Prop}
end
theorem aaS{P:Program}{ops:Array Oper}{S:Wa->Prop}{op:Oper}{a:Act}(X:Region.wanted op (yielded ops a.tmps)=G)(ty:TypeId)(x:Operand)(ho:op.op=.load ty x)
  (g:Nat) (Y:a.eval x=L (E ⟨g,0,O⟩)) (t:TypeId) (cs:Array Vk) (fr:Nat×Nat) (d:TypeDesc) (J:∀w,S w->w.heap[g]?=E (i7 cs t fr))
  (V:P.underlying ty=E d) (N:(match d with|.struct _|.array _ _=>G|_=>M)=G) (U:(P.info? ty).map (·.size)=E cs.size):YieldsIf P ops S op (i8 cs) a:=
 .inl ⟨X,λw Z=>by unfold execOp;simp only[ho,Y,Instr.loadAt,Instr.sureAddr,IN,IM,Result.andThen_ok,run_loadVar_row w g t ty cs fr d (J w Z) V N U]⟩
theorem anq{LO:List Int}(Z:lc LO=256)(m:Int)(row:Vk):(ZP.info? 146).map (·.size)=E (dvC LO m row).toArray.size:=by rw[Ko Z];exact Nl
theorem aoH{LO:List Int}(Z:lc LO=256)(m:Int)(row:Vk):Tryz.zeroCells146.size=(dvC LO m row).toArray.size:=by rw[amP,Ko Z,Ko CS]
def apB(MH:Act->Wa->Prop):Exit->Act->Wa->Prop
 |.normal,a,w=>MH a w
 |_,_,_=>False
theorem alp(ws:Lb):(AG ws).up.length=(AB ws).length:=by simp[AG]
def FD(Gf B:Nat)(Z:List Sv)(node:Nat)(l:List Int)(W:Wa):Prop:=∃v:Sv,W.heap[Gf]?=E (i7 ((Z.set node v).map svV).toArray 30 (0,0))/\FB W B (svV v) l
def GP(Gf n:Nat)(Z:Lb)(W:Wa):Prop:=∃Y:List Sv,W.heap[Gf]?=E (i7 (Y.map svV).toArray 30 (0,0))/\lc Y=n/\lc Z<=n/\(∀(i:Nat)(v:Sv),lc Z<=i->Y[i]?=E v->v=(O,0,0))/\
 ∀(i:Nat)(v:Sv)(xs:List Int),Y[i]?=E v->Z[i]?=E xs->Sl1 (R K) W v.1 v.2.1 xs/\v.2.1<=v.2.2/\∀p,v.1=E p->Gf<=p.block
theorem aov{w:Wa}{Gf node:Nat}{Z:List Sv}{v:Sv}{t:TypeId}(h:w.heap[Gf]?=E (i7 ((Z.set node v).map svV).toArray t (0,0)))(u:Sv):(w.setCell ⟨Gf,node,O⟩ (svV u)).heap[Gf]?=E (i7 ((Z.set node u).map svV).toArray t (0,0)):=by have:=AJ (i:=node) h (svV u);rw[this];simp[Is]
theorem FD.cell{W:Wa}{Gf B node:Nat}{Z:List Sv}{v:Sv}{t:TypeId}(h:W.heap[Gf]?=E (i7 ((Z.set node v).map svV).toArray t (0,0)))(Y:node<lc Z):W.cell? ⟨Gf,node,O⟩=E (svV v):=by rw[cell_of_row W Gf node _ _ _ h];simp[Gr,Y]
theorem FD.app{W U:Wa}{Gf B node:Nat}{H:List Sv}{l:List Int}{z:Int}{v u:Sv}{Y:Obj}(s:W.heap[Gf]?=E (i7 ((H.set node v).map svV).toArray 30 (0,0)))(V:FB W B (svV v) l)(hG:Gf<B)(a1:B<=W.heap.size)
  (X:U.ownsRow B 3 1 (svV u) (lc l+1) (l.map (R K)++[R K z])) (Z:(W.alloc Y).grownBy U (svV v).ownBlock) :
  U.heap[Gf]?=E (i7 ((H.set node v).map svV).toArray 30 (0,0))/\FD Gf B H node (l++[z]) (U.setCell ⟨Gf,node,O⟩ (svV u))/\KeepsOthers W (U.setCell ⟨Gf,node,O⟩ (svV u))/\(∀k,k<B->k≠Gf->(U.setCell ⟨Gf,node,O⟩ (svV u)).heap[k]?=W.heap[k]?)/\Below Gf W (U.setCell ⟨Gf,node,O⟩ (svV u)):=by
 have I:∀k,k<B->(svV v).ownBlock≠E k:=λk hk e=>by have:=(BA V k e).1;omega
 have J:U.heap[Gf]?=_:=(Z.block Gf (by simp;omega) (λe=>I Gf hG e.symm)).trans ((Bg W Y Gf om).trans s);refine⟨J,⟨u,aov J u,?_⟩,?_,λk hk D=>?_,?_⟩
 ·have:=World.ownsRow.kept X (BH U Gf node (svV u)) (.inr λe=>by have:=(BA X Gf e).1;omega);unfold FB;rw[List.length_append,Aj];exact this
 ·refine((KeepsOthers.alloc W Y).trans (KeepsOthers.of_grownBy Z λj o N A=>?_)).trans (Jp _ _ _)
  rcases(World.ownsRow.alloc V Y).2 with⟨h,_⟩|⟨g,cap,a2,h,_,C,_⟩
  ·rw[h]at N;simp[Value.ownBlock]at N
  ·rw[h]at N;obtain rfl:g=j:=by simpa[Value.ownBlock]using N
   rw[C]at A;cases A;rfl
 ·exact(AQ _ _ _ _ (by show k≠Gf;exact D)).trans ((Z.block k (by simp;omega) (λe=>I k hk e.symm)).trans (Bg _ _ _ om))
 ·refine(((AH Gf W).alloc om Y).grown Z (by simp;omega) λj N=>?_).setCell (p:=⟨Gf,node,O⟩) (AC _) (svV u);have:=(BA V j N).1;omega
theorem aft{α:Type}{Gf B p node:Nat}{J:List Sv}(H:p≠Gf)(I:p<B)(f:α->List Int):BL B (λr=>r=p) (λs W=>FD Gf B J node (f s) W):=by
 rintro s W j row ⟨v,Z,ho⟩ N U;have V:∀{k:Nat}{cs:Array Vk}{t:TypeId},W.heap[k]?=E (i7 cs t (0,0))->k≠p->row≠E k:=λ{k cs t} hk Y e=>by
  rcases U k e with⟨_,o,h1,h2⟩|h
  ·rw[hk]at h1;cases h1;cases h2
  ·exact Y h
 refine⟨v,(N.block Gf (AD.1 Z).1 (λe=>V Z (Ne.symm H) e.symm)).trans Z,ho.kept N ?_⟩
 rcases ho.2 with⟨h,_⟩|⟨g,cap,A,h,D,X,_⟩
 ·rw[h];exact .inl rfl
 ·rw[h];refine .inr λe=>?_;have C:row=E g:=by rw[<-e];rfl
  rcases U g C with⟨_,o,h1,h2⟩|h
  ·rw[X]at h1;cases h1;cases h2
  ·omega
theorem ahk{α:Type}{B Gf p:Nat}{P:Nat->Prop}{w:Wa}(V:∀k,k<B->P k->k≠p):BL B (λr=>r=p) (λ(_:α) W=>(∀k,k<B->P k->W.heap[k]?=w.heap[k]?)/\B<=W.heap.size):=λs W U row h Y X=>
 ⟨λk hk Z=>(Y.block k (Af hk h.2) (λe=>by
  rcases X k e.symm with⟨h1,_⟩|h1
  ·omega
  ·exact V k hk Z h1)).trans (h.1 k hk Z),AS h.2 Y.size⟩
theorem GP.new{W:Wa}{Gf n:Nat}(h:W.heap[Gf]?=E (i7 (GW n) 30 (0,0))):GP Gf n [] W:=by
 refine⟨List.replicate n (O,0,0),?_,by simp,AR _,λi v _ Z=>?_,λi v xs _ Y=>by simp at Y⟩
 ·rw[h];simp[GW,svV]
 ·rw[Jo]at Z
  split at Z
  ·exact(AK Z).symm
  ·cases Z
theorem Sl1.keptG{w W:Wa}{a:Option Addr}{n Gf:Nat}{x:List Int}{N:List Sv}{t:TypeId}(h:Sl1 (R K) w a n x)(H:w.heap[Gf]?=E (i7 (N.map svV).toArray t (0,0)))(hk:∀k,k<w.heap.size->k≠Gf->W.heap[k]?=w.heap[k]?)(D:w.heap.size<=W.heap.size):Sl1 (R K) W a n x:=by
 refine⟨h.1,?_⟩
 rcases h.2 with h0|⟨b,off,e,Z,U⟩
 ·exact .inl h0
 ·by_cases I:x=[]
  ·left;have:=h.1;rw[I]at this;simpa using this.symm
  ·refine .inr ⟨b,off,e,by omega,λj y V=>?_⟩;have X:b≠Gf:=by
    rintro rfl;have Y:=U j y V;rw[cell_of_row w b (off+j) _ _ _ H]at Y;simp only[Dy,BU,Fo]at Y;obtain⟨v,_,J⟩:=Y
    cases J
   exact(BC (a:=⟨b,off+j,O⟩) (hk b Z X)).trans (U j y V)
theorem GP.step{W I:Wa}{Gf n B node:Nat}{X:List Sv}{Z:Lb}{xs:List Int}(hg:W.heap[Gf]?=E (i7 (X.map svV).toArray 30 (0,0)))(hl:lc X=n)(j:lc Z=node)(hn:node<n)(U:∀(i:Nat)(v:Sv),lc Z<=i->X[i]?=E v->v=(O,0,0))
  (hr:∀(i:Nat)(v:Sv)(xs:List Int),X[i]?=E v->Z[i]?=E xs->Sl1 (R K) W v.1 v.2.1 xs/\v.2.1<=v.2.2/\∀p,v.1=E p->Gf<=p.block) (A:Gf<=B) (hh:FD Gf B X node xs I) (hk:∀k,k<W.heap.size->k≠Gf->I.heap[k]?=W.heap[k]?) (hs:W.heap.size<=I.heap.size):GP Gf n (Z++[xs]) I:=by
 obtain⟨v,h1,h2⟩:=hh;refine⟨_,h1,by simp[hl],by simp;omega,λi u J Y=>?_,λi u ys Y V=>?_⟩
 ·simp at J;rw[FH om]at Y;exact U i u om Y
 ·by_cases J:i=node
  ·subst J;rw[FU om]at Y;obtain rfl:=AK Y;rw[<-j,MX]at V;obtain rfl:=AK V;obtain⟨a,c,e,hc,H⟩:=Co (enc:=R K) h2;simp only[svV,IL]at e;obtain⟨s,e2,e3⟩:=e;rw[s,e2,e3];refine⟨H,hc,λp N=>?_⟩
   rcases h2.2 with⟨h,_⟩|⟨g,cap,a1,h,C,_⟩
   ·simp only[svV,IL]at h;rw[<-s,h.1]at N;cases N
   ·simp only[svV,IL]at h;rw[<-s,h.1]at N
    cases N
    exact AS A C
  ·rw[FH (Ne.symm J)]at Y;have D:=(AP.1 V).1;rw[By (by simp at D;omega)]at V;obtain⟨h3,h4⟩:=hr i u ys Y V;exact⟨h3.keptG hg hk hs,h4⟩
theorem GP.lls{W:Wa}{Gf n:Nat}{Z:Lb}(h:GP Gf n Z W)(U:lc Z=n):Lls W (E ⟨Gf,0,O⟩) n Z:=by obtain⟨V,h1,h2,_,_,h3⟩:=h;refine⟨V,⟨h2,.inr ⟨Gf,0,rfl,(AD.1 h1).1,λi v X=>?_⟩⟩,h2.trans U.symm,λi v xs X Y=>⟨(h3 i v xs X Y).1,(h3 i v xs X Y).2.1⟩⟩;rw[cell_of_row W Gf (0+i) _ _ _ h1];simp[X]
def FE(Q:Nat)(W:Wa):List Deferred->Prop
 |[]=>True
 |d::ds=>(∃D,d={target:=.collected D,args:=#[]}/\Q<=D/\W.heap[D]?=E (Obj.deferred (E []))/\∀Z∈ds,Z.target≠.collected D)/\FE Q W ds
theorem FE.lt{Q:Nat}{W:Wa}:∀{ds:List Deferred},FE Q W ds->∀D,(∃d∈ds,d.target=.collected D)->D<W.heap.size
 |[],_,D,⟨d,Z,_⟩=>by simp at Z
 |d0::ds,⟨⟨D0,e,_,h0,_⟩,h⟩,D,⟨d,Z,e1⟩=>by
  rcases CR.1 Z with rfl|Z
  ·rw[e]at e1
   cases e1
   exact(AD.1 h0).1
  ·exact FE.lt h D ⟨d,Z,e1⟩
theorem FE.keep{Q:Nat}{W V:Wa}:∀{ds:List Deferred},FE Q W ds->(∀D,(∃d∈ds,d.target=.collected D)->W.heap[D]?=E (Obj.deferred (E []))->V.heap[D]?=E (Obj.deferred (E [])))->FE Q V ds
 |[],_,_=>trivial
 |d0::ds,⟨⟨D0,e,hq,h0,hn⟩,h⟩,hk=>⟨⟨D0,e,hq,hk D0 ⟨d0,List.mem_cons_self ..,by rw[e]⟩ h0,hn⟩,FE.keep h λD ⟨d,Z,Y⟩=>hk D ⟨d,MT _ Z,Y⟩⟩
theorem FE.push{Q D Gf:Nat}{W V:Wa}{ds:List Deferred}(h:FE Q W ds)(hk:∀k,k<W.heap.size->k≠Gf->V.heap[k]?=W.heap[k]?)(X:∀l:Option (List Deferred),W.heap[Gf]?≠E (Obj.deferred l))(I:W.heap.size<=D)(Y:V.heap[D]?=E (Obj.deferred (E [])))(J:Q<=W.heap.size) :FE Q V ({target:=.collected D,args:=#[]}::ds):=by
 refine⟨⟨D,rfl,by omega,Y,λU Z e=>?_⟩,h.keep λN Z h0=>?_⟩
 ·have:=h.lt D ⟨U,Z,e⟩;omega
 ·rw[hk N (AD.1 h0).1 (λe=>X _ (by rw[<-e];exact h0))];exact h0
def FA(Q:Nat)(W Z:Wa):Prop:=Below Q W Z/\Z.heap.size=W.heap.size/\∀k:Nat,(∀l:Option (List Deferred),W.heap[k]?≠E (Obj.deferred l))->Z.heap[k]?=W.heap[k]?
theorem apl{P:Program}{fn:Func}{Ra:Ending->Wa->Prop}{tmps:Array Vk}{Q:Nat}:∀(ds:List Deferred)(W:Wa),Q<=W.heap.size->FE Q W ds->(∀Y,FA Q W Y->∃v,(results fn tmps).run P Y=.ok v Y/\Ra (ra v) Y)->
  LeavesInM Fence.wide 9 P fn tmps Ra ds .returning W
 |[],W,_,_,h=>h W ⟨AH _ _,rfl,λ_ _=>rfl⟩
 |d::ds,W,hQ,⟨⟨D,e,hq,hD,hn⟩,hc⟩,h=>by
  subst e;refine⟨by simp,.inl ⟨_,_,rfl,run_takeDeferred hD,apl ds _ (by simpa[World.putObj]using hQ) (hc.keep λJ U h0=>?_) (λY Z=>h Y ⟨(FZ (AH Q W) hq hQ _).trans Z.1,by rw[Z.2.1];simp[World.putObj],λk hk=>?_⟩)⟩⟩
  ·obtain⟨N,h1,h2⟩:=U;rw[Cm (λe=>hn N h1 (by rw[h2,e]))];exact h0
  ·have X:k≠D:=λe=>hk _ (by rw[e];exact hD);have V:(W.putObj D (.deferred O)).heap[k]?=W.heap[k]?:=Cm X;rw[Z.2.2 k (λl=>by rw[V];exact hk l),V]
theorem FA.cell{Q:Nat}{W Y:Wa}(h:FA Q W Y){a:Addr}{v:Vk}(Z:W.cell? a=E v):Y.cell? a=E v:=by rw[<-Z];refine BC (h.2.2 _ λl e=>?_);unfold cell? at Z;rw[e]at Z;simp at Z
theorem FA.box{Q:Nat}{W X:Wa}(h:FA Q W X){k:Nat}{cs:Array Vk}{t:TypeId}{Y:Nat×Nat}(Z:W.heap[k]?=E (i7 cs t Y)):X.heap[k]?=E (i7 cs t Y):=(h.2.2 k λl e=>by rw[Z]at e;cases e).trans Z
theorem FA.sl1{α:Type}{enc:α->Vk}{Q:Nat}{W X:Wa}(h:FA Q W X){a:Option Addr}{n:Nat}{xs:List α}(Y:Sl1 enc W a n xs):Sl1 enc X a n xs:=by
 refine⟨Y.1,?_⟩
 rcases Y.2 with h0|⟨b,off,e,Z,U⟩
 ·exact .inl h0
 ·exact .inr ⟨b,off,e,by rw[h.2.1];exact Z,λi x V=>h.cell (U i x V)⟩
theorem FA.wds{Q:Nat}{W X:Wa}(h:FA Q W X){a:Option Addr}{n:Nat}{wss:Lb}(U:Wds W a n wss):Wds X a n wss:=by obtain⟨V,h1,h2,h3⟩:=U;exact⟨V,h.sl1 h1,h2,λi v xs Y Z=>⟨⟨h.sl1 (h3 i v xs Y Z).1.1,(h3 i v xs Y Z).1.2⟩,(h3 i v xs Y Z).2⟩⟩
theorem FA.lls{Q:Nat}{W V:Wa}(h:FA Q W V){a:Option Addr}{n:Nat}{Z:Lb}(N:Lls W a n Z):Lls V a n Z:=by obtain⟨U,h1,h2,h3⟩:=N;exact⟨U,h.sl1 h1,h2,λi v xs X Y=>⟨h.sl1 (h3 i v xs X Y).1,(h3 i v xs X Y).2⟩⟩
theorem FA.mok{Q:Nat}{W N:Wa}(h:FA Q W N){B Ra V U wc:Nat}{fold:Bool}{wss:Lb}{lo X:Int}{a Y:Option Addr}(Z:MOK W B fold wss lo X Ra a V U Y wc):MOK N B fold wss lo X Ra a V U Y wc:=⟨⟨h.box Z.mc.box,Z.mc.len⟩,h.box Z.row,h.wds Z.wds,h.lls Z.lls⟩
theorem adm{a b c:Wa}{Gf:Nat}(h:a.grownBy b (E Gf))(k:b.grownBy c (E Gf)):a.grownBy c (E Gf):=⟨k.os.trans h.os,k.tape.trans h.tape,k.output.trans h.output,AS h.size k.size,λi Y Z=>(k.block i (Af Y h.size) Z).trans (h.block i Y Z)⟩
theorem Mc.setW{w:Wa}{B:Nat}{LO:List Int}{m n:Int}{row:Vk}{fold:Bool}{Z:Vk}{lo Y:Int}{wd:Vk}(h:Mc w B LO m n row fold Z lo Y wd)(u:Vk):Mc (w.setCell ⟨B,263,O⟩ u) B LO m n row fold Z lo Y u:=by refine⟨?_,h.len⟩;rw[AJ (i:=263) h.box u];simp[mcC,List.set_append,h.len]
theorem abM{w:Wa}{base Z n size:Nat}{e:TypeId}{v:Vk}{xs:List Vk}(h:w.ownsRow base e size v n xs)(X:Z<=base):w.ownsRow Z e size v n xs:=⟨h.1,h.2.imp id λ⟨g,cap,Y,h1,h2,r⟩=>⟨g,cap,Y,h1,by omega,r⟩⟩
theorem BI.lower{w:Wa}{b b':Nat}{v:Vk}{wss:Lb}(h:BI w b v wss)(X:b'<=b):BI w b' v wss:=by obtain⟨es,h1,h2,h3⟩:=h;exact⟨es,abM h1 X,h2,λi e xs Y Z=>⟨abM (h3 i e xs Y Z).1 X,(h3 i e xs Y Z).2⟩⟩
def EF(q:Nat)(W V:Wa):Prop:=W.heap.size<=V.heap.size/\∀k,q<=k->k<W.heap.size->(∀l,W.heap[k]?≠E (Obj.deferred l))->V.heap[k]?=W.heap[k]?
theorem EF.cell{q:Nat}{W V:Wa}(h:EF q W V){a:Addr}{v:Vk}(X:q<=a.block)(Z:W.cell? a=E v):V.cell? a=E v:=by rw[<-Z];have Y:=DO W a Z;refine BC (h.2 _ X Y λl e=>?_);unfold cell? at Z;rw[e]at Z;simp at Z
theorem EF.box{q:Nat}{W V:Wa}(h:EF q W V){k:Nat}{cs:Array Vk}{t:TypeId}{Y:Nat×Nat}(X:q<=k)(Z:W.heap[k]?=E (i7 cs t Y)):V.heap[k]?=E (i7 cs t Y):=(h.2 k X (AD.1 Z).1 λl e=>by rw[Z]at e;cases e).trans Z
theorem EF.row{q:Nat}{W V:Wa}(h:EF q W V){e:TypeId}{size n:Nat}{v:Vk}{xs:List Vk}(ho:W.ownsRow q e size v n xs):V.ownsRow q e size v n xs:=⟨ho.1,ho.2.imp id λ⟨g,cap,Z,h1,h2,h3,r⟩=>⟨g,cap,Z,h1,h2,h.box h2 h3,r⟩⟩
theorem EF.ownW{q:Nat}{W V:Wa}(h:EF q W V){v:Vk}{wss:Lb}(ho:BI W q v wss):BI V q v wss:=by obtain⟨es,h1,h2,h3⟩:=ho;exact⟨es,h.row h1,h2,λi e xs Y Z=>⟨h.row (h3 i e xs Y Z).1,(h3 i e xs Y Z).2⟩⟩
theorem EF.sl1{α:Type}{enc:α->Vk}{q:Nat}{W V:Wa}(h:EF q W V){a:Option Addr}{n:Nat}{xs:List α}(ha:∀p,a=E p->q<=p.block)(Y:Sl1 enc W a n xs):Sl1 enc V a n xs:=by
 refine⟨Y.1,?_⟩
 rcases Y.2 with h0|⟨b,off,e,Z,U⟩
 ·exact .inl h0
 ·exact .inr ⟨b,off,e,Af Z h.1,λi x X=>h.cell (a:=⟨b,off+i,O⟩) (show q<=b from ha _ e) (U i x X)⟩
theorem EF.of_below{q:Nat}{W V:Wa}(Z:La W V):EF q W V:=⟨Z.size,λk _ hk _=>Z.block k hk⟩
theorem FA.kept{Q q:Nat}{W Z:Wa}(h:FA Q W Z):EF q W Z:=⟨by rw[h.2.1];exact AC _,λk _ _ Y=>h.2.2 k Y⟩
structure Il(q:Nat)(W:World)(B R:Nat)(a:Option Addr)(la ca:Nat)(wss:Lb)(wa:Option Addr):Prop where
 b:q<=B
 r:q<=R
 own:BI W q (T a la ca) wss
 rows:∃vs:List Sv,Sl1 (λv=>T v.1 v.2.1 v.2.2) W wa (AB wss).length vs/\vs.length=(AB wss).length/\(∀(i:Nat)(v:Sv)(xs:List Int),vs[i]?=some v->((List.range (AB wss).length).map (CA wss))[i]?=some xs->Sl1 (Value.int K) W v.1 v.2.1 xs/\v.2.1<=v.2.2/\∀p,v.1=some p->q<=p.block)/\∀p,wa=some p->q<=p.block
theorem Il.kept{q B Ra U N:Nat}{W V:Wa}{a X:Option Addr}{wss:Lb}(h:Il q W B Ra a U N wss X)(hk:EF q W V):Il q V B Ra a U N wss X:=by obtain⟨J,h1,h2,h3,h4⟩:=h.rows;exact⟨h.b,h.r,hk.ownW h.own,J,hk.sl1 h4 h1,h2,λi v xs Y Z=>⟨hk.sl1 (h3 i v xs Y Z).2.2 (h3 i v xs Y Z).1,(h3 i v xs Y Z).2⟩,h4⟩
theorem Il.mok{q B Ra Y U wc:Nat}{W V:Wa}{fold:Bool}{lo N:Int}{a Z:Option Addr}{wss:Lb}(h:Il q W B Ra a Y U wss Z)(hk:EF q W V)(X:MOK W B fold wss lo N Ra a Y U Z wc):MOK V B fold wss lo N Ra a Y U Z wc:=by obtain⟨C,h1,h2,h3,h4⟩:=(h.kept hk).rows;obtain⟨e,j,D,_,I⟩:=(h.kept hk).own.wds;simp only[IL]at D;obtain⟨A,e2,s⟩:=D;rw[<-A,<-e2]at I;exact⟨⟨hk.box h.b X.mc.box,X.mc.len⟩,hk.box h.r X.row,I,C,h1,by simpa using h2,λi v xs H J=>⟨(h3 i v xs H J).1,(h3 i v xs H J).2.1⟩⟩
theorem GP.far{W:Wa}{Gf n q:Nat}{Z:Lb}(h:GP Gf n Z W)(N:q<=Gf):∃Y:List Sv,Sl1 (λv=>T v.1 v.2.1 v.2.2) W (E ⟨Gf,0,O⟩) n Y/\lc Y=n/\(∀(i:Nat)(v:Sv)(xs:List Int),Y[i]?=E v->Z[i]?=E xs->Sl1 (R K) W v.1 v.2.1 xs/\v.2.1<=v.2.2/\∀p,v.1=E p->q<=p.block)/\∀p,(E ⟨Gf,0,O⟩:Option Addr)=E p->q<=p.block:=by obtain⟨Y,h1,h2,_,_,h3⟩:=h;refine⟨Y,⟨h2,.inr ⟨Gf,0,rfl,(AD.1 h1).1,λi v X=>?_⟩⟩,h2,λi v xs X V=>⟨(h3 i v xs X V).1,(h3 i v xs X V).2.1,λp U=>AS N ((h3 i v xs X V).2.2 p U)⟩,λp U=>by cases U;exact N⟩;rw[cell_of_row W Gf (0+i) _ _ _ h1];simp[X,svV]
section
variable {P:Program}{md:Region.Mode}{ops:Array Oper}{Q:Exit->Act->Wa->Prop}{S:Wa->Prop}
def Kz(P:Program)(ops:Array Oper)(Q:Exit->Act->Wa->Prop)(S:Wa->Prop)(o:Oper)(Ra:Vk->Wa->Prop)(a:Act):Prop:=
 ∀w,S w->∀KB:Act->Wa->Prop,(∀v w',S w'->Ra v w'->La w w'->KB (a.put o.dst v) w')->if Region.wanted o (yielded ops a.tmps)=G then Oper.wp P o a w KB Q else KB (a.put o.dst undef) w
end
structure Oq(P:Program)(ops:Array Oper)(Q:Exit->Act->World->Prop)(S:World->Prop)(k:Nat)(ok:Oper)(Rk:Value->World->Prop)(G:Act->Prop)(u0:World):Prop where
 hk:ops[k]?=some ok
 kp:∀v (w w':World),Rk v w->La w w'->Rk v w'
 yk:∀(f:Act) w,G f->S w->La u0 w->∀K:Act->World->Prop,(∀v w',S w'->Rk v w'->La w w'->K (f.put ok.dst v) w')->if Region.wanted ok (yielded ops f.tmps)=true then Oper.wp P ok f w K Q else K (f.put ok.dst undef) w
structure Flt(P:Program)(md:Region.Mode)(ops:Array Oper)(Q:Exit->Act->World->Prop)(S:World->Prop)(k:Nat)(dk:Option Tmp)(Rk:Value->World->Prop)(fuel:Nat)(listed:Array Bool)(a:Act)(u u0:World):Prop where
 pend:∀w,S w->La u w->La u0 w->wpAnyH P md ops Q S (fuel+1) listed a w
 did:∀vk w,S w->La u w->La u0 w->Rk vk w->wpAnyH P md ops Q S fuel (listed.setIfInBounds k true) (a.put dk vk) w
section
variable {P:Program}{md:Region.Mode}{ops:Array Oper}{Q:Exit->Act->Wa->Prop}{S:Wa->Prop}{k:Nat}{Rk:Vk->Wa->Prop}{fuel:Nat}{listed:Array Bool}{a:Act}{u u0:Wa}{ok:Oper}{Gf:Act->Prop}
theorem arh(k:Nat)(Rk:Vk->Wa->Prop)(Gf:Act->Prop){ok:Oper}{w:Wa}(mk:∀v (w w':Wa),Rk v w->La w w'->Rk v w')(yk:∀(f:Act) V,Gf f->S V->La w V->∀KB:Act->Wa->Prop,(∀v w',S w'->Rk v w'->La V w'->KB (f.put ok.dst v) w')->if Region.wanted ok (yielded ops f.tmps)=G then Oper.wp P ok f V KB Q else KB (f.put ok.dst undef) V)(h:Oq P ops Q S k ok Rk Gf w->Flt P md ops Q S k ok.dst Rk fuel listed a w w)
  (hk:ops[k]?=E ok:=by(simp only[pD,pE,pF];rfl)) (Z:S w:=by assumption):wpAnyH P md ops Q S (fuel+1) listed a w:=(h ⟨hk,mk,yk⟩).pend w Z (AH _ _) (AH _ _)
theorem apJ(k:Nat)(Rk:Vk->Wa->Prop){ok:Oper}{w:Wa}(mk:∀v (w w':Wa),Rk v w->La w w'->Rk v w')(yk:∀(f:Act) V,S V->La w V->∀KB:Act->Wa->Prop,(∀v w',S w'->Rk v w'->La V w'->KB (f.put ok.dst v) w')->if Region.wanted ok (yielded ops f.tmps)=G then Oper.wp P ok f V KB Q else KB (f.put ok.dst undef) V)(h:Oq P ops Q S k ok Rk (λ_=>True) w->Flt P md ops Q S k ok.dst Rk fuel listed a w w)
  (hk:ops[k]?=E ok:=by(simp only[pD,pE,pF];rfl)) (Z:S w:=by assumption):wpAnyH P md ops Q S (fuel+1) listed a w:=(h ⟨hk,mk,λf V _=>yk f V⟩).pend w Z (AH _ _) (AH _ _)
theorem Oo(D:Oq P ops Q S k ok Rk Gf u0)(i:Nat)(Ri:Vk->Wa->Prop){I:Oper}
  (y:∀f,(f=a∨∃v,f=a.put ok.dst v)->∀w,S w->La u w->∀KB:Act->Wa->Prop,(∀v w',S w'->Ri v w'->La w w'->KB (f.put I.dst v) w')->if Region.wanted I (yielded ops f.tmps)=G then Oper.wp P I f w KB Q else KB (f.put I.dst undef) w)
  (H:∀N s,S s->La u s->Ri N s->Flt P md ops Q S k ok.dst Rk fuel (listed.setIfInBounds i G) (a.put I.dst N) s u0)
  (hi:ops[i]?=E I:=by(simp only[pD,pE,pF];rfl)) (j:Region.ready md ops listed=(if k<i then [k,i] else [i,k]):=by as_aux_lemma=>kernel_rfl) (e:Region.ready md ops (listed.setIfInBounds k G)=[i]:=by as_aux_lemma=>kernel_rfl) (a1:i≠k:=by decide) (hn:I.dst≠ok.dst:=by decide) (hG:Gf a:=by first|trivial|rfl):Flt P md ops Q S k ok.dst Rk (fuel+1) listed a u u0:=by
 have hd:∀d,ok.dst=E d->I.dst≠E d:=λd h1 h2=>hn (h2.trans h1.symm);have did:∀U w,S w->La u w->La u0 w->Rk U w->wpAnyH P md ops Q S (fuel+1) (listed.setIfInBounds k G) (a.put ok.dst U) w:=λU w C X h0 A=>by refine wpAnyH_ready e sm (Aw hi (λKB J=>y _ (.inr ⟨U,rfl⟩) w C X KB (λN w' Z V Y=>J.out _ _ Z (λ_=>?_))) Ci);have h:=(H N w' Z (X.trans (Y.mono X.size)) V).did U w' Z (AH _ _) (h0.trans (Y.mono h0.size)) (D.kp _ _ _ A Y);rw[OO _ _ a1,<-Act.put_comm a U N hd]at h;exact h
 refine⟨λw C X h0=>?_,did⟩
 by_cases B:k<i
 ·rw[Lq B]at j;refine wpAnyH_ready j sm (Aw D.hk (λKB J=>D.yk _ w hG C h0 KB (λU w' Z A Y=>J.out _ _ Z (λ_=>?_))) (Aw hi (λKB J=>y _ (.inl rfl) w C X KB (λN w' Z V Y=>J.out _ _ Z (λ_=>?_))) Ci))
  ·exact did U w' Z (X.trans (Y.mono X.size)) (h0.trans (Y.mono h0.size)) A
  ·exact(H N w' Z (X.trans (Y.mono X.size)) V).pend w' Z (AH _ _) (h0.trans (Y.mono h0.size))
 ·rw[Lc B]at j;refine wpAnyH_ready j sm (Aw hi (λKB J=>y _ (.inl rfl) w C X KB (λN w' Z V Y=>J.out _ _ Z (λ_=>?_))) (Aw D.hk (λKB J=>D.yk _ w hG C h0 KB (λU w' Z A Y=>J.out _ _ Z (λ_=>?_))) Ci))
  ·exact(H N w' Z (X.trans (Y.mono X.size)) V).pend w' Z (AH _ _) (h0.trans (Y.mono h0.size))
  ·exact did U w' Z (X.trans (Y.mono X.size)) (h0.trans (Y.mono h0.size)) A
theorem apH(D:Oq P ops Q S k ok Rk Gf u0)(i:Nat){Z:Oper}{v:Vk}(y:∀f,(f=a∨∃v,f=a.put ok.dst v)->YieldsIf P ops S Z v f)
  (H:Flt P md ops Q S k ok.dst Rk fuel (listed.setIfInBounds i G) (a.put Z.dst v) u u0)
  (C:ops[i]?=E Z:=by(simp only[pD,pE,pF];rfl)) (I:Region.noSelect ops=G:=by as_aux_lemma=>kernel_rfl) (j:Region.free md ops listed i=G:=by as_aux_lemma=>kernel_rfl) (A:(Region.ready md ops listed).contains i=G:=by as_aux_lemma=>kernel_rfl)
  (N:Region.free md ops (listed.setIfInBounds k G) i=G:=by as_aux_lemma=>kernel_rfl) (V:(Region.ready md ops (listed.setIfInBounds k G)).contains i=G:=by as_aux_lemma=>kernel_rfl) (U:i≠k:=by decide) (s:Z.dst≠ok.dst:=by decide)
  (B:∀c b w,Q (.panic c) (Act.put b Z.dst v) w->Q (.panic c) b w:=by exact λ_ _ _ h=>h):Flt P md ops Q S k ok.dst Rk (fuel+1) listed a u u0:=by
 have e:∀d,ok.dst=E d->Z.dst≠E d:=λd h1 h2=>s (h2.trans h1.symm);refine⟨λw Y J h0=>wpAnyH_take C I j A (λc=>B c) (y _ (.inl rfl)) Y (H.pend w Y J h0),λX w Y J h0 hR=>?_⟩;refine wpAnyH_take C I N V (λc=>B c) (y _ (.inr ⟨X,rfl⟩)) Y ?_;have h:=H.did X w Y J h0 hR;rw[OO _ _ U,<-Act.put_comm a X v e]at h;exact h
theorem apI(D:Oq P ops Q S k ok Rk Gf u0)(H:∀Y w,S w->La u w->La u0 w->Rk Y w->wpAnyH P md ops Q S fuel (listed.setIfInBounds k G) (a.put ok.dst Y) w)(U:Region.ready md ops listed=[k]:=by as_aux_lemma=>kernel_rfl)(C:Gf a:=by first|trivial|rfl):Flt P md ops Q S k ok.dst Rk fuel listed a u u0:=⟨λw N V h0=>wpAnyH_ready U sm (Aw D.hk (λKB I=>D.yk _ w C N h0 KB (λY w' Z J X=>I.out _ _ Z (λ_=>H Y w' Z (V.trans (X.mono V.size)) (h0.trans (X.mono h0.size)) J))) Ci),H⟩
end
end Go.Proofs.YtaamacoicojhnaaGreat
