/- Proofs over the given program, part 14. -/
import Derived.Test.YtaamacoicojhnaaGreatZR13
set_option linter.unusedVariables false
set_option linter.unusedSimpArgs false
set_option maxRecDepth 100000
set_option maxHeartbeats 16000000
open Go.Proofs.Tryz
open Go.Proofs.Tryz renaming prog→ZP
open Go.World(cell? frozen?)
open Go.Value(int slice pointer bool)
open Go.IntKind(i64)
namespace Go.Proofs.YtaamacoicojhnaaGreat
open Go.RowKit Go.Sort
section
variable {P:Program}{md:Region.Mode}{ops:Array Oper}{Q:Exit->Act->World->Prop}{S:World->Prop}
theorem ad2(i j k:Nat)(y Rj Rk:Value->World->Prop){D x ok:Oper}{J:Nat}{Z:Array Bool}{a:Act}{w:World}(hi:ops[i]?=some D)(hj:ops[j]?=some x)(hk:ops[k]?=some ok)
  (hr:Region.ready md ops Z=[i,k]) (ac:Region.ready md ops (Z.setIfInBounds i true)=[j,k]) (ab:Region.ready md ops (Z.setIfInBounds k true)=[i])
  (a1:Region.ready md ops ((Z.setIfInBounds i true).setIfInBounds k true)=[j])
  (ae:i≠k) (ad:j≠k) (a6:D.dst≠ok.dst) (a2:x.dst≠ok.dst) (hS:S w)
  (mi:∀v (w w':World),y v w->Bt w w'->y v w') (mj:∀v (w w':World),Rj v w->Bt w w'->Rj v w') (mk:∀v (w w':World),Rk v w->Bt w w'->Rk v w')
  (yi:Kz P ops Q S D y a) (yk:Kz P ops Q S ok Rk a) (aa:∀V,Kz P ops Q S D y (a.put ok.dst V))
  (yj:∀Y,Kz P ops Q (λw=>S w/\y Y w) x Rj (a.put D.dst Y)) (a7:∀Y,Kz P ops Q S ok Rk (a.put D.dst Y))
  (a8:∀Y V,Kz P ops Q (λw=>S w/\y Y w) x Rj ((a.put D.dst Y).put ok.dst V))
  (H2:∀Y A w',S w'->y Y w'->Rj A w'->Bt w w'->wpAnyH P md ops Q S (J+1) ((Z.setIfInBounds i true).setIfInBounds j true) ((a.put D.dst Y).put x.dst A) w')
  (H:∀Y A V w',S w'->y Y w'->Rj A w'->Rk V w'->Bt w w'->wpAnyH P md ops Q S J (((Z.setIfInBounds i true).setIfInBounds j true).setIfInBounds k true) (((a.put D.dst Y).put x.dst A).put ok.dst V) w'):wpAnyH P md ops Q S (J+3) Z a w:=by
 have ag:∀d,ok.dst=some d->D.dst≠some d:=λd h1 h2=>a6 (h2.trans h1.symm);have af:∀d,ok.dst=some d->x.dst≠some d:=λd h1 h2=>a2 (h2.trans h1.symm);have tail:∀Y V (u:World),S u->y Y u->Rk V u->Bt w u->wpAnyH P md ops Q S (J+1) ((Z.setIfInBounds i true).setIfInBounds k true) ((a.put D.dst Y).put ok.dst V) u:=λY V u N I C z=>by refine wpAnyH_ready a1 sm (Aw hj (λK B=>a8 Y V u ⟨N,I⟩ K (λA u' s e X=>B.out _ _ s.1 (λ_=>?_))) Ci);have h:=H Y A V u' s.1 s.2 e (mk _ _ _ C X) (z.trans (X.mono z.size));rw[OO _ _ ad,<-Act.put_comm (a.put D.dst Y) V A af]at h;exact h
 refine wpAnyH_ready hr sm (Aw hi (λK B=>yi w hS K (λY u N I z=>B.out _ _ N (λ_=>?_))) (Aw hk (λK B=>yk w hS K (λV u N C z=>B.out _ _ N (λ_=>?_))) Ci))
 ·refine wpAnyH_ready ac sm (Aw hj (λK B=>yj Y u ⟨N,I⟩ K (λA u2 U e X=>B.out _ _ U.1 (λ_=>?_))) (Aw hk (λK B=>a7 Y u N K (λV u2 U C X=>B.out _ _ U (λ_=>tail Y V u2 U (mi _ _ _ I X) C (z.trans (X.mono z.size))))) Ci));exact H2 Y A u2 U.1 U.2 e (z.trans (X.mono z.size))
 ·refine wpAnyH_ready ab sm (Aw hi (λK B=>aa V u N K (λY u2 U I X=>B.out _ _ U (λ_=>?_))) Ci);have h:=tail Y V u2 U I (mk _ _ _ C X) (z.trans (X.mono z.size));rw[OO _ _ ae,<-Act.put_comm a V Y ag]at h;exact h
end
theorem Gy{w:World}{base n size:Nat}{e:TypeId}{v:Value}{xs:List Value}(h:w.ownsRow base e size v n xs):∃a c,v=slice a n c/\n<=c/\SlK size w a n xs/\∀q,a=some q->base<=q.block/\q.block<w.heap.size:=by obtain⟨a,c,rfl,h1,h2⟩:=SlK.own h;exact⟨a,c,rfl,h1,h2,λq Z=>Gw h q.block (by rw[Z];rfl)⟩
def anc(B N:Nat)(Z:List Int)(v:Value)(X:World):Prop:=∃a Y,v=slice a N Y/\ByD (λk=>B<=k/\k<X.heap.size) X a N Z
def anj(B N:Nat)(Z:List Int)(V Y wm:Nat)(v:Value)(X:World):Prop:=∃a U,v=.agg #[int i64 (V:Int),int i64 (Y:Int),int i64 (wm:Int),slice a N U]/\ByD (λk=>B<=k/\k<X.heap.size) X a N Z
def anT(B:Nat)(v:Value)(X:World):Prop:=∃b,v=pointer (some ⟨b,0,none⟩)/\B<=b/\X.heap[b]?=some (.cells #[int i64 0,int i64 0,int i64 0,slice none 0 0] 120 (0,0))
theorem agB{B N:Nat}{Z:List Int}{a:Option Addr}{X Y:World}(h:ByD (λk=>B<=k/\k<X.heap.size) X a N Z)(V:Bt X Y):ByD (λk=>B<=k/\k<Y.heap.size) Y a N Z:=(h.keep (Y:=λ_=>False) (.of_same V) λ_ _ _ h=>h).wide λk _ hk=>⟨hk.1,Af hk.2 V.size⟩
theorem aje(B N:Nat)(Z:List Int)(v:Value)(X Y:World)(h:anc B N Z v X)(V:Bt X Y):anc B N Z v Y:=let⟨a,cc,h1,h2⟩:=h;⟨a,cc,h1,agB h2 V⟩
theorem aji(B N:Nat)(Z:List Int)(U V wm:Nat)(v:Value)(X Y:World)(h:anj B N Z U V wm v X)(J:Bt X Y):anj B N Z U V wm v Y:=let⟨a,cc,h1,h2⟩:=h;⟨a,cc,h1,agB h2 J⟩
theorem ao4(B:Nat)(v:Value)(X Y:World)(h:anT B v X)(Z:Bt X Y):anT B v Y:=let⟨b,h1,h2,h3⟩:=h;⟨b,h1,h2,(Z.block b (AD.1 h3).1).trans h3⟩
theorem aip{A:PAd}{c:CfM}{s:PlM}{o:Nat->Nat}(w W:World)(h:AE A c o s w W)(z:List Int)(hu:s.us[s.rd.buf]?=some true)(hd:s.ds[s.rd.buf]?=some z)(hl:z.length<=100000)(ap:∀x∈z,0<=x/\x<=255)(hq:s.q.length<c.Q)(aG:s.shut=false)(hF:c.F+s.rd.ahead<=4611686018428387904)(aq:s.number<=1000000000) :Calls ZP 144 #[pointer (some ⟨A.R,0,none⟩)] W λe w'=>e=.returned (.tuple #[])/\AE A c o (putR c s) w w':=by
 have k0:=h.ceR 0 (pointer (some ⟨A.P,0,none⟩)) λ_=>rfl;obtain⟨I,aA⟩:∃m,s.number=m:=⟨_,rfl⟩;obtain⟨bf,af⟩:∃m,s.rd.buf=m:=⟨_,rfl⟩;obtain⟨ah,aC⟩:∃m,s.rd.ahead=m:=⟨_,rfl⟩;obtain⟨wm,ax⟩:∃m,s.rd.warm=m:=⟨_,rfl⟩;obtain⟨N,hN⟩:∃m,z.length=m:=⟨_,rfl⟩;have X:Hid (∀V,Bt W V->V.cell? ⟨A.P,16,none⟩=some (int i64 (I:Int))/\V.cell? ⟨A.P,7,none⟩=some (int i64 (c.F:Int))/\V.cell? ⟨A.R,10,none⟩=some (int i64 (ah:Int))/\V.cell? ⟨A.R,8,none⟩=some (int i64 (wm:Int))/\V.cell? ⟨A.P,11,none⟩=some (pointer (some ⟨A.Bb,0,none⟩))/\V.cell? ⟨A.R,7,none⟩=some (int i64 (bf:Int))):=λV Z=>by have hg:=h.bel Z;exact⟨hg.ceP 16 _ λ_=>by rw[<-aA];rfl,hg.ceP 7 _ λ_=>rfl,hg.ceR 10 _ λ_=>by rw[<-aC];rfl,hg.ceR 8 _ λ_=>by rw[<-ax];rfl,hg.ceP 11 _ λ_=>rfl,hg.ceR 7 _ λ_=>by rw[<-af];rfl⟩
 have HD:Hid (∀V,Bt W V->Calls ZP 195 #[pointer (some ⟨A.Bb,0,none⟩),int i64 (bf:Int)] V λe w'=>∃a cc,e=.returned (slice a N cc)/\ByD (λk=>W.heap.size<=k/\k<w'.heap.size) w' a N z/\Bt V w'):=λV Z=>(h.bel Z).low λo1 h1=>by rw[<-af,<-hN];refine(ap4 h1 s.rd.buf z hu hd om).mono ?_;rintro e w' ⟨v,rfl,ho,hb⟩;obtain⟨a,cc,rfl,_,hs⟩:=Co (enc:=Value.int .u8) ho;refine⟨a,cc,rfl,⟨⟨hs,ap⟩,λ_ q e=>?_⟩,hb⟩;have:=Gw ho q.block (by rw[e];rfl);exact⟨AS Z.size this.1,this.2⟩
 obtain⟨B,aE⟩:∃m,c.F+ah=m:=⟨_,rfl⟩;have b5:IntKind.i64.wrap ((c.F:Int)+(ah:Int))=(B:Int):=by rw[BK];omega
 have aZ:=AA aE;have HG:=AA h;have HN:=AA (Lq aA (Lq af (Lq aC (Lq ax hN))));have HQ:=AA (Lq hq (Lq aG aq));have b3:=AA hd;clear h hu hd hl ap hq aG hF aq aA af aC ax hN aE;go_enter func144,ntmps144;go_upto_region 1 with fail
 clear k0;refine Vb ?_;refine Va (S:=λV=>Bt W V) kr (AN W 1) (λhHeld=>?_);refine tkA 0 ?_;refine tkA 1 ?_;refine tkA 2 ?_;refine tkB 3 X.out ?_;refine tkA 4 ?_;refine tkA 5 ?_;refine tkA 6 ?_;refine tkA 7 ?_;refine tkB 8 X.out ?_;refine tkA 9 ?_;refine tkA 10 ?_;refine tkA 11 ?_;refine tkB 12 X.out ?_;refine tkA 13 ?_;refine tkA 14 ?_;refine tkA 15 ?_;refine tkA 16 ?_;refine tkB 17 X.out ?_;refine tkA 18 ?_;refine tkA 19 ?_;refine tkA 20 ?_;refine tkB 21 X.out ?_;refine tkA 22 ?_;refine tkA 23 ?_;refine tkA 24 ?_;refine tkB 25 X.out ?_;refine(λH=>ad2 26 27 28 (anc W.heap.size N z) (anj W.heap.size N z I B wm) (anT W.heap.size) (by simp only[pD,pE,pF];rfl) (by simp only[pD,pE,pF];rfl) (by simp only[pD,pE,pF];rfl) (by as_aux_lemma=>kernel_rfl) (by as_aux_lemma=>kernel_rfl) (by as_aux_lemma=>kernel_rfl) (by as_aux_lemma=>kernel_rfl) (by decide) (by decide) (by decide) (by decide) (by assumption) (aje W.heap.size N z) (aji W.heap.size N z I B wm) (ao4 W.heap.size) ?_ ?_ ?_ ?_ ?_ ?_ ?_ H) ?_
 ·intro V Z K X
  try simp only[pq]at X⊢
  go_simp
  (go_at_call 195;refine(HD.out V Z).mono ?_;rintro e w9 ⟨a9,c9,rfl,j,ac⟩;exact X _ _ (Z.trans (ac.mono Z.size)) ⟨a9,c9,rfl,j⟩ ac)
 ·intro V Z K X
  try simp only[pq]at X⊢
  go_simp;exact X _ _ (Z.trans ((AL _ _).mono Z.size)) (⟨_,rfl,Z.size,AT _ _⟩) (AL _ _)
 ·intro vk V Z K X
  try simp only[pq]at X⊢
  go_simp
  (go_at_call 195;refine(HD.out V Z).mono ?_;rintro e w9 ⟨a9,c9,rfl,j,ac⟩;exact X _ _ (Z.trans (ac.mono Z.size)) ⟨a9,c9,rfl,j⟩ ac)
 ·intro vi V Z K X;obtain⟨Z,hR⟩:=Z
  try simp only[pq]at X⊢
  (obtain⟨a9,c9,rfl,j⟩:=hR;go_simp;exact X _ _ ⟨Z,a9,c9,rfl,j⟩ ⟨a9,c9,rfl,j⟩ (Jj _ _))
 ·intro vi V Z K X
  try simp only[pq]at X⊢
  go_simp;exact X _ _ (Z.trans ((AL _ _).mono Z.size)) (⟨_,rfl,Z.size,AT _ _⟩) (AL _ _)
 ·intro vi vk V Z K X;obtain⟨Z,hR⟩:=Z
  try simp only[pq]at X⊢
  (obtain⟨a9,c9,rfl,j⟩:=hR;go_simp;exact X _ _ ⟨Z,a9,c9,rfl,j⟩ ⟨a9,c9,rfl,j⟩ (Jj _ _))
 ·intro vi vj V Z aU aT ag;refine rdy 28 (λK X=>?_);go_simp;refine X.out _ _ (Z.trans ((AL _ _).mono Z.size)) (λ_=>?_);exact H vi vj _ _ (Z.trans ((AL _ _).mono Z.size)) ((aje W.heap.size N z) _ _ _ aU (AL _ _)) ((aji W.heap.size N z I B wm) _ _ _ aT (AL _ _)) (⟨_,rfl,Z.size,AT _ _⟩) (ag.trans ((AL _ _).mono ag.size))
 rintro vi vj vk V Z ⟨_,_,rfl,_⟩ ⟨a1,c1,rfl,ab⟩ ⟨J,rfl,ad,C⟩ ag
 try simp only[pq]
 obtain⟨V2,aj⟩:∃U,U=(((V.setCell ⟨J,0,none⟩ (int i64 (I:Int))).setCell ⟨J,1,none⟩ (int i64 (B:Int))).setCell ⟨J,2,none⟩ (int i64 (wm:Int))).setCell ⟨J,3,none⟩ (slice a1 N c1):=⟨_,rfl⟩;have aB:Bt W V2:=by rw[aj];exact(((Z.setCell ad _).setCell ad _).setCell ad _).setCell ad _
 have a2:V2.heap[J]?=some (.cells #[int i64 (I:Int),int i64 (B:Int),int i64 (wm:Int),slice a1 N c1] 120 (0,0)):=by rw[aj];exact AJ (i:=3) (AJ (i:=2) (AJ (i:=1) (AJ (i:=0) C (int i64 (I:Int))) (int i64 (B:Int))) (int i64 (wm:Int))) (slice a1 N c1)
 have ae:Chg (λk=>k=J) V V2:=by rw[aj];exact((((Chg.refl (λk=>k=J) V).set rfl).set rfl).set rfl).set rfl
 have y0:V.cell? ⟨J,0,none⟩=some (int i64 0):=by simp[cell?,C]
 have y1:V.cell? ⟨J,1,none⟩=some (int i64 0):=by simp[cell?,C]
 have y2:V.cell? ⟨J,2,none⟩=some (int i64 0):=by simp[cell?,C]
 have y3:V.cell? ⟨J,3,none⟩=some (slice none 0 0):=by simp[cell?,C]
 have z0:V.frozen? ⟨J,0,none⟩=false:=by simp[frozen?,C]
 have z1:V.frozen? ⟨J,1,none⟩=false:=by simp[frozen?,C]
 have z2:V.frozen? ⟨J,2,none⟩=false:=by simp[frozen?,C]
 have z3:V.frozen? ⟨J,3,none⟩=false:=by simp[frozen?,C]
 have aY:=AA aj;refine rdy 29 (λK X=>?_);go_simp;rw[<-aY.out];refine X.out _ _ aB (λaW=>?_);clear X K
 try simp only[pq]
 refine Vd kr ?_ _;refine At ?_;have aI:N≠0->∀q,a1=some q->q.block≠J:=λh0 q e e2=>by
  obtain⟨g,off,e3,hl,hx⟩:=ab.1.1.2.resolve_left h0;rw[e3]at e
  cases AK e
  have e2:g=J:=e2;subst e2;have b6:z.length=N:=HN.out.2.2.2.2;have h1:=hx 0 _ (Ar (by omega:0<z.length));simp only[cell?,C]at h1;have h2:off<4:=by
   have:=(AD.1 h1).1
   simpa using this
  rcases(by omega:off=0∨off=1∨off=2∨off=3)with rfl|rfl|rfl|rfl<;>simp at h1
 have a6:ByD (λk=>W.heap.size<=k/\k<V2.heap.size) V2 a1 N z:=by refine⟨ab.1.same ae.size λh0 q e=>ae.block _ (ab.1.lt h0 q e) (aI h0 q e),λh0 q e=>?_⟩;have:=ab.2 h0 q e;exact⟨this.1,Af this.2 ae.size⟩
 obtain⟨o3,h3,w3,g3,n3⟩:=HG.out.belZ aB;have az:PcD (λk=>o3 k=0) V2 ⟨(I:Int),(B:Int),(wm:Int),a1,N,c1,(bf:Int)⟩ ⟨I,B,wm,z,bf⟩:=⟨rfl,rfl,rfl,rfl,a6.1,λh0 q e=>n3 _ (a6.2 h0 q e).1 (a6.2 h0 q e).2⟩;have b8:=AA az;have b7:=AA a2;have b9:=AA h3;have al:=AA (Lq w3 g3);have aV:Hid (∀V,Bt V2 V->V.cell? ⟨A.P,12,none⟩=some (pointer (some ⟨A.Q,0,none⟩))/\V.cell? ⟨A.R,7,none⟩=some (int i64 (bf:Int))/\V.cell? ⟨J,0,none⟩=some (int i64 (I:Int))/\V.cell? ⟨J,1,none⟩=some (int i64 (B:Int))/\V.cell? ⟨J,2,none⟩=some (int i64 (wm:Int))/\V.cell? ⟨J,3,none⟩=some (slice a1 N c1)):=λV Z=>by have hg:=h3.g.bel Z;have y:=(Z.block J (AD.1 a2).1).trans a2;exact⟨hg.ceP 12 _ λ_=>rfl,hg.ceR 7 _ λ_=>by rw[<-HN.out.2.1];rfl,by simp[cell?,y],by simp[cell?,y],by simp[cell?,y],by simp[cell?,y]⟩
 have av:o3 J=0:=n3 J ad (AD.1 a2).1;have ay:=HQ.out;have ak:Hid (∀(s':PlM) V,AE A c o3 s' V2 V->s'.rd=s.rd->V.cell? ⟨A.P,12,none⟩=some (pointer (some ⟨A.Q,0,none⟩))/\V.cell? ⟨A.R,7,none⟩=some (int i64 (bf:Int))/\V.cell? ⟨J,0,none⟩=some (int i64 (I:Int))/\V.cell? ⟨J,1,none⟩=some (int i64 (B:Int))/\V.cell? ⟨J,2,none⟩=some (int i64 (wm:Int))/\V.cell? ⟨J,3,none⟩=some (slice a1 N c1)):=λs' V hg hr=>by have y:=(hg.weak J (AD.1 a2).1 av).trans a2;exact⟨hg.ceP 12 _ λ_=>rfl,hg.ceR 7 _ λ_=>by rw[hr,<-HN.out.2.1];rfl,by simp[cell?,y],by simp[cell?,y],by simp[cell?,y],by simp[cell?,y]⟩
 have aQ:=AA (ak.out s _ (h3.g.bel (AN V2 1)) rfl);obtain⟨D,hD⟩:∃D,D=V2.drew:=⟨_,rfl⟩;obtain⟨U,hU⟩:∃U,U=D.alloc (.cells #[int i64 (I:Int),int i64 (B:Int),int i64 (wm:Int),slice a1 N c1,int i64 (bf:Int)] 126):=⟨_,rfl⟩;have ai:Bt V2 U:=by rw[hU,hD];exact(AN V2 1).alloc (AC _) _
 have aw:U.heap[D.heap.size]?=some (.cells #[int i64 (I:Int),int i64 (B:Int),int i64 (wm:Int),slice a1 N c1,int i64 (bf:Int)] 126 (0,0)):=by rw[hU];exact AT _ _
 have aF:SlK 5 U (some ⟨D.heap.size,0,none⟩) 1 [int i64 (I:Int),int i64 (B:Int),int i64 (wm:Int),slice a1 N c1,int i64 (bf:Int)]:=by
  refine⟨rfl,.inr ⟨D.heap.size,0,rfl,(AD.1 aw).1,λi u hi=>?_⟩⟩;have e:U.cell? ⟨D.heap.size,0+i,none⟩=(#[int i64 (I:Int),int i64 (B:Int),int i64 (wm:Int),slice a1 N c1,int i64 (bf:Int)]:Array Value)[0+i]?:=by simp only[cell?,aw];simp
  rw[e,DD,Dy];exact hi
 have aP:=AA (ak.out s U (h3.g.bel ai) rfl);have aH:PcD (λk=>o3 k=0) U ⟨(I:Int),(B:Int),(wm:Int),a1,N,c1,(bf:Int)⟩ ⟨I,B,wm,z,bf⟩:=az.keep (Y:=λ_=>False) (.of_same ai) λ_ _ _ h=>h;have HC:=AA ((h3.g.bel ai).lift λo4 h4 z4=>ap7 h4 ⟨I,B,wm,z,bf⟩ ⟨(I:Int),(B:Int),(wm:Int),a1,N,c1,(bf:Int)⟩ (some ⟨D.heap.size,0,none⟩) 1 ay.1 ay.2.1 (aH.wide λk _ hk=>z4 k hk) aF);clear az a6 aI a2 h3 w3 g3 n3 ae y0 y1 y2 y3 z0 z1 z2 z3 aW C ab aB ag hHeld Z X HG aV av ay ai aw aF aH;have HU:=AA hU;clear hU;go_upto_region 2 with fail
 refine Vb ?_;refine Va (S:=λV=>V.cell? ⟨A.P,12,none⟩=some (pointer (some ⟨A.Q,0,none⟩))/\V.cell? ⟨A.R,7,none⟩=some (int i64 (bf:Int))/\V.cell? ⟨J,0,none⟩=some (int i64 (I:Int))/\V.cell? ⟨J,1,none⟩=some (int i64 (B:Int))/\V.cell? ⟨J,2,none⟩=some (int i64 (wm:Int))/\V.cell? ⟨J,3,none⟩=some (slice a1 N c1)) kr aQ.out (λhHeld=>?_);rw[<-hD]at hHeld⊢;clear hD;refine tkA 0 ?_;refine tkA 1 ?_;refine tkA 2 ?_;refine tkW 3 (v:=?_) ?_ ?_;rotate_left
 ·intro V Z;obtain⟨q1,q2,q3,q4,q5,q6⟩:=Z
  first|(go_simp;done)|(go_simp;with_reducible rfl)
 try simp only[pq]
 refine tkW 4 (v:=?_) ?_ ?_;rotate_left
 ·intro V Z;obtain⟨q1,q2,q3,q4,q5,q6⟩:=Z
  first|(go_simp;done)|(go_simp;with_reducible rfl)
 try simp only[pq]
 refine tkA 5 ?_;refine tkA 6 ?_;refine tkA 7 ?_;refine tkW 8 (v:=?_) ?_ ?_;rotate_left
 ·intro V Z;obtain⟨q1,q2,q3,q4,q5,q6⟩:=Z
  first|(go_simp;done)|(go_simp;with_reducible rfl)
 try simp only[pq]
 refine tkA 9 ?_;refine rdy 10 (λK X=>?_);go_simp;rw[<-HU.out];refine X.out _ _ aP.out (λh10=>?_);clear X K
 try simp only[pq]
 refine rdy 11 (λK X=>?_);go_simp
 go_at_call 196
 refine HC.out.mono ?_;rintro e w5 ⟨⟨v5,rfl⟩,hg⟩;refine X.out _ _ (ak.out _ _ hg rfl) (λh11=>?_);clear X K
 try simp only[pq]
 refine Vd kr ?_ _;refine At ?_;clear h10 h11 hHeld aQ aP HC ak;obtain⟨aa,ar⟩:∃m,I+1=m:=⟨_,rfl⟩;have b4:IntKind.i64.wrap ((I:Int)+1)=(aa:Int):=by have h1:=HQ.out.2.2;have h2:=HN.out.1;rw[BK];omega
 have aS:=hg.ceP 16 (int i64 (I:Int)) λ_=>by rw[<-HN.out.1];rfl
 have aX:=hg.frP 16;have ao:=AA (hg.setP 16 (int i64 (aa:Int)) {s with q:=s.q++[⟨I,B,wm,z,bf⟩],number:=aa} (λ_=>rfl) rfl (Ai.congr 1));have b0:=AA ar;clear hg ar;go_upto_region 4 with fail
 obtain⟨W6,aL⟩:∃V,V=w5.setCell ⟨A.P,16,none⟩ (int i64 (aa:Int)):=⟨_,rfl⟩;rw[<-aL]at ao⊢;clear aL aS aX;have c6:=ao.out.ceR 6 (bool s.rd.holds) λ_=>rfl;have f6:=ao.out.frR 6;have am:=AA (ao.out.setR 6 (bool false) {s.rd with holds:=false} (λ_=>rfl) rfl);go_upto_region 5 with fail
 obtain⟨W7,aK⟩:∃V,V=W6.setCell ⟨A.R,6,none⟩ (bool false):=⟨_,rfl⟩;rw[<-aK]at am⊢;clear aK c6 f6;have aO:=am.out.ceR 1 (.int .u8 (s.rd.ph:Int)) λ_=>rfl;have aM:=am.out.frR 1;have a8:=AA (am.out.setR 1 (.int .u8 1) {s.rd with holds:=false,ph:=1} (λ_=>rfl) rfl);go_upto_region 6 with fail
 obtain⟨W8,aJ⟩:∃V,V=W7.setCell ⟨A.R,1,none⟩ (.int .u8 1):=⟨_,rfl⟩;rw[<-aJ]at a8⊢;clear aJ aO aM;have aN:=a8.out.ceR 12 (bool s.rd.ended) λ_=>rfl;have au:∀ph,AE A c o3 {s with q:=s.q++[⟨I,B,wm,z,bf⟩],number:=aa,rd:={s.rd with holds:=false,ph:=ph}} V2=AE A c o3 {s with q:=s.q++[⟨s.number,c.F+s.rd.ahead,s.rd.warm,s.ds.getD s.rd.buf [],s.rd.buf⟩],number:=s.number+1,rd:={s.rd with holds:=false,ph:=ph}} V2:=λph=>by
  obtain⟨e1,e2,e3,e4,e5⟩:=HN.out;rw[<-b0.out,<-aZ.out,<-e1,<-e2,<-e3,<-e4,DZ,b3.out]
  rfl
 have aR:=AA au;clear au
 cases a7:s.rd.ended with
 |false=>
  rw[a7]at aN;have aD:=AA a7;clear a7;go_wp2
  go_end0
  refine⟨rfl,?_⟩;unfold putR;rw[aD.out,Lb sm];exact AE.comp al.out.1 al.out.2 (by have:=a8.out;rw[aR.out 1]at this;exact this)
 |true=>
  rw[a7]at aN;have aD:=AA a7;have aO:=a8.out.ceR 1 (.int .u8 1) λ_=>rfl;have aM:=a8.out.frR 1;have b2:=AA (a8.out.setR 1 (.int .u8 4) {s.rd with holds:=false,ph:=4} (λ_=>rfl) rfl);clear a7;go_wp2
  go_end0
  refine⟨rfl,?_⟩;unfold putR;rw[aD.out,Lc rfl];exact AE.comp al.out.1 al.out.2 (by have:=b2.out;rw[aR.out 4]at this;exact this)
def Nw(A:PAd)(c:CfM)(o:Nat->Nat)(s':PlM)(w w':World):Prop:=∃o',AI A c o' s' w'/\(∀k,o k=0->o' k=0)/\PB o o' w w'/\∀k,w.heap.size<=k->k<w'.heap.size->o' k=0
section
variable {A:PAd}{c:CfM}{s s' s'':PlM}{o:Nat->Nat}{w w' w'':World}
theorem AI.updZ(h:AI A c o s w)(t:Nat)(D:t≠0)(C:t<1000)(J:Chg (λk=>o k=t) w w')(z:Ai A c s' (λk=>o k=t) (λk=>o k=0) w' t)
  (B:∀u X Z V,u≠t->Ai A c s X Z V u->Ai A c s' X Z V u):Nw A c o s' w w':=by
 have I:∀k,k<w'.heap.size->o k=0->EW o w.heap.size w'.heap.size 0 k=0:=λk hk h0=>by
  by_cases Y:k<w.heap.size
  ·rw[FV Y];exact h0
  ·exact Mq om hk
 refine⟨EW o w.heap.size w'.heap.size 0,⟨λu U=>?_,λk hk=>Mp (AS J.size hk) hk⟩,λk hk=>?_,⟨J.mono λk _ e=>⟨by rw[e];exact D,by rw[e];omega⟩,λk hk e=>(FV hk).trans e⟩,λk h1 h2=>Mq h1 h2⟩
 ·have H:∀k,k<w'.heap.size->o k=u->EW o w.heap.size w'.heap.size 0 k=u:=λk hk e=>by
   by_cases Y:k<w.heap.size
   ·rw[FV Y];exact e
   ·have:=h.out k om;omega
  by_cases N:u=t
  ·subst N;exact z.wide H I
  ·exact((B u _ _ _ N (h.part u U)).keep J (λk _ h1 h2=>N (h1.symm.trans h2)) (λk _ h1 h2=>D (h2.symm.trans h1))).wide H I
 ·by_cases Y:k<w.heap.size
  ·rw[FV Y];exact hk
  ·have:=h.out k om;omega
theorem Nw.g(h:Nw A c o s' w w'):AE A c o s' w w':=let⟨o',h1,h2,h3,_⟩:=h;⟨o',h1,h2,h3⟩
theorem AE.byD(h:AE A c o s' w w'){a:Option Addr}{n:Nat}{Z:List Int}(Y:ByD (λk=>o k=0) w a n Z):ByD (λk=>o k=0) w' a n Z:=by obtain⟨o',_,_,h3⟩:=h;exact Y.keep h3.c λk _ V X=>X.1 V
theorem AE.slD(h:AE A c o s' w w'){a:Option Addr}{n:Nat}{Z:List AF}(Y:SlD (λk=>o k=0) w a n Z):SlD (λk=>o k=0) w' a n Z:=by obtain⟨o',_,_,h3⟩:=h;exact Y.keep h3.c λk _ V X=>X.1 V
theorem amQ(h:AI A c o s w)(Z:Int)(H:∀x∈s.rs,x.length<=1000000)(J:s.told<=1000000000) :Calls ZP 192 #[pointer (some ⟨A.S,0,none⟩),int i64 Z] w λe w'=>∃a U,e=.returned (.tuple #[slice a (BR Z s.rs).length U,bool s.rs.isEmpty])/\ByD (λk=>w.heap.size<=k/\k<w'.heap.size) w' a (BR Z s.rs).length (BR Z s.rs)/\Nw A c o {s with rs:=EB Z s.rs,told:=s.told+(BR Z s.rs).length} w w':=by obtain⟨a,n,U,y,h1,h2⟩:MM A c s (λk=>o k=2) w:=h.part 2 om;refine(age Z w h1 h2 H J).mono ?_;rintro e w' ⟨v,a2,N,c2,Y,rfl,V,B,C,D,j⟩;obtain⟨z,X,rfl,_,I⟩:=Co (enc:=Value.int .u8) V;refine⟨z,X,rfl,⟨⟨I,B⟩,λ_ q e=>?_⟩,h.updZ 2 om om D ⟨a2,N,c2,Y,C,by omega⟩ (Ai.congr 2)⟩;exact Gw V q.block (by rw[e];rfl)
theorem AI.tailApp(h:AI A c o s w){I:Value}(hb:w.heap[A.R]?=some (.cells (rdV A s.rd I) 245 (0,0)))(bs:List Int){N:Option Addr}{X U:Nat}{Z:World}(ht:Cv (λk=>o k=8∨w.heap.size<=k) Z (slice N X U) (s.rd.tail++bs))(j:w.grownBy Z I.ownBlock)
  (C:(slice N X U).ownBlock=I.ownBlock∨(slice N X U).ownBlock=some w.heap.size) :
  AE A c o {s with rd:={s.rd with tail:=s.rd.tail++bs}} w (Z.setCell ⟨A.R,11,none⟩ (slice N X U))/\Z.frozen? ⟨A.R,11,none⟩=false/\Z.cell? ⟨A.R,11,none⟩=some I:=by
 obtain⟨J,h1,h2,h3,h4⟩:LA A s (λk=>o k=8) w:=h.part 8 om;have e0:J=I:=by
  rw[h1]at hb;have e1:=congrArg (λx=>x.bind λy=>match y with|Obj.cells cs _ _=>cs[11]?|_=>none) hb
  simpa[rdV,EO]using e1
 subst e0;have B:=(AD.1 h1).1;have V:Z.heap[A.R]?=some (.cells (rdV A s.rd J) 245 (0,0)):=(j.block A.R B λe=>h4 e.symm).trans h1;have H:(slice N X U).ownBlock≠some A.R:=λe=>by
  rcases C with z|z
  ·exact h4 (z.symm.trans e)
  ·rw[z]at e;have:=AK e;omega
 have hc:Chg (λk=>o k=8) w (Z.setCell ⟨A.R,11,none⟩ (slice N X U)):=by refine((Chg.refl _ w).grown j λg e _=>(h3.lt g e).2).set ?_;exact h2
 refine⟨h.upG 8 om om hc ⟨slice N X U,?_,.inl h2,?_,H⟩ (Ai.congr 8),by simp[frozen?,V],by simp[cell?,V,rdV,EO]⟩
 ·exact AJ (i:=11) V _
 ·exact ht.keep (Y:=λk=>k=A.R) ((Chg.refl _ Z).set rfl) λg D e=>H (by rw[<-e];exact D)
theorem AI.tailCut(h:AI A c o s w){a:Option Addr}{n Z:Nat}(V:w.cell? ⟨A.R,11,none⟩=some (slice a n Z))(k:Nat)(hk:k<=n) :AE A c o {s with rd:={s.rd with tail:=s.rd.tail.drop k}} w (w.setCell ⟨A.R,11,none⟩ (slice (if Z=k then a else a.map (·.add k)) (n-k) (Z-k)))/\w.frozen? ⟨A.R,11,none⟩=false:=by
 obtain⟨N,h1,h2,h3,h4⟩:LA A s (λk=>o k=8) w:=h.part 8 om;have I:N=slice a n Z:=by simp only[cell?,h1]at V;have V:some N=some (slice a n Z):=V;exact AK V
 subst I;have X:(slice (if Z=k then a else a.map (·.add k)) (n-k) (Z-k)).ownBlock≠some A.R:=λe=>by
  split at e
  ·cases a with
   |none=>cases e
   |some p=>exact h4 e
  ·cases a with
   |none=>cases e
   |some p=>
    refine h4 ?_;simp only[Dw,Value.ownBlock]at e⊢;rw[<-e]
    cases p
    simp only[Addr.add]
    split<;>rfl
 have J:Chg (λk=>o k=8) w (w.setCell ⟨A.R,11,none⟩ (slice (if Z=k then a else a.map (·.add k)) (n-k) (Z-k))):=(Chg.refl _ w).set h2;refine⟨.of_same (J.mono λk _ e=>by unfold Oz;rw[e];decide) (h.updB 8 om om (by simp[World.setCell]) J ⟨_,AJ (i:=11) h1 _,h2,?_,X⟩ (Ai.congr 8)),by simp[frozen?,h1]⟩;exact(h3.cut k hk).keep (Y:=λk=>k=A.R) ((Chg.refl _ w).set rfl) λg U e=>X (by rw[<-e];exact U)
end
theorem aaf{P:Program}{w w':World}{Z:Array Oper}{rest:List Oper}{o:Oper}{a:Act}{Q:Exit->Act->World->Prop}{v X v':Value}(Y:o.guard=none)(s x:Operand)(t:TypeId)
  (ho:o.op=.call {callee:=.builtin .append,args:=#[s,x],argTypes:=#[t,t]}) (U:a.eval s=v) (V:a.eval x=X) (N:(Builtin.append_ #[t,t] o.type #[v,X]).run P w=.ok v' w') (h:wpList P Z Q rest (a.put o.dst v') w'):wpList P Z Q (o::rest) a w:=by
 refine wpList_plain Y λK J=>?_;unfold Oper.wp execOp;simp only[ho,resolve,invoke,builtin,IN,IM,Result.andThen_ok,LI,BO,DE,U,V,N];exact J _ _ h
theorem afC{A:PAd}{c:CfM}{s:PlM}{o:Nat->Nat}(w W:World)(h:AE A c o s w W)(Y:s.rs=[])(hk:c.K<=100000)(H:s.rd.own<=100000)(hl:s.fr.length<=100000)(ht:s.told<=1000000000) :Calls ZP 142 #[pointer (some ⟨A.R,0,none⟩)] W λe w'=>e=.returned (.tuple #[])/\AE A c o (readR c s) w w':=by
 have k0:=h.ceR 0 (pointer (some ⟨A.P,0,none⟩)) λ_=>rfl;obtain⟨K0,z⟩:∃m,c.K=m:=⟨_,rfl⟩;obtain⟨X,U⟩:∃m,s.rd.own=m:=⟨_,rfl⟩;have hS:Hid (∀(s':PlM) V,AE A c o s' w V->s'.rd=s.rd->V.cell? ⟨A.P,9,none⟩=some (pointer (some ⟨A.S,0,none⟩))/\V.cell? ⟨A.P,2,none⟩=some (int i64 (K0:Int))/\V.cell? ⟨A.R,9,none⟩=some (int i64 (X:Int))):=λs' V Z hr=>⟨Z.ceP 9 _ λ_=>rfl,Z.ceP 2 _ λ_=>by rw[<-z];rfl,Z.ceR 9 _ λ_=>by rw[hr,<-U];rfl⟩;obtain⟨mo,a1⟩:∃m,(K0:Int)-(X:Int)=m:=⟨_,rfl⟩;have a8:IntKind.i64.wrap ((K0:Int)-(X:Int))=mo:=by rw[BK];omega
 have N:BR mo s.rs=[]:=by rw[Y];rfl
 have C:EB mo s.rs=s.rs:=by rw[Y];rfl
 have HC:=AA ((h.bel (AN W 1)).lift λo1 h1 z1=>(amQ h1 mo (by rw[Y];simp) ht).mono (R':=λe w'=>(∃a cc,e=.returned (.tuple #[slice a 0 cc,bool true]))/\AE A c o1 s (W.drewN 1) w') λe w' ⟨a,cc,h2,_,h3⟩=>by rw[N,Y]at h2;have h3:=h3.g;rw[N,C]at h3;exact⟨⟨a,cc,h2⟩,h3⟩)
 have J:=AA (hS.out s _ (h.bel (AN W 1)) rfl);have HR:=AA Y;have HL:=AA hl;have j:=AA U;clear h Y hk H hl ht z U a1 N C;go_enter func142,ntmps142;go_upto_region 1 with fail
 obtain⟨D,hD⟩:∃D,D=W.drew:=⟨_,rfl⟩;have y:W.drewN 1=D:=by rw[hD];rfl
 rw[y]at HC J;clear k0 y;refine Vb ?_;refine Va (S:=λV=>V.cell? ⟨A.P,9,none⟩=some (pointer (some ⟨A.S,0,none⟩))/\V.cell? ⟨A.P,2,none⟩=some (int i64 (K0:Int))/\V.cell? ⟨A.R,9,none⟩=some (int i64 (X:Int))) kr (by rw[<-hD];exact J.out) (λhHeld=>?_);rw[<-hD]at hHeld⊢;clear hD;refine tkA 0 ?_;refine tkA 1 ?_;refine tkA 2 ?_;refine tkW 3 (v:=?_) ?_ ?_;rotate_left
 ·intro V B;obtain⟨q1,q2,q3⟩:=B
  first|(go_simp;done)|(go_simp;with_reducible rfl)
 try simp only[pq]
 refine tkA 4 ?_;refine tkA 5 ?_;refine tkA 6 ?_;refine tkA 7 ?_;refine tkW 8 (v:=?_) ?_ ?_;rotate_left
 ·intro V B;obtain⟨q1,q2,q3⟩:=B
  first|(go_simp;done)|(go_simp;with_reducible rfl)
 try simp only[pq]
 refine tkA 9 ?_;refine tkA 10 ?_;refine tkA 11 ?_;refine tkW 12 (v:=?_) ?_ ?_;rotate_left
 ·intro V B;obtain⟨q1,q2,q3⟩:=B
  first|(go_simp;done)|(go_simp;with_reducible rfl)
 try simp only[pq]
 refine tkA 13 ?_;refine rdy 14 (λK hK=>?_);go_simp
 go_at_call 192
 refine HC.out.mono ?_;rintro e w2 ⟨⟨a2,c2,rfl⟩,Z⟩;refine hK.out _ _ (hS.out _ _ Z rfl) (λx=>?_);clear hK K
 try simp only[pq]
 refine tkA 15 ?_;refine tkA 16 ?_;refine tkA 17 ?_;refine tkA 18 ?_;refine tkA 19 ?_;refine Vd kr ?_ _;refine At ?_;have r9:=x.2.2;have HG:=AA Z;clear x hHeld HC J hS
 by_cases h0:0<X
 ·have d0:decide ((X:Int) > 0)=true:=by simp;omega
  have d1:decide (0<X)=true:=by simp;omega
  have ab:=Z.ceR 12 (bool s.rd.ended) λ_=>rfl;have aa:=Z.frR 12;have H1:=Z.setR 12 (bool true) {s.rd with ended:=true} (λ_=>rfl) rfl;have a7:=H1.ceR 1 (.int .u8 (s.rd.ph:Int)) λ_=>rfl;have a6:=H1.frR 1;have I:=AA (H1.setR 1 (.int .u8 3) {s.rd with ended:=true,ph:=3} (λ_=>rfl) rfl);have HH:=AA h0;clear Z H1 h0;go_upto_region 14 with fail
  go_wp2
  go_end0
  refine⟨rfl,?_⟩;unfold readR;rw[Lc (show s.rs.isEmpty=true by rw[HR.out];rfl),Lc (show 0<s.rd.own by rw[j.out];exact HH.out)];exact I.out
 ·have h0:X=0:=by omega
  subst h0;have HB:=AA (abm w w2 Z HL.out);clear Z;go_upto_region 3 with(go_at_call 193;refine HB.out.mono ?_;rintro e w3 ⟨rfl,Z⟩)
  have a7:=Z.ceR 1 (.int .u8 (s.rd.ph:Int)) λ_=>rfl;have a6:=Z.frR 1;have I:=AA (Z.setR 1 (.int .u8 4) {(backR s).rd with ph:=4} (λ_=>rfl) rfl);clear Z;go_wp2
  go_end0
  refine⟨rfl,?_⟩;unfold readR;rw[Lc (show s.rs.isEmpty=true by rw[HR.out];rfl),Lb (show ¬0<s.rd.own by rw[j.out];omega)];exact I.out
section
variable {A:PAd}{c:CfM}{s s':PlM}{o:Nat->Nat}{w w':World}
theorem AE.cM(h:AE A c o s w w'):∃a m Z,w'.heap[A.M]?=some (.cells (mgV A s.mph (slice a m Z)) 251 (0,0))/\SlK 2 w' a m (AV s.left)/\m<=Z:=h.low λY h1=>let⟨a,m,Z,h2,h3,h4⟩:=h1.cM;⟨a,m,Z,h2,h3.1,h4⟩
theorem AE.cE(h:AE A c o s w w'):w'.heap[A.E]?=some (.cells (emV A s.eph) 253 (0,0)):=h.low λZ h1=>h1.cE
theorem AE.setML(h:AE A c o s w w')(l:List AF)(a:Option Addr)(m Y:Nat)(U:∀Z,AI A c Z s w'->(∀k,o k=0->Z k=0)->SlD (λk=>Z k=0) w' a m l)(V:m<=Y):AE A c o {s with left:=l} w (w'.setCell ⟨A.M,6,none⟩ (slice a m Y)):=h.then λZ h1 X=>.of_same (h1.chgM 6 _) (h1.setML l a m Y (U Z h1 X) V).1
theorem ajA(Z:Nat->Prop)(w:World):SlD Z w none 0 []:=⟨⟨rfl,.inl rfl⟩,λh=>absurd rfl h⟩
end
theorem aba{A:PAd}{c:CfM}{s:PlM}{o:Nat->Nat}(w W:World)(h:AE A c o s w W) :Calls ZP 204 #[pointer (some ⟨A.M,0,none⟩)] W λe w'=>e=.returned (.tuple #[])/\AE A c o {s with ended:=true,mph:=3} w w':=by
 obtain⟨a,m,J,Z,_⟩:=h.cM;have N:W.cell? ⟨A.M,0,none⟩=some (pointer (some ⟨A.P,0,none⟩)):=by simp only[cell?,Z];rfl
 have Y:=h.ceP 14 (pointer (some ⟨A.O,0,none⟩)) λ_=>rfl;have I:=AA h;clear h Z;go_enter func204,ntmps204;go_upto_region 1 with(go_at_call 245;refine(I.out.lift λD h1 H=>an3 h1).mono ?_;rintro e U ⟨⟨v,rfl⟩,X⟩)
 obtain⟨a,m,J,Z,_⟩:=X.cM;have B:U.frozen? ⟨A.M,1,none⟩=false:=by simp[frozen?,Z]
 have C:U.cell? ⟨A.M,1,none⟩=some (.int .u8 (s.mph:Int)):=by simp only[cell?,Z];rfl
 have V:=AA (X.setM 3);clear X N Y Z;go_wp2
 go_end0
 exact⟨rfl,V.out⟩
theorem adg{A:PAd}{c:CfM}{s:PlM}{o:Nat->Nat}(w W:World)(h:AE A c o s w W)(U:s.next<=1000000000)(r:List (Option (List AF)))(N:s.rg=none::r) :Calls ZP 154 #[pointer (some ⟨A.M,0,none⟩)] W λe w'=>e=.returned (.tuple #[])/\AE A c o (takeM s) w w':=by
 obtain⟨a,m,j,J,_⟩:=h.cM;have H:W.cell? ⟨A.M,0,none⟩=some (pointer (some ⟨A.P,0,none⟩)):=by simp only[cell?,J];rfl
 have Y:=h.ceP 13 (pointer (some ⟨A.G,0,none⟩)) λ_=>rfl;have B:=AA h;have X:=AA (Lq U N);clear h J U N;go_enter func154,ntmps154;go_upto_region 2 with(go_at_call 203;refine(B.out.lift λx h1 z=>afI h1 X.out.1 (by rw[X.out.2];rfl)).mono ?_;rintro e I ⟨rfl,Z⟩)
 have C:=AA (aba w I Z);clear Z H Y
 go_wp2_with (go_at_call 204;refine C.out.mono ?_;rintro e y ⟨rfl,Z⟩;have V:=AA Z;clear Z)
 go_end0
 refine⟨rfl,?_⟩;have D:takeM s={s with ended:=true,mph:=3}:=by unfold takeM;rw[X.out.2]
 rw[D];exact V.out
theorem ad4{A:PAd}{c:CfM}{s:PlM}{o:Nat->Nat}(w W:World)(h:AE A c o s w W)(y:s.next<=1000000000)(l:List AF)(r:List (Option (List AF)))(x:s.rg=some l::r) :Calls ZP 154 #[pointer (some ⟨A.M,0,none⟩)] W λe w'=>e=.returned (.tuple #[])/\AE A c o (takeM s) w w':=by
 obtain⟨o1,h1,z1,g1⟩:=h;obtain⟨a,m,cc,I,_⟩:=h1.cM;have k0:W.cell? ⟨A.M,0,none⟩=some (pointer (some ⟨A.P,0,none⟩)):=by simp only[cell?,I];rfl
 have H:=h1.g.ceP 13 (pointer (some ⟨A.G,0,none⟩)) λ_=>rfl;have HC:=AA (afS h1 y l r x);have Z:∀s' V,AE A c o1 s' W V->AE A c o s' w V:=λs' V N=>AE.comp z1 g1 N;have C:=AA Z;have HX:=AA (Lq y x);clear h1 z1 g1 I y x Z
 cases z:l with
 |nil=>
  subst z;go_enter func154,ntmps154;go_upto_region 3 with(go_at_call 203;refine HC.out.mono ?_;rintro e B ⟨a1,c1,rfl,Y,X,N⟩;have HG:=AA N;clear Y N X)
  clear k0 H;go_wp2
  go_end0
  refine⟨rfl,?_⟩;have e1:takeM s={s with rg:=r++[none],next:=s.next+1}:=by unfold takeM;rw[HX.out.2];rfl
  rw[e1];exact C.out _ _ HG.out
 |cons q t=>
  obtain⟨n,hn⟩:∃n,l.length=n:=⟨_,rfl⟩;have j:0<n:=by rw[<-hn,z];simp
  have d0:decide ((n:Int) > 0)=true:=by simp;omega
  have d1:decide (0<n)=true:=by simp;omega
  rw[hn]at HC;have HL:=AA z;clear z j hn;go_enter func154,ntmps154;go_upto_region 4 with(go_at_call 203;refine HC.out.mono ?_;rintro e B ⟨a1,c1,rfl,Y,X,N⟩)
  obtain⟨a2,m2,c2,I,_⟩:=N.cM;have j0:B.frozen? ⟨A.M,6,none⟩=false:=by simp[frozen?,I]
  have j1:B.cell? ⟨A.M,6,none⟩=some (slice a2 m2 c2):=by simp only[cell?,I];rfl
  have U:=N.setML l a1 n c1 (λo2 h2 z2=>Y.wide λk _ hk=>z2 k hk) X;clear I;go_upto_region 5 with fail
  obtain⟨W2,D⟩:∃V,V=B.setCell ⟨A.M,6,none⟩ (slice a1 n c1):=⟨_,rfl⟩;rw[<-D]at U⊢;clear D j0 j1 k0 H Y X N;obtain⟨a3,m3,c3,J,_⟩:=U.cM;have j0:W2.frozen? ⟨A.M,1,none⟩=false:=by simp[frozen?,J]
  have j1:W2.cell? ⟨A.M,1,none⟩=some (.int .u8 (s.mph:Int)):=by simp only[cell?,J];rfl
  have a6:=AA (U.setM 2);clear U J;go_wp2
  go_end0
  refine⟨rfl,?_⟩;have e1:takeM s={s with rg:=r++[none],next:=s.next+1,left:=l,mph:=2}:=by unfold takeM;rw[HX.out.2];simp only[HL.out];rfl
  rw[e1];exact C.out _ _ a6.out
theorem aeL{A:PAd}{c:CfM}{s:PlM}{o:Nat->Nat}(w W:World)(h:AE A c o s w W)(H:s.next<=1000000000) :Calls ZP 157 #[pointer (some ⟨A.M,0,none⟩)] W λe w'=>e=.returned (.tuple #[])/\AE A c o (Hr s) w w':=by
 obtain⟨a,m,cc,X,_⟩:=h.cM;have C:W.cell? ⟨A.M,0,none⟩=some (pointer (some ⟨A.P,0,none⟩)):=by simp only[cell?,X];rfl
 have J:=h.ceP 13 (pointer (some ⟨A.G,0,none⟩)) λ_=>rfl;have HG:=AA h;have x:=AA H;clear h X H;go_enter func157,ntmps157;go_upto_region 1 with(go_at_call 207;refine(HG.out.lift λo1 h1 z1=>ang h1 x.out).mono ?_;rintro e N ⟨⟨v,rfl⟩,Y⟩)
 obtain⟨a2,D,c2,X,_⟩:=Y.cM;have z:N.frozen? ⟨A.M,6,none⟩=false:=by simp[frozen?,X]
 have B:N.cell? ⟨A.M,6,none⟩=some (slice a2 D c2):=by simp only[cell?,X];rfl
 have Z:=Y.setML [] none 0 0 (λo2 h2 z2=>ajA _ _) (AC _);clear X;go_upto_region 2 with fail
 obtain⟨y,U⟩:∃V,V=N.setCell ⟨A.M,6,none⟩ (slice none 0 0):=⟨_,rfl⟩;rw[<-U]at Z⊢;have j:=AA (aba w y Z);clear U z B C J Y Z
 go_wp2_with (go_at_call 204;refine j.out.mono ?_;rintro e w2 ⟨rfl,Y⟩;have I:=AA Y;clear Y)
 go_end0
 exact⟨rfl,I.out⟩
theorem adC{A:PAd}{c:CfM}{s:PlM}{o:Nat->Nat}(w W:World)(h:AE A c o s w W) :Calls ZP 160 #[pointer (some ⟨A.E,0,none⟩)] W λe w'=>e=.returned (.tuple #[])/\AE A c o (Fr s) w w':=by
 have X:=h.cE;have B:W.cell? ⟨A.E,0,none⟩=some (pointer (some ⟨A.P,0,none⟩)):=by simp only[cell?,X];rfl
 have H:=h.ceP 14 (pointer (some ⟨A.O,0,none⟩)) λ_=>rfl;have J:=AA (h.lift λx h1 y=>anh h1);clear h X
 cases Z:s.out with
 |nil=>
  have U:s.out.length=0:=by rw[Z];rfl
  rw[U]at J;have N:=AA Z;clear Z U;go_enter func160,ntmps160;go_upto_region 1 with(go_at_call 211;refine J.out.mono ?_;rintro e I ⟨rfl,Y⟩)
  have X:=Y.cE;have j0:I.frozen? ⟨A.E,1,none⟩=false:=by simp[frozen?,X]
  have j:I.cell? ⟨A.E,1,none⟩=some (.int .u8 (s.eph:Int)):=by simp only[cell?,X];rfl
  have D:=AA (Y.setE 2);clear Y B H X;go_wp2
  go_end0
  refine⟨rfl,?_⟩;have V:Fr s={s with out:=[],eph:=2}:=by unfold Fr;rw[Lc (by rw[N.out];rfl),<-N.out]
  rw[V];exact D.out
 |cons b q=>
  have U:((s.out.length:Int)==0)=false:=by rw[Z];simp;omega
  have V:decide ((s.out.length:Int)=0)=false:=by rw[Z];simp;omega
  obtain⟨n,C⟩:∃n,s.out.length=n:=⟨_,rfl⟩;rw[C]at U V J;have N:=AA Z;clear Z C;go_enter func160,ntmps160
  go_wp2_with (go_at_call 211;refine J.out.mono ?_;rintro e I ⟨rfl,Y⟩;have z:=AA Y;clear Y)
  go_end0
  refine⟨rfl,?_⟩;have V:Fr s={s with out:=[]}:=by unfold Fr;rw[Lb (by rw[N.out];simp)]
  rw[V];exact z.out
theorem alY{w:World}{a:Option Addr}{m c:Nat}{h:AF}{t:List AF}(Z:SlK 2 w a m (AV (h::t)))(N:m<=c):SlK 2 w (if c=1 then a else a.map (·.add 2)) (m-1) (AV t)/\m=t.length+1:=by
 have X:m=t.length+1:=by have:=Z.1;rw[GF]at this;simp at this;omega
 refine⟨⟨by rw[GF];omega,?_⟩,X⟩
 by_cases h0:t.length=0
 ·exact .inl om
 ·obtain⟨b,o,rfl,U,Y⟩:=Z.2.resolve_left om;rw[Lb om];refine .inr ⟨b,o+2,by rw[Dw,Cf],U,λi u V=>?_⟩;have:=Y (i+2) u (by show(IH h++AV t)[i+2]?=some u;exact V);rw[show o+2+i=o+(i+2) by omega];exact this
theorem aeo{Z:Nat->Prop}{w:World}{a:Option Addr}{m:Nat}{h:AF}{t:List AF}(Y:SlD Z w a m (h::t)):∃g off,a=some ⟨g,off,none⟩/\Z g/\w.cell? ⟨g,off,none⟩=some (int i64 h.1)/\w.cell? ⟨g,off+1,none⟩=some (int i64 h.2):=by
 have V:m=t.length+1:=by have:=Y.1.1;rw[GF]at this;simp at this;omega
 obtain⟨b,o,rfl,U,X⟩:=Y.1.2.resolve_left om;exact⟨b,o,rfl,Y.2 om _ rfl,X 0 _ rfl,X 1 _ rfl⟩
theorem aeA{A:PAd}{c:CfM}{s:PlM}{o:Nat->Nat}(w W:World)(h:AE A c o s w W)(q:AF)(t:List AF)(hl:s.left=q::t)(ho:s.out.length<c.O)(he:s.ended=false) :Calls ZP 156 #[pointer (some ⟨A.M,0,none⟩)] W λe w'=>e=.returned (.tuple #[])/\AE A c o (flushM s) w w':=by
 obtain⟨C,h1,z1,g1⟩:=h;obtain⟨a,m,B,hb,z,y⟩:=h1.cM;rw[hl]at z;obtain⟨g,off,rfl,ac,ad,ao⟩:=aeo z;obtain⟨tv,hP⟩:=h1.cP;obtain⟨ae,hm⟩:=alY z.1 y;have ag:=DO W _ ad;have am:=(AD.1 hb).1;have al:=(AD.1 hP).1;have aE:C A.M=9:=(h1.part 9 om).elim λa h=>h.elim λm h=>h.elim λB h=>h.2.1;have aD:C A.P=1:=(h1.part 1 om).elim λa h=>h.2.1;have H:Hid (∀V:World,(V.heap[A.M]?=W.heap[A.M]?/\V.heap[A.P]?=W.heap[A.P]?/\V.heap[g]?=W.heap[g]?)->V.cell? ⟨A.M,0,none⟩=some (pointer (some ⟨A.P,0,none⟩))/\V.cell? ⟨A.P,14,none⟩=some (pointer (some ⟨A.O,0,none⟩))/\V.cell? ⟨A.M,6,none⟩=some (slice (some ⟨g,off,none⟩) m B)/\V.cell? ⟨g,off,none⟩=some (int i64 q.1)/\V.cell? ⟨g,off+1,none⟩=some (int i64 q.2)):=λV ⟨e1,e2,e3⟩=>by
  refine⟨?_,?_,?_,?_,?_⟩
  ·simp only[cell?,e1.trans hb];rfl
  ·simp only[cell?,e2.trans hP];rfl
  ·simp only[cell?,e1.trans hb];rfl
  ·rw[BC (a:=⟨g,off,none⟩) e3];exact ad
  ·rw[BC (a:=⟨g,off+1,none⟩) e3];exact ao
 obtain⟨D,hD⟩:∃D,D=W.drew:=⟨_,rfl⟩;have j:Bt W D:=by rw[hD];exact AN W 1
 obtain⟨U,hU⟩:∃U,U=D.alloc (.cells #[int i64 q.1,int i64 q.2] 116):=⟨_,rfl⟩;have X:Bt W U:=by rw[hU];exact j.alloc j.size _
 have aj:∀V,Bt W V->(V.heap[A.M]?=W.heap[A.M]?/\V.heap[A.P]?=W.heap[A.P]?/\V.heap[g]?=W.heap[g]?):=λV hV=>⟨hV.block _ am,hV.block _ al,hV.block _ ag⟩;have aa:SlK 2 U (some ⟨D.heap.size,0,none⟩) 1 [int i64 q.1,int i64 q.2]:=by rw[hU];exact On D q
 have ax:=h1.bel X;have a7:∀k,k<W.heap.size->EW C W.heap.size U.heap.size 0 k=C k:=λk hk=>FV hk;have HC:Hid (Calls ZP 206 #[pointer (some ⟨A.O,0,none⟩),slice (some ⟨D.heap.size,0,none⟩) 1 1] U λe w'=>(∃v,e=.returned v)/\(w'.heap[A.M]?=W.heap[A.M]?/\w'.heap[A.P]?=W.heap[A.P]?/\w'.heap[g]?=W.heap[g]?)/\AE A c C {s with out:=s.out++[q]} W w'/\SlK 2 w' (if B=1 then some ⟨g,off,none⟩ else(some (⟨g,off,none⟩:Addr)).map (·.add 2)) (m-1) (AV t)):=by
  refine(aoX ax q (some ⟨D.heap.size,0,none⟩) 1 ho he aa).mono ?_;rintro e w' ⟨hv,hg,hc⟩;have hk:∀k,k<W.heap.size->C k≠7->w'.heap[k]?=W.heap[k]?:=λk hk h7=>(hc.block k (Af hk X.size) (by rw[a7 k hk];exact h7)).trans (X.block k hk);refine⟨hv,⟨hk _ am om,hk _ al om,hk _ ag (by have h9:C g=0:=ac;omega)⟩,?_,?_⟩
  ·exact AE.comp (λk aG=>by
    by_cases aF:k<W.heap.size
    ·rw[a7 k aF];exact aG
    ·have:=h1.out k om;omega) ⟨.of_same X,λk hk e=>(a7 k hk).trans e⟩ hg
  ·have h9:ByD (λ_=>True) W none 0 []:=⟨⟨⟨rfl,.inl rfl⟩,λx hx=>by cases hx⟩,λh=>absurd rfl h⟩;refine⟨ae.1,?_⟩
   rcases ae.2 with h0|⟨b,o9,e9,aq,aC⟩
   ·exact .inl h0
   ·have aH:b=g:=by
     by_cases h1:B=1
     ·rw[Lc h1]at e9;cases e9;rfl
     ·rw[Lb h1,Dw,Cf]at e9;cases e9;rfl
    subst aH;refine .inr ⟨b,o9,e9,Af aq (AS X.size hc.size),λi u hi=>?_⟩;rw[BC (a:=⟨b,o9+i,none⟩) (hk b aq (by have h9:C b=0:=ac;omega))];exact aC i u hi
 have az:=AA (aj D j);have ay:=AA (aj U X);have HU:=AA hU;have I:∀s' V,AE A c C s' W V->AE A c o s' w V:=λs' V hg=>AE.comp z1 g1 hg;have aB:=AA I;have HX:=AA (Lq hl (Lq hm (Lq ac y)));have aM:0<m:=by omega
 have aL:m<=B:=y;clear h1 z1 g1 hb z ad ao hP ae ag am al aE aD j X aj aa ax a7 I hm hl ho he hU y;go_enter func156,ntmps156;go_upto_region 0 with fail
 refine Vb ?_;refine Va (S:=λV=>V.heap[A.M]?=W.heap[A.M]?/\V.heap[A.P]?=W.heap[A.P]?/\V.heap[g]?=W.heap[g]?) kr (by rw[<-hD];exact az.out) (λhHeld=>?_);rw[<-hD]at hHeld⊢;clear hD;refine tkA 0 ?_;refine tkA 1 ?_;refine tkA 2 ?_;refine tkA 3 ?_;refine tkB 4 H.out ?_;refine tkA 5 ?_;refine tkA 6 ?_;refine tkB 7 H.out ?_;refine tkA 8 ?_;refine tkA 9 ?_;refine tkA 10 ?_;refine tkB 11 H.out ?_;refine tkA 12 ?_;refine tkB 13 H.out ?_;refine rdy 14 (λK H=>?_);go_simp;rw[<-HU.out];refine H.out _ _ ay.out (λaJ=>?_);clear H K
 try simp only[pq]
 refine rdy 15 (λK H=>?_);go_simp
 go_at_call 206
 refine HC.out.mono ?_;rintro e w2 ⟨⟨v5,rfl⟩,ak,Z,af⟩;refine H.out _ _ ak (λaI=>?_);clear H K
 try simp only[pq]
 refine Vd kr ?_ _;refine At ?_;obtain⟨-,-,r6,-,-⟩:=H.out w2 ak;obtain⟨a2,m2,c2,au,_⟩:=Z.cM;have j6:w2.frozen? ⟨A.M,6,none⟩=false:=by simp[frozen?,au]
 obtain⟨a8,a6⟩:∃x,(if B=1 then some (⟨g,off,none⟩:Addr) else(some (⟨g,off,none⟩:Addr)).map (·.add 2))=x:=⟨_,rfl⟩;rw[a6]at af;have ab:=Z.setML t a8 (m-1) (B-1) (λo5 h5 z5=>⟨af,λh0 q9 e=>by
  have h9:C g=0:=HX.out.2.2.1;have:q9.block=g:=by
   rw[<-a6]at e
   split at e
   ·cases e;rfl
   ·rw[Dw,Cf]at e;cases e;rfl
  rw[this];exact z5 g h9⟩) om
 have Y:=AA ab;clear ab af Z au aJ aI hHeld ay az HC ak;have ap:flushM s={s with out:=s.out++[q],left:=t,mph:=if t.isEmpty then 1 else s.mph}:=by unfold flushM;rw[HX.out.1]
 have aA:=AA ap;clear ap;have a1:(0:Int)<=1:=by omega
 have aO:(1:Int)<=(m:Int):=by omega
 go_upto_region 1 with fail
 go_upto_region 2 with fail
 have av:(if B=1 then some (⟨g,off,none⟩:Addr) else some ⟨g,off+2,none⟩)=a8:=by rw[<-a6,Dw,Cf]
 rw[av];obtain⟨W3,ai⟩:∃V,V=w2.setCell ⟨A.M,6,none⟩ (slice a8 (m-1) (B-1)):=⟨_,rfl⟩;rw[<-ai]at Y⊢;obtain⟨o4,h4,z4,g4⟩:=Y.out;have s6:W3.cell? ⟨A.M,6,none⟩=some (slice a8 (m-1) (B-1)):=by rw[ai];simp[World.cell?_setCell_same,r6]
 clear ai av a6 r6 j6 h4 z4 g4;obtain⟨a3,m3,c3,ar,_⟩:=Y.out.cM;have f6:W3.frozen? ⟨A.M,6,none⟩=false:=by simp[frozen?,ar]
 clear ar;have N:=HX.out.2.1
 cases ht:t with
 |nil=>
  have J:m-1=0:=by rw[ht]at N;simp at N;omega
  rw[J]at s6;have Z:=Y.out.setML [] none 0 0 (λo2 h2 z2=>ajA _ _) (AC _);have HT:=AA ht;clear N J ht;go_upto_region 4 with fail
  obtain⟨W4,aw⟩:∃V,V=W3.setCell ⟨A.M,6,none⟩ (slice none 0 0):=⟨_,rfl⟩;rw[<-aw]at Z⊢;clear aw s6 f6;obtain⟨a4,m4,c4,ah,_⟩:=Z.cM;have f1:W4.frozen? ⟨A.M,1,none⟩=false:=by simp[frozen?,ah]
  have aN:W4.cell? ⟨A.M,1,none⟩=some (.int .u8 (s.mph:Int)):=by simp only[cell?,ah];rfl
  have aK:=AA (Z.setM 1);clear Z ah;go_wp2
  go_end0
  refine⟨rfl,?_⟩;rw[aA.out];have:=aK.out;have e:t=[]:=HT.out;rw[e];exact aB.out _ _ this
 |cons q2 t2=>
  obtain⟨m9,J⟩:∃k,m-1=k:=⟨_,rfl⟩;have h9:m9≠0:=by rw[ht]at N;simp at N;omega
  have d0:((m9:Int)==0)=false:=by simp;omega
  have d1:decide ((m9:Int)=0)=false:=by simp;omega
  have d2:decide (m9=0)=false:=by simp;omega
  rw[J]at s6;have HT:=AA ht;clear N J ht;go_wp2
  go_end0
  refine⟨rfl,?_⟩;rw[aA.out,Lb (by rw[HT.out];simp)];exact aB.out _ _ Y.out
theorem aiz{Z:Int}{rs:La}(h:0<=Z):((BR Z rs).length:Int)<=Z:=by
 unfold BR
 split
 ·simpa using h
 ·split
  ·simpa using h
  ·unfold Dg
   split
   ·assumption
   ·rw[Ag];omega
theorem ahU{c:CfM}{s:PlM}(Y:s.rs≠[])(Z:List Int)(U:s.ds[s.rd.buf]?=some Z):readR c s={s with rs:=EB ((c.K:Int)-s.rd.own) s.rs,told:=s.told+(BR ((c.K:Int)-s.rd.own) s.rs).length,ds:=s.ds.set s.rd.buf (Z++BR ((c.K:Int)-s.rd.own) s.rs),read:=s.read+(BR ((c.K:Int)-s.rd.own) s.rs).length,rd:={s.rd with own:=s.rd.own+(BR ((c.K:Int)-s.rd.own) s.rs).length,tail:=(s.rd.tail++BR ((c.K:Int)-s.rd.own) s.rs).drop ((s.rd.tail++BR ((c.K:Int)-s.rd.own) s.rs).length-c.wm),ph:=if s.rd.own+(BR ((c.K:Int)-s.rd.own) s.rs).length=c.K then 3 else s.rd.ph}}:=by
 have X:¬(s.rs.isEmpty=true):=by cases V:s.rs with|nil=>exact absurd V Y|cons _ _=>simp
 have N:s.ds.getD s.rd.buf []=Z:=by rw[DZ,U];rfl
 unfold readR;rw[Lb X,N]
theorem AI.drewS{A:PAd}{c:CfM}{s:PlM}{o:Nat->Nat}{w:World}(h:AI A c o s w):AI A c o s w.drew:=by have h1:=h.bel (AN w 1);have e:(w.drewN 1).heap.size=w.heap.size:=rfl;rw[e,h.tag_same]at h1;exact h1
theorem aef{A:PAd}{c:CfM}{s:PlM}{o:Nat->Nat}(w W:World)(h:AE A c o s w W)(x0:List Int)(aq:s.rs≠[])(hk:c.K<=1000)(U:c.wm<=1000)(ah:s.rd.own<=c.K)(hu:s.us[s.rd.buf]?=some true)(hd:s.ds[s.rd.buf]?=some x0)(aC:x0.length+(c.K-s.rd.own)<=c.K+c.wm)
  (ht:s.told<=100000000) (hl:∀x∈s.rs,x.length<=1000000) (B:s.read<=100000000) (N:s.rd.tail.length<=1000) :
  Calls ZP 142 #[pointer (some ⟨A.R,0,none⟩)] W λe w'=>e=.returned (.tuple #[])/\AE A c o (readR c s) w w':=by
 obtain⟨o1,h1,z1,g1⟩:=h;have k0:=h1.g.ceR 0 (pointer (some ⟨A.P,0,none⟩)) λ_=>rfl;obtain⟨K0,av⟩:∃m,c.K=m:=⟨_,rfl⟩;obtain⟨ow,ar⟩:∃m,s.rd.own=m:=⟨_,rfl⟩;obtain⟨mo,aK⟩:∃m,(K0:Int)-(ow:Int)=m:=⟨_,rfl⟩;have bp:IntKind.i64.wrap ((K0:Int)-(ow:Int))=mo:=by rw[BK];omega
 obtain⟨X,ac⟩:∃b,BR mo s.rs=b:=⟨_,rfl⟩;obtain⟨n,hn⟩:∃m,X.length=m:=⟨_,rfl⟩;have ai:(n:Int)<=mo:=by rw[<-hn,<-ac];exact aiz om
 have aR:s.rs.isEmpty=false:=by cases hh:s.rs with|nil=>exact absurd hh aq|cons _ _=>rfl
 have hS:Hid (∀(s':PlM) V,AE A c o1 s' W V->s'.rd=s.rd->V.cell? ⟨A.P,9,none⟩=some (pointer (some ⟨A.S,0,none⟩))/\V.cell? ⟨A.P,2,none⟩=some (int i64 (K0:Int))/\V.cell? ⟨A.R,9,none⟩=some (int i64 (ow:Int))):=λs' V J hr=>⟨J.ceP 9 _ λ_=>rfl,J.ceP 2 _ λ_=>by rw[<-av];rfl,J.ceR 9 _ λ_=>by rw[hr,<-ar];rfl⟩;obtain⟨D,hD⟩:∃D,D=W.drew:=⟨_,rfl⟩;have aw:AI A c o1 s D:=by rw[hD];exact h1.drewS
 have a1:Bt W D:=by rw[hD];exact AN W 1
 have HC:=AA (amQ aw mo hl om);rw[aR,ac,hn]at HC;have b0:=AA (hS.out s D (h1.g.bel a1) rfl);have HB:=AA (Lq aq (Lq av (Lq ar (Lq aK (Lq ac hn)))));have HN:=AA (Lq ai (Lq hk (Lq U (Lq ah (Lq aC (Lq B N))))));have aJ:n<=1000/\ow<=1000/\s.read<=100000000/\s.rd.tail.length<=1000:=by omega
 have ad:=AA aJ;clear aJ;have HU:=AA (Lq hu hd);have HO:=AA (Lq z1 (g1.same a1));have bw:=AA aw;have bx:=AA a1;have bm:=AA (λ(s':PlM) V (J:AE A c o1 s' D V)=>AE.comp (w:=W) (w':=D) (o:=o1) (λ_ h=>h) ⟨.of_same a1,λ_ _ h=>h⟩ J);clear h1 z1 g1 aq hk U ah hu hd aC ht hl B N av ar aK ac hn ai aR aw a1;go_enter func142,ntmps142;go_upto_region 1 with fail
 clear k0;refine Vb ?_;refine Va (S:=λV=>V.cell? ⟨A.P,9,none⟩=some (pointer (some ⟨A.S,0,none⟩))/\V.cell? ⟨A.P,2,none⟩=some (int i64 (K0:Int))/\V.cell? ⟨A.R,9,none⟩=some (int i64 (ow:Int))) kr (by rw[<-hD];exact b0.out) (λhHeld=>?_);rw[<-hD]at hHeld⊢;clear hD;refine tkA 0 ?_;refine tkA 1 ?_;refine tkA 2 ?_;refine tkW 3 (v:=?_) ?_ ?_;rotate_left
 ·intro V hV;obtain⟨q1,q2,q3⟩:=hV
  first|(go_simp;done)|(go_simp;with_reducible rfl)
 try simp only[pq]
 refine tkA 4 ?_;refine tkA 5 ?_;refine tkA 6 ?_;refine tkA 7 ?_;refine tkW 8 (v:=?_) ?_ ?_;rotate_left
 ·intro V hV;obtain⟨q1,q2,q3⟩:=hV
  first|(go_simp;done)|(go_simp;with_reducible rfl)
 try simp only[pq]
 refine tkA 9 ?_;refine tkA 10 ?_;refine tkA 11 ?_;refine tkW 12 (v:=?_) ?_ ?_;rotate_left
 ·intro V hV;obtain⟨q1,q2,q3⟩:=hV
  first|(go_simp;done)|(go_simp;with_reducible rfl)
 try simp only[pq]
 refine tkA 13 ?_;refine rdy 14 (λK hK=>?_);go_simp
 go_at_call 192
 refine HC.out.mono ?_;rintro e w2 ⟨a2,c2,rfl,aT,o3,h3,z3,g3,n3⟩;have aP:AE A c o1 {s with rs:=EB mo s.rs,told:=s.told+n} D w2:=⟨o3,h3,z3,g3⟩;refine hK.out _ _ (hS.out _ _ (bm.out _ _ aP) rfl) (λbe=>?_);clear hK K
 try simp only[pq]
 refine tkA 15 ?_;refine tkA 16 ?_;refine tkA 17 ?_;refine tkA 18 ?_;refine tkA 19 ?_;refine Vd kr ?_ _;refine At ?_;have aU:ByD (λk=>o3 k=0) w2 a2 n X:=by exact aT.wide λk _ hk=>n3 k hk.1 hk.2
 have b5:=AA aU;have HZ:=AA (Lq (λk hk=>z3 k (HO.out.1 k hk)) (HO.out.2.trans HO.out.1 g3));have r7:=h3.g.ceR 7 (int i64 (s.rd.buf:Int)) λ_=>rfl;have b7:=h3.g.ceP 11 (pointer (some ⟨A.Bb,0,none⟩)) λ_=>rfl;obtain⟨bf,j⟩:∃m,s.rd.buf=m:=⟨_,rfl⟩;rw[j]at r7;have bv:=AA h3;have bo:=AA j;have aH:=λ(V:World)(hV:Bt w2 V)=>(h3.g.bel hV).lift λo4 h4 z4=>aod h4 bf n c2 a2 X x0 (b5.out.1.below hV) (by have:=HU.out.1;rwa[j]at this) (by have:=HU.out.2;rwa[j]at this) (by have:=HN.out;have h9:=HB.out.2.1;have h8:=HB.out.2.2.1;have h7:=HB.out.2.2.2.1;omega) (by have:=HN.out;omega);have bl:=AA aH;clear be hHeld HC b0 hS aT h3 z3 g3 n3 aP aU j aH;go_upto_region 5 with fail
 refine Hw 9 mixed kr ?_;dsimp only[List.take_succ_cons,List.take_zero,List.drop_succ_cons,List.drop_zero]
 repeat (go_big_quiet_step (fail))
 refine wpQuiet_nil ?_;rintro _ ⟨nq,rfl⟩;have b4:=AA (bl.out _ (AN w2 nq));clear r7 b7
 go_wp2_with fail
 refine b4.out.mono ?_;rintro e w3 ⟨rfl,J⟩;obtain⟨Z,aI⟩:∃m,ow+n=m:=⟨_,rfl⟩;obtain⟨re,B⟩:∃m,s.read=m:=⟨_,rfl⟩;obtain⟨Y,ag⟩:∃m,re+n=m:=⟨_,rfl⟩;have aF:IntKind.i64.wrap ((ow:Int)+(n:Int))=(Z:Int):=by have:=ad.out;rw[BK];omega
 have aE:IntKind.i64.wrap ((re:Int)+(n:Int))=(Y:Int):=by have:=ad.out;rw[BK];omega
 have ae:=AA (Lq aI (Lq B ag));have c9:=J.ceR 9 (int i64 (ow:Int)) λ_=>by rw[<-HB.out.2.2.1];rfl
 have f9:=J.frR 9;have af:=AA (J.setR 9 (int i64 (Z:Int)) {s.rd with own:=Z} (λ_=>rfl) rfl);clear J b4 aI B ag;go_upto_region 7 with fail
 obtain⟨W4,aY⟩:∃V,V=w3.setCell ⟨A.R,9,none⟩ (int i64 (Z:Int)):=⟨_,rfl⟩;rw[<-aY]at af⊢;clear aY c9 f9 aF;have b6:=af.out.ceP 17 (int i64 (re:Int)) λ_=>by rw[<-ae.out.2.1];rfl
 have bg:=af.out.frP 17;have aA:=AA (af.out.setP 17 (int i64 (Y:Int)) {s with rs:=EB mo s.rs,told:=s.told+n,ds:=s.ds.set bf (x0++X),read:=Y,rd:={s.rd with own:=Z}} (λ_=>rfl) rfl (Ai.congr 1));go_upto_region 8 with fail
 obtain⟨W5,aX⟩:∃V,V=W4.setCell ⟨A.P,17,none⟩ (int i64 (Y:Int)):=⟨_,rfl⟩;rw[<-aX]at aA⊢;clear aX b6 bg aE;have ak:=aA.out.byD b5.out;obtain⟨o5,h5,z5,g5⟩:=aA.out;obtain⟨tv,ao,H⟩:=h5.cR;have H:Cv (λk=>o5 k=8) W5 tv s.rd.tail:=H;obtain⟨bi,bh,rfl,aN,_⟩:=H.shape;have aM:s.rd.tail.length+n<=1000000:=by have:=ad.out;omega
 obtain⟨a6,c6,W6,ab,aG,aQ,al⟩:=ac1 W5 H a2 n c2 X ak.1 aM;obtain⟨q1,q2,q3⟩:=h5.tailApp ao X aG aQ al;have aB:W5.cell? ⟨A.R,11,none⟩=some (slice bi s.rd.tail.length bh):=by simp only[cell?,ao];rfl
 obtain⟨tl,N⟩:∃m,s.rd.tail.length=m:=⟨_,rfl⟩;rw[N]at aB ab q1 q3;obtain⟨tn,ap⟩:∃m,tl+n=m:=⟨_,rfl⟩;rw[ap]at ab q1;have bk:=AA ab;have b1:=AA q1;have aZ:=AA (Lq z5 g5);have ay:=AA (Lq N ap);clear ak h5 z5 g5 ao H aN aM ab aG aQ al q1 N ap;go_upto_region 9 with(at_builtin;refine aaf rfl (.tmp 69) (.tmp 70) 32 rfl rfl rfl bk.out ?_)
 obtain⟨W7,aW⟩:∃V,V=W6.setCell ⟨A.R,11,none⟩ (slice a6 tn c6):=⟨_,rfl⟩;rw[<-aW]at b1⊢;clear aW aB q2 q3;obtain⟨o7,h7,z7,g7⟩:=b1.out;obtain⟨a7,c7,am,aS,z⟩:=h7.g.tail;have C:(s.rd.tail++X).length=tn:=by rw[List.length_append,ay.out.1,HB.out.2.2.2.2.2];exact ay.out.2
 rw[show(({s with rs:=EB mo s.rs,told:=s.told+n,ds:=s.ds.set bf (x0++X),read:=Y,rd:={s.rd with own:=Z,tail:=s.rd.tail++X}}:PlM).rd.tail.length)=tn from C]at am z;obtain⟨wm,U⟩:∃m,c.wm=m:=⟨_,rfl⟩;have n8:=h7.g.ceP 8 (int i64 (wm:Int)) λ_=>by rw[<-U];rfl
 obtain⟨kk,aO⟩:∃m,tn-wm=m:=⟨_,rfl⟩;obtain⟨dm,bd⟩:∃m:Int,(tn:Int)-(wm:Int)=m:=⟨_,rfl⟩;have b9:tn<=3000/\wm<=1000:=by have:=ad.out;have h9:=ay.out;have h8:=HN.out;omega
 have aD:IntKind.i64.wrap ((tn:Int)-(wm:Int))=dm:=by rw[BK];omega
 have aL:max (0:Int) dm=(kk:Int):=by omega
 have k9:kk<=tn:=by omega
 have b8:tn<=c7:=z;obtain⟨u1,nf⟩:=h7.tailCut am kk k9;have y:∀s' V,AE A c o7 s' W7 V->AE A c o s' w V:=λs' V J=>AE.comp HZ.out.1 HZ.out.2 (AE.comp aZ.out.1 aZ.out.2 (AE.comp z7 g7 J));have ax:=AA (u1.bel (AN _ 1));have b3:=AA y;have bj:=AA (Lq U (Lq aO C));clear h7 z7 g7 aS z C U aO bd b9 u1 y
 go_region
 generalize (if c7=kk then a7 else Option.map (λx=>x.add kk) a7)=a8 at ax⊢
 obtain⟨W8,au⟩:∃V,V=(W7.setCell ⟨A.R,11,none⟩ (slice a8 (tn-kk) (c7-kk))).drew:=⟨_,rfl⟩;have aa:Hid (AE A c o7 {s with rs:=EB mo s.rs,told:=s.told+n,ds:=s.ds.set bf (x0++X),read:=Y,rd:={s.rd with own:=Z,tail:=(s.rd.tail++X).drop kk}} W7 W8):=by rw[au];exact ax.out
 rw[<-au];clear au am n8 nf aD aL k9 b8 ax;have c9:=aa.out.ceR 9 (int i64 (Z:Int)) λ_=>rfl;have p2:=aa.out.ceP 2 (int i64 (K0:Int)) λ_=>by rw[<-HB.out.2.1];rfl
 have bu:=AA (aa.out.bel (AN W8 1));have aj:∀ph,ph=(if s.rd.own+(BR ((c.K:Int)-s.rd.own) s.rs).length=c.K then 3 else s.rd.ph)->readR c s={s with rs:=EB mo s.rs,told:=s.told+n,ds:=s.ds.set bf (x0++X),read:=Y,rd:={s.rd with own:=Z,tail:=(s.rd.tail++X).drop kk,ph:=ph}}:=λph bb=>by obtain⟨e1,e2,e3,e4,e5,e6⟩:=HB.out;obtain⟨f1,f2,f3⟩:=ae.out;obtain⟨g1,g2,g3⟩:=bj.out;have g4:=bo.out;have hd:=HU.out.2;subst e2 e3 e4 e5 e6 f1 f2 f3 g1 g3 g2 g4;rw[ahU e1 x0 hd,bb]
 have b2:=AA aj;clear aj
 by_cases hd:Z=K0
 ·have d0:decide ((Z:Int)=(K0:Int))=true:=by simp;omega
  have d1:((Z:Int)==(K0:Int))=true:=by simp;omega
  have HD:=AA hd;clear hd;go_upto_region 10 with fail
  go_big_quiet (fail)
  have I:=aa.out.bel (AN W8 nq);obtain⟨W9,aV⟩:∃V,V=W8.drewN nq:=⟨_,rfl⟩;rw[<-aV]at I⊢;clear aV c9 p2;have bt:=I.ceR 1 (.int .u8 (s.rd.ph:Int)) λ_=>rfl;have bq:=I.frR 1;have az:=AA (I.setR 1 (.int .u8 3) {s.rd with own:=Z,tail:=(s.rd.tail++X).drop kk,ph:=3} (λ_=>rfl) rfl);clear I;go_wp2
  go_end0
  refine⟨rfl,?_⟩;rw[b2.out 3 (by obtain⟨e1,e2,e3,e4,e5,e6⟩:=HB.out;rw[e2,e3,e4,e5,e6,ae.out.1,Lc HD.out])];exact b3.out _ _ az.out
 ·have d0:decide ((Z:Int)=(K0:Int))=false:=by simp;omega
  have d1:((Z:Int)==(K0:Int))=false:=by simp;omega
  have HD:=AA hd;clear hd;go_upto_region 10 with fail
  go_big_quiet (fail)
  have az:=AA (aa.out.bel (AN W8 nq));go_wp2
  go_end0
  refine⟨rfl,?_⟩;rw[b2.out s.rd.ph (by obtain⟨e1,e2,e3,e4,e5,e6⟩:=HB.out;rw[e2,e3,e4,e5,e6,ae.out.1,Lb HD.out])];exact b3.out _ _ az.out
theorem AI.tookApp{A:PAd}{c:CfM}{s:PlM}{o:Nat->Nat}{w:World}(h:AI A c o s w){I:Value}(hb:w.heap[A.P]?=some (.cells (EK A c s I) 109 (0,0)))(q:AF){N:Option Addr}{X U:Nat}{Y:World}
  (hr:Y.ownsRow 0 116 2 (slice N X U) (s.took.length+1) (AV s.took++[int i64 q.1,int i64 q.2])) (hg:w.grownBy Y I.ownBlock) (D:(slice N X U).ownBlock=I.ownBlock∨(slice N X U).ownBlock=some w.heap.size) :
  AE A c o {s with took:=s.took++[q]} w (Y.setCell ⟨A.P,18,none⟩ (slice N X U))/\Y.frozen? ⟨A.P,18,none⟩=false/\Y.cell? ⟨A.P,18,none⟩=some I:=by
 obtain⟨J,C,k2,k4,k5⟩:MN A c s (λk=>o k=1) w:=h.part 1 om;have e0:J=I:=by
  rw[C]at hb;have e1:=congrArg (λx=>x.bind λy=>match y with|Obj.cells cs _ _=>cs[18]?|_=>none) hb
  simpa[EK]using e1
 subst e0;have z:=(AD.1 C).1;have V:Y.heap[A.P]?=some (.cells (EK A c s J) 109 (0,0)):=(hg.block _ z λe=>k5 e.symm).trans C;have H:(slice N X U).ownBlock≠some A.P:=λe=>by
  rcases D with j|j
  ·exact k5 (j.symm.trans e)
  ·rw[j]at e;have:=AK e;omega
 have B:Chg (λk=>o k=1) w Y:=(Chg.refl _ w).grown hg λg e _=>k4.2 g e;have hc:Chg (λk=>o k=1) w (Y.setCell ⟨A.P,18,none⟩ (slice N X U)):=B.set k2;refine⟨h.upG 1 om om hc ⟨slice N X U,AJ (i:=18) V _,.inl k2,⟨?_,λg Z=>?_⟩,H⟩ (Ai.congr 1),by simp[frozen?,V],by simp only[cell?,V];rfl⟩
 ·show World.ownsRow _ _ _ _ _ (s.took++[q]).length (AV (s.took++[q]));have e1:AV (s.took++[q])=AV s.took++[int i64 q.1,int i64 q.2]:=by simp[AV,IH]
  rw[e1,List.length_append];exact Fu hr λg Z=>AQ Y ⟨A.P,18,none⟩ _ g λe=>H (by rw[Z,e])
 ·rcases D with e|e
  ·exact .inl (k4.2 g (e ▸ Z))
  ·rw[e]at Z;exact .inr (Gq (AK Z))
theorem aeZ{A:PAd}{c:CfM}{s:PlM}{o:Nat->Nat}(w W:World)(h:AE A c o s w W)(V:s.out=[]) :Calls ZP 159 #[pointer (some ⟨A.E,0,none⟩)] W λe w'=>e=.returned (.tuple #[])/\AE A c o (offerE c s) w w':=by
 have Z:=h.cE;have H:W.cell? ⟨A.E,0,none⟩=some (pointer (some ⟨A.P,0,none⟩)):=by simp only[cell?,Z];rfl
 have X:=h.ceP 14 (pointer (some ⟨A.O,0,none⟩)) λ_=>rfl;have z:Hid (Calls ZP 208 #[pointer (some ⟨A.O,0,none⟩)] W λe w'=>∃a N,e=.returned (slice a 0 N)/\Bt W w'):=h.low λy h1=>(aop h1).mono λe w' ⟨v,h2,h3,h4⟩=>by obtain⟨a,N,rfl,_⟩:=Gy h3;rw[V]at h2;exact⟨a,N,h2,h4⟩
 have B:=AA h;have C:=AA V;clear h Z V;go_enter func159,ntmps159;go_upto_region 3 with(go_at_call 208;refine z.out.mono ?_;rintro e I ⟨a1,c1,rfl,Y⟩)
 have U:=B.out.bel Y;have Z:=U.cE;have j:I.frozen? ⟨A.E,1,none⟩=false:=by simp[frozen?,Z]
 have x:I.cell? ⟨A.E,1,none⟩=some (.int .u8 (s.eph:Int)):=by simp only[cell?,Z];rfl
 have J:=AA (U.setE 2);clear U H X Z Y;go_wp2;refine Vf (results_none rfl _ _ _) rfl ?_;refine⟨rfl,?_⟩;have D:offerE c s={s with eph:=2}:=by unfold offerE;rw[C.out]
 rw[D];exact J.out
theorem adq{A:PAd}{c:CfM}{s:PlM}{o:Nat->Nat}(w W:World)(h:AE A c o s w W)(q:AF)(t:List AF)(hq:s.out=q::t)(ho:s.off<=1000000)(hk:s.tk.length<=1000000)(ht:s.took.length<=1000000)(aG:s.out.length<=1000000) :Calls ZP 159 #[pointer (some ⟨A.E,0,none⟩)] W λe w'=>e=.returned (.tuple #[])/\AE A c o (offerE c s) w w':=by
 have hb:=h.cE;have k0:W.cell? ⟨A.E,0,none⟩=some (pointer (some ⟨A.P,0,none⟩)):=by simp only[cell?,hb];rfl
 have aE:=h.ceP 14 (pointer (some ⟨A.O,0,none⟩)) λ_=>rfl;obtain⟨n,hn⟩:∃n,s.out.length=n:=⟨_,rfl⟩;have aH:n≠0:=by rw[<-hn,hq];simp
 have d0:((n:Int)==0)=false:=by simp;omega
 have d1:decide ((n:Int)=0)=false:=by simp;omega
 have d2:decide (n=0)=false:=by simp;omega
 have HC:Hid (Calls ZP 208 #[pointer (some ⟨A.O,0,none⟩)] W λe w'=>∃a cc,e=.returned (slice a n cc)/\SlD (λk=>W.heap.size<=k/\k<w'.heap.size) w' a n (q::t)/\Bt W w'):=h.low λo1 h1=>(aop h1).mono λe w' ⟨v,h2,h3,h4⟩=>by obtain⟨a,cc,rfl,_,h5,h6⟩:=Gy h3;rw[hn]at h2 h5;rw[hq]at h5;exact⟨a,cc,h2,⟨h5,λ_ q e=>h6 q e⟩,h4⟩
 have HG:=AA h;have HX:=AA (Lq hq (Lq ho (Lq hk (Lq ht hn))));have i0:(0:Int)<(n:Int):=by omega
 have aN:0<n:=by omega
 clear h hb hq ho hk ht aG hn aH;go_enter func159,ntmps159;go_upto_region 4 with(go_at_call 208;refine HC.out.mono ?_;rintro e w1 ⟨a1,c1,rfl,am,av⟩)
 obtain⟨o3,h3,z3,g3,n3⟩:=HG.out.belZ av;obtain⟨g,off,rfl,a2,a6,ak⟩:=aeo (am.wide (Z':=λk=>o3 k=0) λk _ hk=>n3 k hk.1 hk.2);have aq:=DO w1 _ a6;have ap:g≠A.P:=λe=>by obtain⟨tv,_,k2,_⟩:=h3.part 1 om;have k2:o3 A.P=1:=k2;have h0:o3 g=0:=a2;rw[e]at h0;omega
 have aD:=h3.g.ceP 10 (pointer (some ⟨A.Kk,0,none⟩)) λ_=>rfl;have aB:=AA (λ(V:World)(hV:Bt w1 V)=>(h3.g.bel hV).lift λo5 h5 z5=>aoD h5 q HX.out.2.1 HX.out.2.2.1);have ah:∀(s':PlM) V,AE A c o3 s' w1 V->V.cell? ⟨g,off,none⟩=some (int i64 q.1)/\V.cell? ⟨g,off+1,none⟩=some (int i64 q.2):=λs' V N=>by have:=N.weak g aq a2;exact⟨by rw[BC (a:=⟨g,off,none⟩) this];exact a6,by rw[BC (a:=⟨g,off+1,none⟩) this];exact ak⟩
 have ac:=AA ah;have C:=AA (Lq z3 g3);clear h3 z3 g3 n3 am aq a2 ah av k0 aE HC HG;refine Hw 7 mixed kr ?_;dsimp only[List.take_succ_cons,List.take_zero,List.drop_succ_cons,List.drop_zero]
 repeat (go_big_quiet_step (fail))
 refine wpQuiet_nil ?_;rintro _ ⟨nq,rfl⟩;have aA:=AA (aB.out _ (AN w1 nq));clear aD a6 ak aB
 go_wp2_with fail
 refine aA.out.mono ?_;rintro e w3 ⟨rfl,N⟩
 cases hy:EH c.ans s.off with
 |false=>
  rw[hy]at N;have aK:=AA N;have HY:=AA hy;clear N hy;go_wp2
  go_end0
  refine⟨rfl,?_⟩;have e1:offerE c s={s with off:=s.off+1}:=by unfold offerE;rw[HX.out.1];simp only[HY.out];rfl
  rw[e1];exact AE.comp C.out.1 C.out.2 aK.out
 |true=>
  rw[hy]at N;have aC:=N.ceP 14 (pointer (some ⟨A.O,0,none⟩)) λ_=>rfl;have az:=AA (N.lift λo5 h5 z5=>ahy h5 q t HX.out.1);have HY:=AA hy;clear N hy aA;go_upto_region 6 with(go_at_call 210;refine az.out.mono ?_;rintro e w4 ⟨⟨v4,rfl⟩,N⟩)
  obtain⟨o6,h6,z6,g6⟩:=N;obtain⟨D,hD⟩:∃D,D=w4.drew:=⟨_,rfl⟩;have X:=h6.drewS;rw[<-hD]at X;have H:Bt w4 D:=by rw[hD];exact AN w4 1
  have aa:=AE.comp z6 (g6.same H) X.g;obtain⟨U,hU⟩:∃U,U=D.alloc (.cells #[int i64 q.1,int i64 q.2] 116):=⟨_,rfl⟩;have J:Bt D U:=by rw[hU];exact AL _ _
  have ar:=aa.bel J;have ab:=X.bel J;obtain⟨aL,ad⟩:=X.cP;obtain⟨tv,k1,k2,k4,k5⟩:=ab.part 1 om;have k4:CO (λk=>EW o6 D.heap.size U.heap.size 0 k=1) U 116 2 tv s.took.length (AV s.took):=k4;obtain⟨a4,c4,rfl,_,_,_⟩:=Gy k4.1;have j:U.cell? ⟨A.P,18,none⟩=some (slice a4 s.took.length c4):=by simp only[cell?,k1];rfl
  have aw:=(AD.1 ad).1;have ay:D.cell? ⟨A.P,18,none⟩=some (slice a4 s.took.length c4):=by rw[<-BC (a:=⟨A.P,18,none⟩) (J.block A.P aw)];exact j
  obtain⟨i1,ao,ag,af,ae⟩:=Ve IG;have y:SlK 2 U (some ⟨D.heap.size,0,none⟩) 1 [int i64 q.1,int i64 q.2]:=by rw[hU];exact On D q
  have aF:=HX.out.2.2.2.1;obtain⟨v1,W1,hr,a7,au,x⟩:=Gu (P:=ZP) U 0 69 69 116 i1 (.agg #[.int .i64 0,.int .i64 0]) 2 16 underlying69 ao ag af ae rfl (by decide) (.slice a4 s.took.length c4) s.took.length (AV s.took) k4.1 (some ⟨D.heap.size,0,none⟩) 1 1 [.int .i64 q.1,.int .i64 q.2] y (λu hu=>by simp at hu;rcases hu with rfl|rfl<;>rfl) (by unfold maxLen;omega) om (AR _);obtain⟨a5,c5,rfl,_,_,_⟩:=Gy a7;obtain⟨u1,u2,u3⟩:=ab.tookApp k1 q a7 au x;have a8:=AE.comp (λk hk=>by
   have h0:=z6 k hk
   by_cases aI:k<D.heap.size
   ·show EW o6 _ _ 0 k=0;rw[FV aI];exact h0
   ·have:=X.out k om;omega) ⟨((g6.same H).same J).c,λk hk e=>(FV (Af hk (g6.same H).c.size)).trans (g6.f k hk e)⟩ u1
  have aj:=ac.out _ _ aa;have ai:=ac.out _ _ ar;have I:=ac.out _ _ a8;have B:W1.cell? ⟨g,off,none⟩=some (int i64 q.1)/\W1.cell? ⟨g,off+1,none⟩=some (int i64 q.2):=by have e:(W1.setCell ⟨A.P,18,none⟩ (slice a5 (s.took.length+1) c5)).heap[g]?=W1.heap[g]?:=AQ W1 ⟨A.P,18,none⟩ _ g ap;rw[BC (a:=⟨g,off,none⟩) e,BC (a:=⟨g,off+1,none⟩) e]at I;exact I
  have ax:=u3;have HR:=AA hr;have HF:=AA a8;have Y:=AA (Lq ai (Lq B I));have HU:=AA hU;obtain⟨tn,al⟩:∃k,s.took.length=k:=⟨_,rfl⟩;obtain⟨aM,z⟩:∃k,tn+1=k:=⟨_,rfl⟩;rw[al]at j ay HR HF Y u3;rw[z]at HR HF Y;clear h6 z6 g6 X H aa J ar ab ad k1 k2 k4 k5 aw ao ag af ae y aF hr a7 au x u1 a8 ai B I ax hU al z az aC;refine Vb ?_;refine Va (S:=λV=>V.cell? ⟨g,off,none⟩=some (int i64 q.1)/\V.cell? ⟨g,off+1,none⟩=some (int i64 q.2)) kr (by rw[<-hD];exact aj) (λhHeld=>?_);rw[<-hD]at hHeld⊢;clear hD aj;refine tkA 0 ?_;refine tkA 1 ?_;refine tkA 2 ?_;refine tkA 3 ?_;refine tkA 5 ?_;refine tkA 6 ?_;refine tkW 7 (v:=?_) ?_ ?_;rotate_left
  ·intro V hV;obtain⟨q1,q2⟩:=hV
   first|(go_simp;done)|(go_simp;with_reducible rfl)
  try simp only[pq]
  refine apE 4 8 (λK Z=>?_) (λK Z=>?_)
  focus
   go_simp;refine Z.out _ _ hHeld (λh4=>?_);clear Z K
   try simp only[pq]
   refine rdy 8 (λK Z=>?_);go_simp;rw[<-HU.out];refine Z.out _ _ Y.out.1 (λh8=>?_);clear Z K h4 h8
   try simp only[pq]
  rotate_left
  focus
   go_simp;rw[<-HU.out];refine Z.out _ _ Y.out.1 (λh8=>?_);clear Z K
   try simp only[pq]
   refine rdy 4 (λK Z=>?_);go_simp;refine Z.out _ _ Y.out.1 (λh4=>?_);clear Z K h4 h8
   try simp only[pq]
  all_goals
   refine rdy 9 (λK Z=>?_);refine GU (.tmp 38) (.tmp 42) 69 rfl _ _ rfl rfl rfl HR.out ?_;refine Z.out _ _ Y.out.2.1 (λh9=>?_);clear Z K
   try simp only[pq]
   refine tkA 10 ?_;refine tkA 11 ?_;refine rdy 12 (λK Z=>?_);go_simp;refine Z.out _ _ Y.out.2.2 (λaJ=>?_);clear Z K h9 aJ
   try simp only[pq]
   refine Vd kr ?_ _;refine At ?_;go_wp2
   go_end0
   refine⟨rfl,?_⟩;have e1:offerE c s={s with off:=s.off+1,tk:=s.tk++[q],out:=t,took:=s.took++[q]}:=by unfold offerE;rw[HX.out.1];simp only[HY.out,if_true]
   rw[e1];have h9:=AE.comp C.out.1 C.out.2 HF.out
   simpa using h9
section
variable {A:PAd}{c:CfM}{s s':PlM}{o:Nat->Nat}{w w':World}{i:Nat}{x:WkM}
theorem AE.cW(h:AE A c o s w w')(X:s.wk[i]?=some x)(V:i<900):∃p Y,w'.heap[A.Wk i]?=some (.cells (wkV A i x p Y) 249 (0,0))/\p.num=x.blk.num/\p.start=x.blk.start/\p.warm=x.blk.warm/\p.buf=x.blk.buf/\Bys w' p.a p.m x.blk.data:=h.low λN h1=>by obtain⟨p,Y,U,Z,_⟩:=h1.cW X V;exact⟨p,Y,U,Z.1,Z.2.1,Z.2.2.1,Z.2.2.2.1,Z.2.2.2.2.1⟩
theorem AE.setWk(h:AE A c o s w w')(I:s.wk[i]?=some x)(z:i<900)(V:WkM)(w'':World)(N:w''.heap.size=w'.heap.size)(H:∀k,k≠A.Wk i->w''.heap[k]?=w'.heap[k]?)(X:w''.os=w'.os/\w''.tape=w'.tape/\w''.output=w'.output)
  (C:∀Z p U,AI A c Z s w'->(∀k,o k=0->Z k=0)->w'.heap[A.Wk i]?=some (.cells (wkV A i x p U) 249 (0,0))->PcD (λk=>Z k=0) w' p x.blk->CO (λk=>Z k=i+11∨Z k=0) w' 116 2 U x.hits.length (AV x.hits)->U.ownBlock≠some (A.Wk i)->(x.ph≠3->∀g,U.ownBlock=some g->Z g=i+11)->
   ∃J Y,w''.heap[A.Wk i]?=some (.cells (wkV A i V J Y) 249 (0,0))/\PcD (λk=>Z k=0) w' J V.blk/\CO (λk=>Z k=i+11∨Z k=0) w' 116 2 Y V.hits.length (AV V.hits)/\Y.ownBlock≠some (A.Wk i)/\(V.ph≠3->∀g,Y.ownBlock=some g->Z g=i+11)) :
  AE A c o (setW s i λ_=>V) w w'':=h.then λZ h1 D=>by
 refine .of_same ?_ (h1.setWk I z V w'' N H X λp U=>C Z p U h1 D);have h0:CP A s (λk=>Z k=i+11) (λk=>Z k=0) w' i:=h1.part (i+11) om;unfold CP at h0;rw[I]at h0;obtain⟨p,U,j,y,_⟩:=h0;refine⟨X.1,X.2.1,X.2.2,by omega,λk hk B=>H k λe=>B ?_⟩;unfold Oz;rw[e,show Z (A.Wk i)=i+11 from y];omega
theorem AE.setWph(h:AE A c o s w w')(Y:s.wk[i]?=some x)(V:i<900)(ph:Nat)(Z:ph≠3->x.ph≠3) :AE A c o (setW s i λ_=>{x with ph:=ph}) w (w'.setCell ⟨A.Wk i,1,none⟩ (.int .u8 (ph:Int))):=h.setWk Y V _ _ (by simp[World.setCell]) (λk hk=>AQ w' ⟨A.Wk i,1,none⟩ _ k hk) ⟨rfl,rfl,rfl⟩ λB p X h1 C D H I J N=>⟨p,X,AJ (i:=1) D _,H,I,J,λe g U=>N (Z e) g U⟩
def Gx(w:World)(T:Nat)(p:PcW):World:=((((w.setCell ⟨T,6,none⟩ (int i64 p.num)).setCell ⟨T,7,none⟩ (int i64 p.start)).setCell ⟨T,8,none⟩ (int i64 p.warm)).setCell ⟨T,9,none⟩ (slice p.a p.m p.c)).setCell ⟨T,10,none⟩ (int i64 p.buf)
theorem agx{w:World}{A:PAd}{i:Nat}{x:WkM}{X:PcW}{Z:Value}(h:w.heap[A.Wk i]?=some (.cells (wkV A i x X Z) 249 (0,0)))(p:PcW):(Gx w (A.Wk i) p).heap[A.Wk i]?=some (.cells (wkV A i x p Z) 249 (0,0)):=by
 obtain⟨I,B⟩:∃V,V=w.setCell ⟨A.Wk i,6,none⟩ (int i64 p.num):=⟨_,rfl⟩;have s6:I.heap[A.Wk i]?=some (.cells (wkV A i x {X with num:=p.num} Z) 249 (0,0)):=by rw[B];exact AJ (i:=6) h (int i64 p.num)
 obtain⟨J,C⟩:∃V,V=I.setCell ⟨A.Wk i,7,none⟩ (int i64 p.start):=⟨_,rfl⟩;have j:J.heap[A.Wk i]?=some (.cells (wkV A i x {X with num:=p.num,start:=p.start} Z) 249 (0,0)):=by rw[C];exact AJ (i:=7) s6 (int i64 p.start)
 obtain⟨N,D⟩:∃V,V=J.setCell ⟨A.Wk i,8,none⟩ (int i64 p.warm):=⟨_,rfl⟩;have y:N.heap[A.Wk i]?=some (.cells (wkV A i x {X with num:=p.num,start:=p.start,warm:=p.warm} Z) 249 (0,0)):=by rw[D];exact AJ (i:=8) j (int i64 p.warm)
 obtain⟨U,H⟩:∃V,V=N.setCell ⟨A.Wk i,9,none⟩ (slice p.a p.m p.c):=⟨_,rfl⟩;have z:U.heap[A.Wk i]?=some (.cells (wkV A i x {p with buf:=X.buf} Z) 249 (0,0)):=by rw[H];exact AJ (i:=9) y (slice p.a p.m p.c)
 have Y:(U.setCell ⟨A.Wk i,10,none⟩ (int i64 p.buf)).heap[A.Wk i]?=some (.cells (wkV A i x p Z) 249 (0,0)):=AJ (i:=10) z (int i64 p.buf);rw[H,D,C,B]at Y;exact Y
theorem ajy{w:World}{A:PAd}{i:Nat}{x:WkM}{Z:PcW}{X:Value}(h:w.heap[A.Wk i]?=some (.cells (wkV A i x Z X) 249 (0,0))):((((w.setCell ⟨A.Wk i,11,none⟩ (int i64 0)).setCell ⟨A.Wk i,12,none⟩ (int i64 0)).setCell ⟨A.Wk i,13,none⟩ (slice none 0 0)).setCell ⟨A.Wk i,1,none⟩ (.int .u8 1)).heap[A.Wk i]?=some (.cells (wkV A i {x with ph:=1,node:=0,done:=0} Z (slice none 0 0)) 249 (0,0)):=by
 obtain⟨J,D⟩:∃V,V=w.setCell ⟨A.Wk i,11,none⟩ (int i64 0):=⟨_,rfl⟩;have s6:J.heap[A.Wk i]?=some (.cells (wkV A i {x with node:=0} Z X) 249 (0,0)):=by rw[D];exact AJ (i:=11) h (int i64 0)
 obtain⟨N,H⟩:∃V,V=J.setCell ⟨A.Wk i,12,none⟩ (int i64 0):=⟨_,rfl⟩;have B:N.heap[A.Wk i]?=some (.cells (wkV A i {x with node:=0,done:=0} Z X) 249 (0,0)):=by rw[H];exact AJ (i:=12) s6 (int i64 0)
 obtain⟨U,I⟩:∃V,V=N.setCell ⟨A.Wk i,13,none⟩ (slice none 0 0):=⟨_,rfl⟩;have C:U.heap[A.Wk i]?=some (.cells (wkV A i {x with node:=0,done:=0} Z (slice none 0 0)) 249 (0,0)):=by rw[I];exact AJ (i:=13) B (slice none 0 0)
 have Y:(U.setCell ⟨A.Wk i,1,none⟩ (.int .u8 1)).heap[A.Wk i]?=some (.cells (wkV A i {x with ph:=1,node:=0,done:=0} Z (slice none 0 0)) 249 (0,0)):=AJ (i:=1) C (.int .u8 1);rw[I,H,D]at Y;exact Y
theorem aeO(w:World)(T:Nat)(p:PcW)(k:Nat)(hk:k≠T):(Gx w T p).heap[k]?=w.heap[k]?:=by unfold Gx;rw[AQ _ ⟨T,10,none⟩ _ k hk,AQ _ ⟨T,9,none⟩ _ k hk,AQ _ ⟨T,8,none⟩ _ k hk,AQ _ ⟨T,7,none⟩ _ k hk,AQ _ ⟨T,6,none⟩ _ k hk]
def Ge(w:World)(T:Nat):World:=((((Gx w T ⟨0,0,0,none,0,0,0⟩).setCell ⟨T,11,none⟩ (int i64 0)).setCell ⟨T,12,none⟩ (int i64 0)).setCell ⟨T,13,none⟩ (slice none 0 0)).setCell ⟨T,1,none⟩ (.int .u8 1)
theorem Oa(w:World)(a:Addr)(v:Value):(w.setCell a v).heap.size=w.heap.size:=by simp[World.setCell]
theorem aaA(w:World)(T:Nat):Chg (λk=>k=T) w (Ge w T):=by unfold Ge Gx;exact(((((((((Chg.refl (λk=>k=T) w).set rfl).set rfl).set rfl).set rfl).set rfl).set rfl).set rfl).set rfl).set rfl
theorem aeN(w:World)(T:Nat):(Ge w T).heap.size=w.heap.size:=by unfold Ge Gx;simp only[Oa]
theorem ag7(w:World)(T:Nat)(k:Nat)(hk:k≠T):(Ge w T).heap[k]?=w.heap[k]?:=by unfold Ge;rw[AQ _ ⟨T,1,none⟩ _ k hk,AQ _ ⟨T,13,none⟩ _ k hk,AQ _ ⟨T,12,none⟩ _ k hk,AQ _ ⟨T,11,none⟩ _ k hk,aeO _ _ _ k hk]
theorem aij(w:World)(T:Nat):(Ge w T).os=w.os/\(Ge w T).tape=w.tape/\(Ge w T).output=w.output:=⟨(aaA w T).os,(aaA w T).tape,(aaA w T).output⟩
theorem ai9{w:World}{A:PAd}{i:Nat}{x:WkM}{Z:PcW}{Y:Value}(h:w.heap[A.Wk i]?=some (.cells (wkV A i x Z Y) 249 (0,0))):(Ge w (A.Wk i)).heap[A.Wk i]?=some (.cells (wkV A i (wk0 1) ⟨0,0,0,none,0,0,0⟩ (slice none 0 0)) 249 (0,0)):=ajy (agx h ⟨0,0,0,none,0,0,0⟩)
theorem apv(Z:Nat->Prop)(w:World):PcD Z w ⟨0,0,0,none,0,0,0⟩ ape:=⟨rfl,rfl,rfl,rfl,⟨⟨rfl,.inl rfl⟩,λx Y=>by cases Y⟩,λh=>absurd rfl h⟩
theorem AE.leaveW(h:AE A c o s w w')(Z:s.wk[i]?=some x)(Y:i<900):AE A c o (setW s i λ_=>wk0 1) w (Ge w' (A.Wk i)):=h.setWk Z Y _ _ (aeN _ _) (ag7 _ _) (aij _ _) λN p J h1 U V C D H I=>⟨⟨0,0,0,none,0,0,0⟩,slice none 0 0,ai9 V,apv _ _,CO.nil _ _ _ _,(λe=>by cases e),λ_ g X=>by cases X⟩
end
theorem aab{A:PAd}{c:CfM}{s:PlM}{o:Nat->Nat}{i:Nat}{x:WkM}(w W:World)(h:AE A c o s w W)(z:s.wk[i]?=some x)(hi:i<900)(hl:s.fr.length<=100000) :Calls ZP 202 #[pointer (some ⟨A.Wk i,0,none⟩)] W λe w'=>e=.returned (.tuple #[])/\AE A c o (leaveW s i) w w':=by
 obtain⟨p,hv,C,e1,e2,e3,e4,_⟩:=h.cW z hi;have a1:=h.ceP 11 (pointer (some ⟨A.Bb,0,none⟩)) λ_=>rfl;obtain⟨T,y⟩:∃T,A.Wk i=T:=⟨_,rfl⟩;have Y:W.heap[T]?=some (.cells (wkV A i x p hv) 249 (0,0)):=by rw[<-y];exact C
 have k0:W.cell? ⟨T,0,none⟩=some (pointer (some ⟨A.P,0,none⟩)):=by simp[cell?,Y,wkV,EO]
 obtain⟨bf,J⟩:∃b,x.blk.buf=b:=⟨_,rfl⟩;have a2:W.cell? ⟨T,10,none⟩=some (int i64 (bf:Int)):=by rw[<-J,<-e4];simp only[cell?,Y];rfl
 have hG:=λ(V:World)(hV:Bt W V)=>(h.bel hV).lift λo1 h1 z1=>aoc h1 bf hl;have D:leaveW s i=setW (Bv s bf) i λ_=>wk0 1:=by unfold leaveW;rw[z];simp only[J]
 have H:(Bv s bf).wk[i]?=some x:=z;have HG:=AA hG;have I:=AA (Lq D (Lq H (Lq hi y)));rw[y];clear h J C Y e1 e2 e3 e4 hG D H hi y z hl;go_enter func202,ntmps202;go_upto_region 0 with fail
 refine Hw 13 mixed kr ?_;dsimp only[List.take_succ_cons,List.take_zero,List.drop_succ_cons,List.drop_zero]
 repeat (go_big_quiet_step (fail))
 refine wpQuiet_nil ?_;rintro _ ⟨nq,rfl⟩;have a7:=AA (HG.out _ (AN W nq));clear k0 a2 a1
 go_wp2_with fail
 refine a7.out.mono ?_;rintro e X ⟨⟨v,rfl⟩,hg⟩;obtain⟨N,a6,Z,_⟩:=hg.cW I.out.2.1 I.out.2.2.1;have B:=AA (hg.leaveW I.out.2.1 I.out.2.2.1);rw[I.out.2.2.2]at Z B;have U:∀j,X.frozen? ⟨T,j,none⟩=false:=λj=>by simp[frozen?,Z]
 have f1:=U 1;have f6:=U 6;have f7:=U 7;have f8:=U 8;have f9:=U 9;have ac:=U 10;have ab:=U 11;have aa:=U 12;have a8:=U 13;have ah:X.cell? ⟨T,1,none⟩=some (.int .u8 (x.ph:Int)):=by simp only[cell?,Z];rfl
 have c6:X.cell? ⟨T,6,none⟩=some (int i64 N.num):=by simp only[cell?,Z];rfl
 have c7:X.cell? ⟨T,7,none⟩=some (int i64 N.start):=by simp only[cell?,Z];rfl
 have c8:X.cell? ⟨T,8,none⟩=some (int i64 N.warm):=by simp only[cell?,Z];rfl
 have c9:X.cell? ⟨T,9,none⟩=some (slice N.a N.m N.c):=by simp only[cell?,Z];rfl
 have ag:X.cell? ⟨T,10,none⟩=some (int i64 N.buf):=by simp only[cell?,Z];rfl
 have af:X.cell? ⟨T,11,none⟩=some (int i64 (x.node:Int)):=by simp only[cell?,Z];rfl
 have ae:X.cell? ⟨T,12,none⟩=some (int i64 (x.done:Int)):=by simp only[cell?,Z];rfl
 have ad:X.cell? ⟨T,13,none⟩=some a6:=by simp only[cell?,Z];rfl
 clear Z hg U;go_wp2
 go_end0
 refine⟨rfl,?_⟩;rw[I.out.1];exact B.out
end Go.Proofs.YtaamacoicojhnaaGreat
