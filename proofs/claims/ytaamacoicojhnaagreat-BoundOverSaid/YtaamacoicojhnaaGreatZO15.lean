/- Proofs over the given program, part 15. -/
import Derived.Test.YtaamacoicojhnaaGreatZO14
set_option linter.unusedVariables false
set_option linter.unusedSimpArgs false
set_option maxRecDepth 100000
set_option maxHeartbeats 16000000
open Go.Proofs.Tryz
open Go.Proofs.Tryz renaming prog→ZP
open Go.World(cell? frozen?)
open Go.Value(int slice pointer bool)
open Go.IntKind(i64)
namespace Go.Proofs.YtaamacoicojhnaaGreat
open Go.RowKit Go.Sort
theorem abm{A:PAd}{c:CfM}{s:PlM}{o:Nat->Nat}(w W:World)(h:AE A c o s w W)(J:s.fr.length<=100000) :Calls ZP 193 #[pointer (some ⟨A.R,0,none⟩)] W λe w'=>e=.returned (.tuple #[])/\AE A c o (backR s) w w':=by
 obtain⟨I,Z⟩:∃b,s.rd.buf=b:=⟨_,rfl⟩;have k0:=h.ceR 0 (pointer (some ⟨A.P,0,none⟩)) λ_=>rfl;have H:=h.ceR 7 (int i64 (I:Int)) λ_=>by rw[<-Z];rfl
 have X:=h.ceP 11 (pointer (some ⟨A.Bb,0,none⟩)) λ_=>rfl;have N:=AA Z;have C:=AA h;have D:=AA J;clear h Z J;go_enter func193,ntmps193;go_upto_region 0 with fail
 refine Hw 12 mixed kr ?_;dsimp only[List.take_succ_cons,List.take_zero,List.drop_succ_cons,List.drop_zero]
 repeat (go_big_quiet_step (fail))
 refine wpQuiet_nil ?_;rintro _ ⟨nq,rfl⟩;have U:=AA (C.out.bel (AN W nq));clear k0 H X
 go_wp2_with fail
 refine(U.out.lift λj h1 B=>aoc h1 I D.out).mono ?_;rintro e y ⟨⟨v,rfl⟩,Y⟩;have k0:=Y.frR 6;have k1:=Y.ceR 6 (bool s.rd.holds) λ_=>rfl;have V:=AA (Y.setR 6 (bool false) {s.rd with holds:=false} (λ_=>rfl) rfl);clear Y;go_wp2
 go_end0
 refine⟨rfl,?_⟩;have:=V.out;rw[<-N.out]at this;exact this
theorem aau{A:PAd}{c:CfM}{s:PlM}{o:Nat->Nat}(w W:World)(h:AE A c o s w W) :Calls ZP 145 #[pointer (some ⟨A.R,0,none⟩)] W λe w'=>e=.returned (.tuple #[])/\AE A c o (shutR s) w w':=by
 have k0:=h.ceR 0 (pointer (some ⟨A.P,0,none⟩)) λ_=>rfl;have Y:=h.ceP 12 (pointer (some ⟨A.Q,0,none⟩)) λ_=>rfl;have V:=AA h;clear h;go_enter func145,ntmps145;go_upto_region 1 with(go_at_call 197;refine(V.out.lift λJ h1 U=>anD h1).mono ?_;rintro e N ⟨⟨v,rfl⟩,Z⟩)
 have H:=Z.frR 1;have I:=Z.ceR 1 (.int .u8 (s.rd.ph:Int)) λ_=>rfl;have X:=AA (Z.setR 1 (.int .u8 5) {s.rd with ph:=5} (λ_=>rfl) rfl);clear Z k0 Y;go_wp2
 go_end0
 exact⟨rfl,X.out⟩
theorem afD{A:PAd}{c:CfM}{s:PlM}{o:Nat->Nat}(w W:World)(h:AE A c o s w W)(U:s.fr.length<=100000) :Calls ZP 146 #[pointer (some ⟨A.R,0,none⟩)] W λe w'=>e=.returned (.tuple #[])/\AE A c o (stopR s) w w':=by
 have N:=AA h;have H:=AA U;unfold stopR
 cases V:s.rd.holds with
 |true=>
  have k0:=h.ceR 6 (bool true) λ_=>by rw[<-V];rfl
  rw[Vb rfl];clear h U V;go_enter func146,ntmps146;go_upto_region 2 with(go_at_call 193;refine(abm w W N.out H.out).mono ?_;rintro e I ⟨rfl,Z⟩)
  have X:=AA (aau w I Z);clear Z k0
  go_wp2_with (go_at_call 145;refine X.out.mono ?_;rintro e J ⟨rfl,Z⟩;have Y:=AA Z;clear Z)
  go_end0
  exact⟨rfl,Y.out⟩
 |false=>
  have k0:=h.ceR 6 (bool false) λ_=>by rw[<-V];rfl
  rw[Va sm];clear h U V;have X:=AA (aau w W N.out);go_enter func146,ntmps146
  go_wp2_with (go_at_call 145;refine X.out.mono ?_;rintro e J ⟨rfl,Z⟩;have Y:=AA Z;clear Z)
  go_end0
  exact⟨rfl,Y.out⟩
theorem afB{A:PAd}{c:CfM}{s:PlM}{o:Nat->Nat}(w W:World)(h:AE A c o s w W)(n:Nat)(l:List Nat)(hf:s.fr=l++[n])(hl:s.fr.length<=100000)(hr:∀x∈s.fr,x<s.us.length)(hd:s.ds.length=s.us.length)(ht:s.rd.tail.length<=c.K+c.wm)(a6:c.K+c.wm<=100000) :Calls ZP 140 #[pointer (some ⟨A.R,0,none⟩)] W λe w'=>e=.returned (.tuple #[])/\AE A c o (takeR s) w w':=by
 have k0:=h.ceR 0 (pointer (some ⟨A.P,0,none⟩)) λ_=>rfl;have ai:=h.ceP 11 (pointer (some ⟨A.Bb,0,none⟩)) λ_=>rfl;have a7:n<s.us.length:=hr n (by rw[hf];simp);have e1:s.fr.getLast?.getD 0=n:=by rw[hf];simp
 have e2:s.fr.dropLast=l:=by rw[hf];simp
 have e3:(s.us.set n true)[n]?=some true:=by rw[FU a7]
 have e4:(s.ds.set n [])[n]?=some []:=by rw[FU om]
 have aj:=h.neRP;have HE:=AA (Vd (Vd e1 e2) (Vd e3 e4));have HH:=AA (Vd hf (Vd hl hr));have HG:=AA h;have HL:=AA (Vd ht a6);clear h hf hl hr hd ht a6 a7 e1 e2 e3 e4;go_enter func140,ntmps140;go_upto_region 2 with(go_at_call 190;refine(HG.out.lift λo1 h1 z1=>apd h1 n l HH.out.1 HH.out.2.1 HH.out.2.2).mono ?_;rintro e w1 ⟨rfl,H⟩;have j0:=H.frR 7;have j1:=H.ceR 7 (int i64 (s.rd.buf:Int)) λ_=>rfl;have j2:=H.frR 6;have j3:=H.ceR 6 (bool s.rd.holds) λ_=>rfl;have N:=AA ((H.setR 7 (int i64 (n:Int)) {s.rd with buf:=n} (λ_=>rfl) rfl).setR 6 (bool true) {s.rd with buf:=n,holds:=true} (λ_=>rfl) rfl);clear H)
 obtain⟨W2,aa⟩:∃V,V=(w1.setCell ⟨A.R,7,none⟩ (int i64 (n:Int))).setCell ⟨A.R,6,none⟩ (bool true):=⟨_,rfl⟩;rw[<-aa]at N⊢;clear aa j0 j1 j2 j3 k0 ai;obtain⟨at_,ct,Y,a8,ak⟩:=N.out.tail;have m7:=N.out.ceR 7 (int i64 (n:Int)) λ_=>rfl;have ag:=N.out.ceP 11 (pointer (some ⟨A.Bb,0,none⟩)) λ_=>rfl;obtain⟨tl,I⟩:∃m,s.rd.tail.length=m:=⟨_,rfl⟩;rw[show(({s with fr:=l,us:=s.us.set n true,ds:=s.ds.set n [],rd:={s.rd with buf:=n,holds:=true}}:PlM).rd.tail.length)=tl from I]at Y;have au:Hid (Bys W2 at_ tl s.rd.tail):=by have h9:Bys W2 at_ s.rd.tail.length s.rd.tail:=a8;rw[I]at h9;exact h9
 have a2:=AA I;clear a8 ak I;refine Hw 12 mixed kr ?_;dsimp only[List.take_succ_cons,List.take_zero,List.drop_succ_cons,List.drop_zero]
 repeat (go_big_quiet_step (fail))
 refine wpQuiet_nil ?_;rintro _ ⟨nq,rfl⟩;have ar:=AA (N.out.bel (AN W2 nq));have af:=AA (au.out.below (AN W2 nq));have B:([]:List Int).length+tl<=c.K+c.wm:=by have h1:=HL.out.1;have h2:=a2.out;simp only[Bw];omega
 have HC:=AA (ar.out.lift λo1 h1 z1=>aod h1 n tl ct at_ s.rd.tail [] af.out HE.out.2.1 HE.out.2.2 B HL.out.2);clear m7 Y ag B
 go_wp2_with fail
 refine HC.out.mono ?_;rintro e w3 ⟨rfl,H⟩;have U:=AA (H.bel (AN w3 1));obtain⟨a1,j,Y,_,_⟩:=U.out.tail;rw[show(({s with fr:=l,us:=s.us.set n true,ds:=(s.ds.set n []).set n ([]++s.rd.tail),rd:={s.rd with buf:=n,holds:=true}}:PlM).rd.tail.length)=tl from a2.out]at Y;have J:=U.out.ceP 17 (int i64 (s.read:Int)) λ_=>rfl;obtain⟨Z,X⟩:∃m,s.read=m:=⟨_,rfl⟩;rw[X]at J;have f8:=U.out.frR 8;have c8:=U.out.ceR 8 (int i64 (s.rd.warm:Int)) λ_=>rfl;have H8:=U.out.setR 8 (int i64 (tl:Int)) {s.rd with buf:=n,holds:=true,warm:=tl} (λ_=>rfl) rfl;have f9:=H8.frR 9;have c9:=H8.ceR 9 (int i64 (s.rd.own:Int)) λ_=>rfl;have H9:=H8.setR 9 (int i64 0) {s.rd with buf:=n,holds:=true,warm:=tl,own:=0} (λ_=>rfl) rfl;have am:=H9.frR 10;have ao:=H9.ceR 10 (int i64 (s.rd.ahead:Int)) λ_=>rfl;have C:=H9.setR 10 (int i64 (Z:Int)) {s.rd with buf:=n,holds:=true,warm:=tl,own:=0,ahead:=Z} (λ_=>rfl) rfl;have f1:=C.frR 1;have c1:=C.ceR 1 (.int .u8 (s.rd.ph:Int)) λ_=>rfl;have H1:=C.setR 1 (.int .u8 2) {s.rd with buf:=n,holds:=true,warm:=tl,own:=0,ahead:=Z,ph:=2} (λ_=>rfl) rfl;obtain⟨D,hD⟩:∃D,D=w3.drew:=⟨_,rfl⟩;have ab:w3.drewN 1=D:=by rw[hD];rfl
 rw[ab]at Y J f8 c8 f9 c9 am ao f1 c1 H1;have hS:∀(i:Nat)(v:Value),i≠11->∀V:World,(V.cell? ⟨A.R,11,none⟩=some (slice a1 tl j)/\V.cell? ⟨A.P,17,none⟩=some (int i64 (Z:Int)))->((V.setCell ⟨A.R,i,none⟩ v).cell? ⟨A.R,11,none⟩=some (slice a1 tl j)/\(V.setCell ⟨A.R,i,none⟩ v).cell? ⟨A.P,17,none⟩=some (int i64 (Z:Int))):=λi v hi V hV=>by
  refine⟨?_,?_⟩
  ·rw[World.cell?_setCell_other V _ _ _ (λe=>hi (Addr.mk.inj e).2.1)];exact hV.1
  ·rw[OG V _ _ _ aj];exact hV.2
 have HS:=AA hS;have aq:=AA H1;have ap:=AA X;clear H H8 H9 C H1 hS ab X;go_upto_region 3 with fail
 refine Vh ?_;refine Vg (S:=λV=>V.cell? ⟨A.R,11,none⟩=some (slice a1 tl j)/\V.cell? ⟨A.P,17,none⟩=some (int i64 (Z:Int))) kr (by rw[<-hD];exact⟨Y,J⟩) (λhHeld=>?_);rw[<-hD]at hHeld⊢;clear hD;refine tkA 0 ?_;refine tkA 1 ?_;refine tkA 2 ?_;refine tkA 3 ?_;refine tkA 4 ?_;refine tkA 5 ?_;refine tkW 6 (v:=?_) ?_ ?_;rotate_left
 ·intro V hV;obtain⟨q1,q2⟩:=hV
  first|(go_simp;done)|(go_simp;with_reducible rfl)
 try simp only[pq]
 refine tkA 7 ?_;refine tkA 8 ?_;refine tkA 9 ?_;refine tkA 10 ?_;refine tkW 11 (v:=?_) ?_ ?_;rotate_left
 ·intro V hV;obtain⟨q1,q2⟩:=hV
  first|(go_simp;done)|(go_simp;with_reducible rfl)
 try simp only[pq]
 refine tkA 12 ?_;refine tkA 13 ?_;refine rdy 14 (λK y=>?_);go_simp;refine y.out _ _ (HS.out 8 _ (by decide) _ hHeld) (λae=>?_);clear y K
 try simp only[pq]
 refine tkA 15 ?_;refine tkA 16 ?_;refine rdy 17 (λK y=>?_);go_simp;refine y.out _ _ (HS.out 9 _ (by decide) _ ae) (λac=>?_);clear y K
 try simp only[pq]
 refine tkA 18 ?_;refine tkA 19 ?_;refine rdy 20 (λK y=>?_);go_simp;refine y.out _ _ (HS.out 10 _ (by decide) _ ac) (λal=>?_);clear y K
 try simp only[pq]
 refine Vj kr ?_ _;refine At ?_;clear ae ac al hHeld Y J;go_wp2
 go_end0
 refine⟨rfl,?_⟩;have e1:=HE.out.1.1;have e2:=HE.out.1.2;have e3:takeR s={s with fr:=l,us:=s.us.set n true,ds:=(s.ds.set n []).set n ([]++s.rd.tail),rd:={s.rd with buf:=n,holds:=true,warm:=tl,own:=0,ahead:=Z,ph:=2}}:=by unfold takeR;rw[<-a2.out,<-ap.out];simp only[e1,e2,Av]
 rw[e3];exact aq.out
section
variable {P:Program}{md:Region.Mode}{ops:Array Oper}{Q:Exit->Act->World->Prop}{S:World->Prop}
theorem ad2(i j k:Nat)(s Rj Rk:Value->World->Prop){D o ok:Oper}{J:Nat}{Z:Array Bool}{a:Act}{w:World}(hi:ops[i]?=some D)(hj:ops[j]?=some o)(hk:ops[k]?=some ok)
  (hr:Region.ready md ops Z=[i,k]) (ae:Region.ready md ops (Z.setIfInBounds i true)=[j,k]) (ac:Region.ready md ops (Z.setIfInBounds k true)=[i])
  (a2:Region.ready md ops ((Z.setIfInBounds i true).setIfInBounds k true)=[j])
  (ag:i≠k) (af:j≠k) (a7:D.dst≠ok.dst) (a6:o.dst≠ok.dst) (hS:S w)
  (mi:∀v (w w':World),s v w->Br w w'->s v w') (mj:∀v (w w':World),Rj v w->Br w w'->Rj v w') (mk:∀v (w w':World),Rk v w->Br w w'->Rk v w')
  (yi:Kz P ops Q S D s a) (yk:Kz P ops Q S ok Rk a) (ab:∀V,Kz P ops Q S D s (a.put ok.dst V))
  (yj:∀Y,Kz P ops Q (λw=>S w/\s Y w) o Rj (a.put D.dst Y)) (a8:∀Y,Kz P ops Q S ok Rk (a.put D.dst Y))
  (aa:∀Y V,Kz P ops Q (λw=>S w/\s Y w) o Rj ((a.put D.dst Y).put ok.dst V))
  (H2:∀Y A w',S w'->s Y w'->Rj A w'->Br w w'->wpAnyH P md ops Q S (J+1) ((Z.setIfInBounds i true).setIfInBounds j true) ((a.put D.dst Y).put o.dst A) w')
  (H:∀Y A V w',S w'->s Y w'->Rj A w'->Rk V w'->Br w w'->wpAnyH P md ops Q S J (((Z.setIfInBounds i true).setIfInBounds j true).setIfInBounds k true) (((a.put D.dst Y).put o.dst A).put ok.dst V) w'):wpAnyH P md ops Q S (J+3) Z a w:=by
 have aj:∀d,ok.dst=some d->D.dst≠some d:=λd h1 h2=>a7 (h2.trans h1.symm);have ai:∀d,ok.dst=some d->o.dst≠some d:=λd h1 h2=>a6 (h2.trans h1.symm);have tail:∀Y V (u:World),S u->s Y u->Rk V u->Br w u->wpAnyH P md ops Q S (J+1) ((Z.setIfInBounds i true).setIfInBounds k true) ((a.put D.dst Y).put ok.dst V) u:=λY V u N I C y=>by refine wpAnyH_ready a2 sm (Aw hj (λK B=>aa Y V u ⟨N,I⟩ K (λA u' e a1 X=>B.out _ _ e.1 (λ_=>?_))) Ci);have h:=H Y A V u' e.1 e.2 a1 (mk _ _ _ C X) (y.trans (X.mono y.size));rw[OO _ _ af,<-Act.put_comm (a.put D.dst Y) V A ai]at h;exact h
 refine wpAnyH_ready hr sm (Aw hi (λK B=>yi w hS K (λY u N I y=>B.out _ _ N (λ_=>?_))) (Aw hk (λK B=>yk w hS K (λV u N C y=>B.out _ _ N (λ_=>?_))) Ci))
 ·refine wpAnyH_ready ae sm (Aw hj (λK B=>yj Y u ⟨N,I⟩ K (λA u2 U a1 X=>B.out _ _ U.1 (λ_=>?_))) (Aw hk (λK B=>a8 Y u N K (λV u2 U C X=>B.out _ _ U (λ_=>tail Y V u2 U (mi _ _ _ I X) C (y.trans (X.mono y.size))))) Ci));exact H2 Y A u2 U.1 U.2 a1 (y.trans (X.mono y.size))
 ·refine wpAnyH_ready ac sm (Aw hi (λK B=>ab V u N K (λY u2 U I X=>B.out _ _ U (λ_=>?_))) Ci);have h:=tail Y V u2 U I (mk _ _ _ C X) (y.trans (X.mono y.size));rw[OO _ _ ag,<-Act.put_comm a V Y aj]at h;exact h
end
theorem Gy{w:World}{base n size:Nat}{e:TypeId}{v:Value}{xs:List Value}(h:w.ownsRow base e size v n xs):∃a c,v=slice a n c/\n<=c/\SlK size w a n xs/\∀q,a=some q->base<=q.block/\q.block<w.heap.size:=by obtain⟨a,c,rfl,h1,h2⟩:=SlK.own h;exact⟨a,c,rfl,h1,h2,λq Z=>Gw h q.block (by rw[Z];rfl)⟩
def anc(B N:Nat)(Z:List Int)(v:Value)(X:World):Prop:=∃a Y,v=slice a N Y/\ByD (λk=>B<=k/\k<X.heap.size) X a N Z
def anj(B N:Nat)(Z:List Int)(nu st wm:Nat)(v:Value)(X:World):Prop:=∃a Y,v=.agg #[int i64 (nu:Int),int i64 (st:Int),int i64 (wm:Int),slice a N Y]/\ByD (λk=>B<=k/\k<X.heap.size) X a N Z
def anT(B:Nat)(v:Value)(X:World):Prop:=∃b,v=pointer (some ⟨b,0,none⟩)/\B<=b/\X.heap[b]?=some (.cells #[int i64 0,int i64 0,int i64 0,slice none 0 0] 120 (0,0))
theorem agB{B N:Nat}{Z:List Int}{a:Option Addr}{X Y:World}(h:ByD (λk=>B<=k/\k<X.heap.size) X a N Z)(V:Br X Y):ByD (λk=>B<=k/\k<Y.heap.size) Y a N Z:=(h.keep (Y:=λ_=>False) (.of_same V) λ_ _ _ h=>h).wide λk _ hk=>⟨hk.1,Af hk.2 V.size⟩
theorem aje(B N:Nat)(Z:List Int)(v:Value)(X Y:World)(h:anc B N Z v X)(V:Br X Y):anc B N Z v Y:=let⟨a,cc,h1,h2⟩:=h;⟨a,cc,h1,agB h2 V⟩
theorem aji(B N:Nat)(Z:List Int)(nu st wm:Nat)(v:Value)(X Y:World)(h:anj B N Z nu st wm v X)(V:Br X Y):anj B N Z nu st wm v Y:=let⟨a,cc,h1,h2⟩:=h;⟨a,cc,h1,agB h2 V⟩
theorem ao4(B:Nat)(v:Value)(X Y:World)(h:anT B v X)(Z:Br X Y):anT B v Y:=let⟨b,h1,h2,h3⟩:=h;⟨b,h1,h2,(Z.block b (AD.1 h3).1).trans h3⟩
theorem aip{A:PAd}{c:CfM}{s:PlM}{o:Nat->Nat}(w W:World)(h:AE A c o s w W)(C:List Int)(hu:s.us[s.rd.buf]?=some true)(hd:s.ds[s.rd.buf]?=some C)(hl:C.length<=100000)(aq:∀x∈C,0<=x/\x<=255)(hq:s.q.length<c.Q)(aH:s.shut=false)(hF:c.F+s.rd.ahead<=4611686018428387904)(ar:s.number<=1000000000) :Calls ZP 144 #[pointer (some ⟨A.R,0,none⟩)] W λe w'=>e=.returned (.tuple #[])/\AE A c o (putR c s) w w':=by
 have k0:=h.ceR 0 (pointer (some ⟨A.P,0,none⟩)) λ_=>rfl;obtain⟨nu,aB⟩:∃m,s.number=m:=⟨_,rfl⟩;obtain⟨bf,ag⟩:∃m,s.rd.buf=m:=⟨_,rfl⟩;obtain⟨ah,aD⟩:∃m,s.rd.ahead=m:=⟨_,rfl⟩;obtain⟨wm,ay⟩:∃m,s.rd.warm=m:=⟨_,rfl⟩;obtain⟨N,hN⟩:∃m,C.length=m:=⟨_,rfl⟩;have X:Hid (∀V,Br W V->V.cell? ⟨A.P,16,none⟩=some (int i64 (nu:Int))/\V.cell? ⟨A.P,7,none⟩=some (int i64 (c.F:Int))/\V.cell? ⟨A.R,10,none⟩=some (int i64 (ah:Int))/\V.cell? ⟨A.R,8,none⟩=some (int i64 (wm:Int))/\V.cell? ⟨A.P,11,none⟩=some (pointer (some ⟨A.Bb,0,none⟩))/\V.cell? ⟨A.R,7,none⟩=some (int i64 (bf:Int))):=λV Z=>by have j:=h.bel Z;exact⟨j.ceP 16 _ λ_=>by rw[<-aB];rfl,j.ceP 7 _ λ_=>rfl,j.ceR 10 _ λ_=>by rw[<-aD];rfl,j.ceR 8 _ λ_=>by rw[<-ay];rfl,j.ceP 11 _ λ_=>rfl,j.ceR 7 _ λ_=>by rw[<-ag];rfl⟩
 have HD:Hid (∀V,Br W V->Calls ZP 195 #[pointer (some ⟨A.Bb,0,none⟩),int i64 (bf:Int)] V λe w'=>∃a cc,e=.returned (slice a N cc)/\ByD (λk=>W.heap.size<=k/\k<w'.heap.size) w' a N C/\Br V w'):=λV Z=>(h.bel Z).low λo1 h1=>by rw[<-ag,<-hN];refine(ap4 h1 s.rd.buf C hu hd om).mono ?_;rintro e w' ⟨v,rfl,ho,hb⟩;obtain⟨a,cc,rfl,_,hs⟩:=Co (enc:=Value.int .u8) ho;refine⟨a,cc,rfl,⟨⟨hs,aq⟩,λ_ q e=>?_⟩,hb⟩;have:=Gw ho q.block (by rw[e];rfl);exact⟨AS Z.size this.1,this.2⟩
 obtain⟨st,aF⟩:∃m,c.F+ah=m:=⟨_,rfl⟩;have b6:IntKind.i64.wrap ((c.F:Int)+(ah:Int))=(st:Int):=by rw[BK];omega
 have b0:=AA aF;have HG:=AA h;have HN:=AA (Vd aB (Vd ag (Vd aD (Vd ay hN))));have HQ:=AA (Vd hq (Vd aH ar));have b4:=AA hd;clear h hu hd hl aq hq aH hF ar aB ag aD ay hN aF;go_enter func144,ntmps144;go_upto_region 1 with fail
 clear k0;refine Vh ?_;refine Vg (S:=λV=>Br W V) kr (AN W 1) (λhHeld=>?_);refine tkA 0 ?_;refine tkA 1 ?_;refine tkA 2 ?_;refine tkB 3 X.out ?_;refine tkA 4 ?_;refine tkA 5 ?_;refine tkA 6 ?_;refine tkA 7 ?_;refine tkB 8 X.out ?_;refine tkA 9 ?_;refine tkA 10 ?_;refine tkA 11 ?_;refine tkB 12 X.out ?_;refine tkA 13 ?_;refine tkA 14 ?_;refine tkA 15 ?_;refine tkA 16 ?_;refine tkB 17 X.out ?_;refine tkA 18 ?_;refine tkA 19 ?_;refine tkA 20 ?_;refine tkB 21 X.out ?_;refine tkA 22 ?_;refine tkA 23 ?_;refine tkA 24 ?_;refine tkB 25 X.out ?_;refine(λH=>ad2 26 27 28 (anc W.heap.size N C) (anj W.heap.size N C nu st wm) (anT W.heap.size) (by simp only[pD,pE,pF];rfl) (by simp only[pD,pE,pF];rfl) (by simp only[pD,pE,pF];rfl) (by as_aux_lemma=>kernel_rfl) (by as_aux_lemma=>kernel_rfl) (by as_aux_lemma=>kernel_rfl) (by as_aux_lemma=>kernel_rfl) (by decide) (by decide) (by decide) (by decide) (by assumption) (aje W.heap.size N C) (aji W.heap.size N C nu st wm) (ao4 W.heap.size) ?_ ?_ ?_ ?_ ?_ ?_ ?_ H) ?_
 ·intro V Z K X
  try simp only[pq]at X⊢
  go_simp
  (go_at_call 195;refine(HD.out V Z).mono ?_;rintro e w9 ⟨a9,c9,rfl,y,ac⟩;exact X _ _ (Z.trans (ac.mono Z.size)) ⟨a9,c9,rfl,y⟩ ac)
 ·intro V Z K X
  try simp only[pq]at X⊢
  go_simp;exact X _ _ (Z.trans ((AL _ _).mono Z.size)) (⟨_,rfl,Z.size,AT _ _⟩) (AL _ _)
 ·intro vk V Z K X
  try simp only[pq]at X⊢
  go_simp
  (go_at_call 195;refine(HD.out V Z).mono ?_;rintro e w9 ⟨a9,c9,rfl,y,ac⟩;exact X _ _ (Z.trans (ac.mono Z.size)) ⟨a9,c9,rfl,y⟩ ac)
 ·intro vi V Z K X;obtain⟨Z,hR⟩:=Z
  try simp only[pq]at X⊢
  (obtain⟨a9,c9,rfl,y⟩:=hR;go_simp;exact X _ _ ⟨Z,a9,c9,rfl,y⟩ ⟨a9,c9,rfl,y⟩ (Jj _ _))
 ·intro vi V Z K X
  try simp only[pq]at X⊢
  go_simp;exact X _ _ (Z.trans ((AL _ _).mono Z.size)) (⟨_,rfl,Z.size,AT _ _⟩) (AL _ _)
 ·intro vi vk V Z K X;obtain⟨Z,hR⟩:=Z
  try simp only[pq]at X⊢
  (obtain⟨a9,c9,rfl,y⟩:=hR;go_simp;exact X _ _ ⟨Z,a9,c9,rfl,y⟩ ⟨a9,c9,rfl,y⟩ (Jj _ _))
 ·intro vi vj V Z aV aU ai;refine rdy 28 (λK X=>?_);go_simp;refine X.out _ _ (Z.trans ((AL _ _).mono Z.size)) (λ_=>?_);exact H vi vj _ _ (Z.trans ((AL _ _).mono Z.size)) ((aje W.heap.size N C) _ _ _ aV (AL _ _)) ((aji W.heap.size N C nu st wm) _ _ _ aU (AL _ _)) (⟨_,rfl,Z.size,AT _ _⟩) (ai.trans ((AL _ _).mono ai.size))
 rintro vi vj vk V Z ⟨_,_,rfl,_⟩ ⟨a1,c1,rfl,ab⟩ ⟨J,rfl,ae,I⟩ ai
 try simp only[pq]
 obtain⟨V2,ak⟩:∃U,U=(((V.setCell ⟨J,0,none⟩ (int i64 (nu:Int))).setCell ⟨J,1,none⟩ (int i64 (st:Int))).setCell ⟨J,2,none⟩ (int i64 (wm:Int))).setCell ⟨J,3,none⟩ (slice a1 N c1):=⟨_,rfl⟩;have aC:Br W V2:=by rw[ak];exact(((Z.setCell ae _).setCell ae _).setCell ae _).setCell ae _
 have a2:V2.heap[J]?=some (.cells #[int i64 (nu:Int),int i64 (st:Int),int i64 (wm:Int),slice a1 N c1] 120 (0,0)):=by rw[ak];exact AJ (i:=3) (AJ (i:=2) (AJ (i:=1) (AJ (i:=0) I (int i64 (nu:Int))) (int i64 (st:Int))) (int i64 (wm:Int))) (slice a1 N c1)
 have af:Chg (λk=>k=J) V V2:=by rw[ak];exact((((Chg.refl (λk=>k=J) V).set rfl).set rfl).set rfl).set rfl
 have y0:V.cell? ⟨J,0,none⟩=some (int i64 0):=by simp[cell?,I]
 have y1:V.cell? ⟨J,1,none⟩=some (int i64 0):=by simp[cell?,I]
 have y2:V.cell? ⟨J,2,none⟩=some (int i64 0):=by simp[cell?,I]
 have y3:V.cell? ⟨J,3,none⟩=some (slice none 0 0):=by simp[cell?,I]
 have z0:V.frozen? ⟨J,0,none⟩=false:=by simp[frozen?,I]
 have z1:V.frozen? ⟨J,1,none⟩=false:=by simp[frozen?,I]
 have z2:V.frozen? ⟨J,2,none⟩=false:=by simp[frozen?,I]
 have z3:V.frozen? ⟨J,3,none⟩=false:=by simp[frozen?,I]
 have aZ:=AA ak;refine rdy 29 (λK X=>?_);go_simp;rw[<-aZ.out];refine X.out _ _ aC (λaX=>?_);clear X K
 try simp only[pq]
 refine Vj kr ?_ _;refine At ?_;have aJ:N≠0->∀q,a1=some q->q.block≠J:=λh0 q e e2=>by
  obtain⟨g,off,e3,hl,hx⟩:=ab.1.1.2.resolve_left h0;rw[e3]at e
  cases AK e
  have e2:g=J:=e2;subst e2;have b7:C.length=N:=HN.out.2.2.2.2;have h1:=hx 0 _ (Ar (by omega:0<C.length));simp only[cell?,I]at h1;have h2:off<4:=by
   have:=(AD.1 h1).1
   simpa using this
  rcases(by omega:off=0∨off=1∨off=2∨off=3)with rfl|rfl|rfl|rfl<;>simp at h1
 have a6:ByD (λk=>W.heap.size<=k/\k<V2.heap.size) V2 a1 N C:=by refine⟨ab.1.same af.size λh0 q e=>af.block _ (ab.1.lt h0 q e) (aJ h0 q e),λh0 q e=>?_⟩;have:=ab.2 h0 q e;exact⟨this.1,Af this.2 af.size⟩
 obtain⟨o3,h3,w3,g3,n3⟩:=HG.out.belZ aC;have aA:PcD (λk=>o3 k=0) V2 ⟨(nu:Int),(st:Int),(wm:Int),a1,N,c1,(bf:Int)⟩ ⟨nu,st,wm,C,bf⟩:=⟨rfl,rfl,rfl,rfl,a6.1,λh0 q e=>n3 _ (a6.2 h0 q e).1 (a6.2 h0 q e).2⟩;have b9:=AA aA;have b8:=AA a2;have bb:=AA h3;have am:=AA (Vd w3 g3);have aW:Hid (∀V,Br V2 V->V.cell? ⟨A.P,12,none⟩=some (pointer (some ⟨A.Q,0,none⟩))/\V.cell? ⟨A.R,7,none⟩=some (int i64 (bf:Int))/\V.cell? ⟨J,0,none⟩=some (int i64 (nu:Int))/\V.cell? ⟨J,1,none⟩=some (int i64 (st:Int))/\V.cell? ⟨J,2,none⟩=some (int i64 (wm:Int))/\V.cell? ⟨J,3,none⟩=some (slice a1 N c1)):=λV Z=>by have j:=h3.g.bel Z;have B:=(Z.block J (AD.1 a2).1).trans a2;exact⟨j.ceP 12 _ λ_=>rfl,j.ceR 7 _ λ_=>by rw[<-HN.out.2.1];rfl,by simp[cell?,B],by simp[cell?,B],by simp[cell?,B],by simp[cell?,B]⟩
 have aw:o3 J=0:=n3 J ae (AD.1 a2).1;have az:=HQ.out;have al:Hid (∀(s':PlM) V,AE A c o3 s' V2 V->s'.rd=s.rd->V.cell? ⟨A.P,12,none⟩=some (pointer (some ⟨A.Q,0,none⟩))/\V.cell? ⟨A.R,7,none⟩=some (int i64 (bf:Int))/\V.cell? ⟨J,0,none⟩=some (int i64 (nu:Int))/\V.cell? ⟨J,1,none⟩=some (int i64 (st:Int))/\V.cell? ⟨J,2,none⟩=some (int i64 (wm:Int))/\V.cell? ⟨J,3,none⟩=some (slice a1 N c1)):=λs' V j hr=>by have B:=(j.weak J (AD.1 a2).1 aw).trans a2;exact⟨j.ceP 12 _ λ_=>rfl,j.ceR 7 _ λ_=>by rw[hr,<-HN.out.2.1];rfl,by simp[cell?,B],by simp[cell?,B],by simp[cell?,B],by simp[cell?,B]⟩
 have aR:=AA (al.out s _ (h3.g.bel (AN V2 1)) rfl);obtain⟨D,hD⟩:∃D,D=V2.drew:=⟨_,rfl⟩;obtain⟨U,hU⟩:∃U,U=D.alloc (.cells #[int i64 (nu:Int),int i64 (st:Int),int i64 (wm:Int),slice a1 N c1,int i64 (bf:Int)] 126):=⟨_,rfl⟩;have aj:Br V2 U:=by rw[hU,hD];exact(AN V2 1).alloc (AC _) _
 have ax:U.heap[D.heap.size]?=some (.cells #[int i64 (nu:Int),int i64 (st:Int),int i64 (wm:Int),slice a1 N c1,int i64 (bf:Int)] 126 (0,0)):=by rw[hU];exact AT _ _
 have aG:SlK 5 U (some ⟨D.heap.size,0,none⟩) 1 [int i64 (nu:Int),int i64 (st:Int),int i64 (wm:Int),slice a1 N c1,int i64 (bf:Int)]:=by
  refine⟨rfl,.inr ⟨D.heap.size,0,rfl,(AD.1 ax).1,λi u hi=>?_⟩⟩;have e:U.cell? ⟨D.heap.size,0+i,none⟩=(#[int i64 (nu:Int),int i64 (st:Int),int i64 (wm:Int),slice a1 N c1,int i64 (bf:Int)]:Array Value)[0+i]?:=by simp only[cell?,ax];simp
  rw[e,DD,Dy];exact hi
 have aQ:=AA (al.out s U (h3.g.bel aj) rfl);have aI:PcD (λk=>o3 k=0) U ⟨(nu:Int),(st:Int),(wm:Int),a1,N,c1,(bf:Int)⟩ ⟨nu,st,wm,C,bf⟩:=aA.keep (Y:=λ_=>False) (.of_same aj) λ_ _ _ h=>h;have HC:=AA ((h3.g.bel aj).lift λo4 h4 z4=>ap7 h4 ⟨nu,st,wm,C,bf⟩ ⟨(nu:Int),(st:Int),(wm:Int),a1,N,c1,(bf:Int)⟩ (some ⟨D.heap.size,0,none⟩) 1 az.1 az.2.1 (aI.wide λk _ hk=>z4 k hk) aG);clear aA a6 aJ a2 h3 w3 g3 n3 af y0 y1 y2 y3 z0 z1 z2 z3 aX I ab aC ai hHeld Z X HG aW aw az aj ax aG aI;have HU:=AA hU;clear hU;go_upto_region 2 with fail
 refine Vh ?_;refine Vg (S:=λV=>V.cell? ⟨A.P,12,none⟩=some (pointer (some ⟨A.Q,0,none⟩))/\V.cell? ⟨A.R,7,none⟩=some (int i64 (bf:Int))/\V.cell? ⟨J,0,none⟩=some (int i64 (nu:Int))/\V.cell? ⟨J,1,none⟩=some (int i64 (st:Int))/\V.cell? ⟨J,2,none⟩=some (int i64 (wm:Int))/\V.cell? ⟨J,3,none⟩=some (slice a1 N c1)) kr aR.out (λhHeld=>?_);rw[<-hD]at hHeld⊢;clear hD;refine tkA 0 ?_;refine tkA 1 ?_;refine tkA 2 ?_;refine tkW 3 (v:=?_) ?_ ?_;rotate_left
 ·intro V Z;obtain⟨q1,q2,q3,q4,q5,q6⟩:=Z
  first|(go_simp;done)|(go_simp;with_reducible rfl)
 try simp only[pq]
 refine tkW 4 (v:=?_) ?_ ?_;rotate_left
 ·intro V Z;obtain⟨q1,q2,q3,q4,q5,q6⟩:=Z
  first|(go_simp;done)|(go_simp;with_reducible rfl)
 try simp only[pq]
 refine tkA 5 ?_;refine tkA 6 ?_;refine tkA 7 ?_;refine tkW 8 (v:=?_) ?_ ?_;rotate_left
 ·intro V Z;obtain⟨q1,q2,q3,q4,q5,q6⟩:=Z
  first|(go_simp;done)|(go_simp;with_reducible rfl)
 try simp only[pq]
 refine tkA 9 ?_;refine rdy 10 (λK X=>?_);go_simp;rw[<-HU.out];refine X.out _ _ aQ.out (λh10=>?_);clear X K
 try simp only[pq]
 refine rdy 11 (λK X=>?_);go_simp
 go_at_call 196
 refine HC.out.mono ?_;rintro e w5 ⟨⟨v5,rfl⟩,j⟩;refine X.out _ _ (al.out _ _ j rfl) (λh11=>?_);clear X K
 try simp only[pq]
 refine Vj kr ?_ _;refine At ?_;clear h10 h11 hHeld aR aQ HC al;obtain⟨aa,au⟩:∃m,nu+1=m:=⟨_,rfl⟩;have b5:IntKind.i64.wrap ((nu:Int)+1)=(aa:Int):=by have h1:=HQ.out.2.2;have h2:=HN.out.1;rw[BK];omega
 have aT:=j.ceP 16 (int i64 (nu:Int)) λ_=>by rw[<-HN.out.1];rfl
 have aY:=j.frP 16;have ap:=AA (j.setP 16 (int i64 (aa:Int)) {s with q:=s.q++[⟨nu,st,wm,C,bf⟩],number:=aa} (λ_=>rfl) rfl (Ai.congr 1));have b2:=AA au;clear j au;go_upto_region 4 with fail
 obtain⟨W6,aM⟩:∃V,V=w5.setCell ⟨A.P,16,none⟩ (int i64 (aa:Int)):=⟨_,rfl⟩;rw[<-aM]at ap⊢;clear aM aT aY;have c6:=ap.out.ceR 6 (bool s.rd.holds) λ_=>rfl;have f6:=ap.out.frR 6;have ao:=AA (ap.out.setR 6 (bool false) {s.rd with holds:=false} (λ_=>rfl) rfl);go_upto_region 5 with fail
 obtain⟨W7,aL⟩:∃V,V=W6.setCell ⟨A.R,6,none⟩ (bool false):=⟨_,rfl⟩;rw[<-aL]at ao⊢;clear aL c6 f6;have aP:=ao.out.ceR 1 (.int .u8 (s.rd.ph:Int)) λ_=>rfl;have aN:=ao.out.frR 1;have a8:=AA (ao.out.setR 1 (.int .u8 1) {s.rd with holds:=false,ph:=1} (λ_=>rfl) rfl);go_upto_region 6 with fail
 obtain⟨W8,aK⟩:∃V,V=W7.setCell ⟨A.R,1,none⟩ (.int .u8 1):=⟨_,rfl⟩;rw[<-aK]at a8⊢;clear aK aP aN;have aO:=a8.out.ceR 12 (bool s.rd.ended) λ_=>rfl;have av:∀ph,AE A c o3 {s with q:=s.q++[⟨nu,st,wm,C,bf⟩],number:=aa,rd:={s.rd with holds:=false,ph:=ph}} V2=AE A c o3 {s with q:=s.q++[⟨s.number,c.F+s.rd.ahead,s.rd.warm,s.ds.getD s.rd.buf [],s.rd.buf⟩],number:=s.number+1,rd:={s.rd with holds:=false,ph:=ph}} V2:=λph=>by
  obtain⟨e1,e2,e3,e4,e5⟩:=HN.out;rw[<-b2.out,<-b0.out,<-e1,<-e2,<-e3,<-e4,DZ,b4.out]
  rfl
 have aS:=AA av;clear av
 cases a7:s.rd.ended with
 |false=>
  rw[a7]at aO;have aE:=AA a7;clear a7;go_wp2
  go_end0
  refine⟨rfl,?_⟩;unfold putR;rw[aE.out,Va sm];exact AE.comp am.out.1 am.out.2 (by have:=a8.out;rw[aS.out 1]at this;exact this)
 |true=>
  rw[a7]at aO;have aE:=AA a7;have aP:=a8.out.ceR 1 (.int .u8 1) λ_=>rfl;have aN:=a8.out.frR 1;have b3:=AA (a8.out.setR 1 (.int .u8 4) {s.rd with holds:=false,ph:=4} (λ_=>rfl) rfl);clear a7;go_wp2
  go_end0
  refine⟨rfl,?_⟩;unfold putR;rw[aE.out,Vb rfl];exact AE.comp am.out.1 am.out.2 (by have:=b3.out;rw[aS.out 4]at this;exact this)
def Nw(A:PAd)(c:CfM)(o:Nat->Nat)(s':PlM)(w w':World):Prop:=∃o',AI A c o' s' w'/\(∀k,o k=0->o' k=0)/\Chg (λk=>o k≠0) w w'/\∀k,w.heap.size<=k->k<w'.heap.size->o' k=0
section
variable {A:PAd}{c:CfM}{s s' s'':PlM}{o:Nat->Nat}{w w' w'':World}
theorem AI.updZ(h:AI A c o s w)(t:Nat)(D:t≠0)(C:t<1000)(J:Chg (λk=>o k=t) w w')(y:Ai A c s' (λk=>o k=t) (λk=>o k=0) w' t)
  (B:∀u X Z V,u≠t->Ai A c s X Z V u->Ai A c s' X Z V u):Nw A c o s' w w':=by
 have I:∀k,k<w'.heap.size->o k=0->EW o w.heap.size w'.heap.size 0 k=0:=λk hk h0=>by
  by_cases Y:k<w.heap.size
  ·rw[FV Y];exact h0
  ·exact Mq om hk
 refine⟨EW o w.heap.size w'.heap.size 0,⟨λu U=>?_,λk hk=>Mp (AS J.size hk) hk⟩,λk hk=>?_,J.mono λk _ e=>by rw[e];exact D,λk h1 h2=>Mq h1 h2⟩
 ·have H:∀k,k<w'.heap.size->o k=u->EW o w.heap.size w'.heap.size 0 k=u:=λk hk e=>by
   by_cases Y:k<w.heap.size
   ·rw[FV Y];exact e
   ·have:=h.out k om;omega
  by_cases N:u=t
  ·subst N;exact y.wide H I
  ·exact((B u _ _ _ N (h.part u U)).keep J (λk _ h1 h2=>N (h1.symm.trans h2)) (λk _ h1 h2=>D (h2.symm.trans h1))).wide H I
 ·by_cases Y:k<w.heap.size
  ·rw[FV Y];exact hk
  ·have:=h.out k om;omega
theorem Nw.g(h:Nw A c o s' w w'):AE A c o s' w w':=let⟨o',h1,h2,h3,_⟩:=h;⟨o',h1,h2,h3⟩
theorem AE.byD(h:AE A c o s' w w'){a:Option Addr}{n:Nat}{bs:List Int}(Z:ByD (λk=>o k=0) w a n bs):ByD (λk=>o k=0) w' a n bs:=by obtain⟨o',_,_,h3⟩:=h;exact Z.keep h3 λk _ Y e2=>e2 Y
theorem AE.slD(h:AE A c o s' w w'){a:Option Addr}{n:Nat}{bs:List AF}(Z:SlD (λk=>o k=0) w a n bs):SlD (λk=>o k=0) w' a n bs:=by obtain⟨o',_,_,h3⟩:=h;exact Z.keep h3 λk _ Y e2=>e2 Y
theorem amQ(h:AI A c o s w)(Z:Int)(H:∀x∈s.rs,x.length<=1000000)(J:s.told<=1000000000) :Calls ZP 192 #[pointer (some ⟨A.S,0,none⟩),int i64 Z] w λe w'=>∃a U,e=.returned (.tuple #[slice a (BR Z s.rs).length U,bool s.rs.isEmpty])/\ByD (λk=>w.heap.size<=k/\k<w'.heap.size) w' a (BR Z s.rs).length (BR Z s.rs)/\Nw A c o {s with rs:=EB Z s.rs,told:=s.told+(BR Z s.rs).length} w w':=by obtain⟨a,n,U,j,h1,h2⟩:MM A c s (λk=>o k=2) w:=h.part 2 om;refine(age Z w h1 h2 H J).mono ?_;rintro e w' ⟨v,a2,N,c2,Y,rfl,V,B,C,D,g5⟩;obtain⟨y,X,rfl,_,I⟩:=Co (enc:=Value.int .u8) V;refine⟨y,X,rfl,⟨⟨I,B⟩,λ_ q e=>?_⟩,h.updZ 2 om om D ⟨a2,N,c2,Y,C,by omega⟩ (Ai.congr 2)⟩;exact Gw V q.block (by rw[e];rfl)
theorem AI.tailApp(h:AI A c o s w){I:Value}(j:w.heap[A.R]?=some (.cells (rdV A s.rd I) 245 (0,0)))(bs:List Int){N:Option Addr}{X U:Nat}{Z:World}(ht:Cv (λk=>o k=8∨w.heap.size<=k) Z (slice N X U) (s.rd.tail++bs))(v:w.grownBy Z I.ownBlock)
  (C:(slice N X U).ownBlock=I.ownBlock∨(slice N X U).ownBlock=some w.heap.size) :
  AE A c o {s with rd:={s.rd with tail:=s.rd.tail++bs}} w (Z.setCell ⟨A.R,11,none⟩ (slice N X U))/\Z.frozen? ⟨A.R,11,none⟩=false/\Z.cell? ⟨A.R,11,none⟩=some I:=by
 obtain⟨J,h1,h2,h3,h4⟩:LA A s (λk=>o k=8) w:=h.part 8 om;have e0:J=I:=by
  rw[h1]at j;have e1:=congrArg (λx=>x.bind λy=>match y with|Obj.cells cs _ _=>cs[11]?|_=>none) j
  simpa[rdV,EO]using e1
 subst e0;have B:=(AD.1 h1).1;have V:Z.heap[A.R]?=some (.cells (rdV A s.rd J) 245 (0,0)):=(v.block A.R B λe=>h4 e.symm).trans h1;have H:(slice N X U).ownBlock≠some A.R:=λe=>by
  rcases C with e2|e2
  ·exact h4 (e2.symm.trans e)
  ·rw[e2]at e;have:=AK e;omega
 have hc:Chg (λk=>o k=8) w (Z.setCell ⟨A.R,11,none⟩ (slice N X U)):=by refine((Chg.refl _ w).grown v λg e _=>(h3.lt g e).2).set ?_;exact h2
 refine⟨h.upG 8 om om hc ⟨slice N X U,?_,.inl h2,?_,H⟩ (Ai.congr 8),by simp[frozen?,V],by simp[cell?,V,rdV,EO]⟩
 ·exact AJ (i:=11) V _
 ·exact ht.keep (Y:=λk=>k=A.R) ((Chg.refl _ Z).set rfl) λg D e=>H (by rw[<-e];exact D)
theorem AI.tailCut(h:AI A c o s w){a:Option Addr}{n Z:Nat}(V:w.cell? ⟨A.R,11,none⟩=some (slice a n Z))(k:Nat)(hk:k<=n) :AE A c o {s with rd:={s.rd with tail:=s.rd.tail.drop k}} w (w.setCell ⟨A.R,11,none⟩ (slice (if Z=k then a else a.map (·.add k)) (n-k) (Z-k)))/\w.frozen? ⟨A.R,11,none⟩=false:=by
 obtain⟨N,h1,h2,h3,h4⟩:LA A s (λk=>o k=8) w:=h.part 8 om;have I:N=slice a n Z:=by simp only[cell?,h1]at V;have V:some N=some (slice a n Z):=V;exact AK V
 subst I;have X:(slice (if Z=k then a else a.map (·.add k)) (n-k) (Z-k)).ownBlock≠some A.R:=λe=>by
  split at e
  ·cases a with
   |none=>cases e
   |some p=>exact h4 e
  ·cases a with
   |none=>cases e
   |some p=>
    refine h4 ?_;simp only[Dw,Value.ownBlock]at e⊢;rw[<-e]
    cases p
    simp only[Addr.add]
    split<;>rfl
 have J:Chg (λk=>o k=8) w (w.setCell ⟨A.R,11,none⟩ (slice (if Z=k then a else a.map (·.add k)) (n-k) (Z-k))):=(Chg.refl _ w).set h2;refine⟨.of_same (J.mono λk _ e=>by rw[e];decide) (h.updB 8 om om (by simp[World.setCell]) J ⟨_,AJ (i:=11) h1 _,h2,?_,X⟩ (Ai.congr 8)),by simp[frozen?,h1]⟩;exact(h3.cut k hk).keep (Y:=λk=>k=A.R) ((Chg.refl _ w).set rfl) λg U e=>X (by rw[<-e];exact U)
end
theorem aaf{P:Program}{w w':World}{Z:Array Oper}{rest:List Oper}{o:Oper}{a:Act}{Q:Exit->Act->World->Prop}{v X v':Value}(Y:o.guard=none)(s x:Operand)(t:TypeId)
  (ho:o.op=.call {callee:=.builtin .append,args:=#[s,x],argTypes:=#[t,t]}) (U:a.eval s=v) (V:a.eval x=X) (N:(Builtin.append_ #[t,t] o.type #[v,X]).run P w=.ok v' w') (h:wpList P Z Q rest (a.put o.dst v') w'):wpList P Z Q (o::rest) a w:=by
 refine wpList_plain Y λK J=>?_;unfold Oper.wp execOp;simp only[ho,resolve,invoke,builtin,IN,IM,Result.andThen_ok,LI,BO,DE,U,V,N];exact J _ _ h
theorem afC{A:PAd}{c:CfM}{s:PlM}{o:Nat->Nat}(w W:World)(h:AE A c o s w W)(Y:s.rs=[])(hk:c.K<=100000)(H:s.rd.own<=100000)(hl:s.fr.length<=100000)(ht:s.told<=1000000000) :Calls ZP 142 #[pointer (some ⟨A.R,0,none⟩)] W λe w'=>e=.returned (.tuple #[])/\AE A c o (readR c s) w w':=by
 have k0:=h.ceR 0 (pointer (some ⟨A.P,0,none⟩)) λ_=>rfl;obtain⟨K0,y⟩:∃m,c.K=m:=⟨_,rfl⟩;obtain⟨X,U⟩:∃m,s.rd.own=m:=⟨_,rfl⟩;have hS:Hid (∀(s':PlM) V,AE A c o s' w V->s'.rd=s.rd->V.cell? ⟨A.P,9,none⟩=some (pointer (some ⟨A.S,0,none⟩))/\V.cell? ⟨A.P,2,none⟩=some (int i64 (K0:Int))/\V.cell? ⟨A.R,9,none⟩=some (int i64 (X:Int))):=λs' V Z hr=>⟨Z.ceP 9 _ λ_=>rfl,Z.ceP 2 _ λ_=>by rw[<-y];rfl,Z.ceR 9 _ λ_=>by rw[hr,<-U];rfl⟩;obtain⟨mo,a7⟩:∃m,(K0:Int)-(X:Int)=m:=⟨_,rfl⟩;have ab:IntKind.i64.wrap ((K0:Int)-(X:Int))=mo:=by rw[BK];omega
 have N:BR mo s.rs=[]:=by rw[Y];rfl
 have C:EB mo s.rs=s.rs:=by rw[Y];rfl
 have HC:=AA ((h.bel (AN W 1)).lift λo1 h1 z1=>(amQ h1 mo (by rw[Y];simp) ht).mono (R':=λe w'=>(∃a cc,e=.returned (.tuple #[slice a 0 cc,bool true]))/\AE A c o1 s (W.drewN 1) w') λe w' ⟨a,cc,h2,_,h3⟩=>by rw[N,Y]at h2;have h3:=h3.g;rw[N,C]at h3;exact⟨⟨a,cc,h2⟩,h3⟩)
 have J:=AA (hS.out s _ (h.bel (AN W 1)) rfl);have HR:=AA Y;have HL:=AA hl;have a6:=AA U;clear h Y hk H hl ht y U a7 N C;go_enter func142,ntmps142;go_upto_region 1 with fail
 obtain⟨D,hD⟩:∃D,D=W.drew:=⟨_,rfl⟩;have j:W.drewN 1=D:=by rw[hD];rfl
 rw[j]at HC J;clear k0 j;refine Vh ?_;refine Vg (S:=λV=>V.cell? ⟨A.P,9,none⟩=some (pointer (some ⟨A.S,0,none⟩))/\V.cell? ⟨A.P,2,none⟩=some (int i64 (K0:Int))/\V.cell? ⟨A.R,9,none⟩=some (int i64 (X:Int))) kr (by rw[<-hD];exact J.out) (λhHeld=>?_);rw[<-hD]at hHeld⊢;clear hD;refine tkA 0 ?_;refine tkA 1 ?_;refine tkA 2 ?_;refine tkW 3 (v:=?_) ?_ ?_;rotate_left
 ·intro V B;obtain⟨q1,q2,q3⟩:=B
  first|(go_simp;done)|(go_simp;with_reducible rfl)
 try simp only[pq]
 refine tkA 4 ?_;refine tkA 5 ?_;refine tkA 6 ?_;refine tkA 7 ?_;refine tkW 8 (v:=?_) ?_ ?_;rotate_left
 ·intro V B;obtain⟨q1,q2,q3⟩:=B
  first|(go_simp;done)|(go_simp;with_reducible rfl)
 try simp only[pq]
 refine tkA 9 ?_;refine tkA 10 ?_;refine tkA 11 ?_;refine tkW 12 (v:=?_) ?_ ?_;rotate_left
 ·intro V B;obtain⟨q1,q2,q3⟩:=B
  first|(go_simp;done)|(go_simp;with_reducible rfl)
 try simp only[pq]
 refine tkA 13 ?_;refine rdy 14 (λK hK=>?_);go_simp
 go_at_call 192
 refine HC.out.mono ?_;rintro e w2 ⟨⟨a2,c2,rfl⟩,Z⟩;refine hK.out _ _ (hS.out _ _ Z rfl) (λa1=>?_);clear hK K
 try simp only[pq]
 refine tkA 15 ?_;refine tkA 16 ?_;refine tkA 17 ?_;refine tkA 18 ?_;refine tkA 19 ?_;refine Vj kr ?_ _;refine At ?_;have r9:=a1.2.2;have HG:=AA Z;clear a1 hHeld HC J hS
 by_cases h0:0<X
 ·have d0:decide ((X:Int) > 0)=true:=by simp;omega
  have d1:decide (0<X)=true:=by simp;omega
  have ae:=Z.ceR 12 (bool s.rd.ended) λ_=>rfl;have ac:=Z.frR 12;have H1:=Z.setR 12 (bool true) {s.rd with ended:=true} (λ_=>rfl) rfl;have aa:=H1.ceR 1 (.int .u8 (s.rd.ph:Int)) λ_=>rfl;have a8:=H1.frR 1;have I:=AA (H1.setR 1 (.int .u8 3) {s.rd with ended:=true,ph:=3} (λ_=>rfl) rfl);have HH:=AA h0;clear Z H1 h0;go_upto_region 14 with fail
  go_wp2
  go_end0
  refine⟨rfl,?_⟩;unfold readR;rw[Vb (show s.rs.isEmpty=true by rw[HR.out];rfl),Vb (show 0<s.rd.own by rw[a6.out];exact HH.out)];exact I.out
 ·have h0:X=0:=by omega
  subst h0;have HB:=AA (abm w w2 Z HL.out);clear Z;go_upto_region 3 with(go_at_call 193;refine HB.out.mono ?_;rintro e w3 ⟨rfl,Z⟩)
  have aa:=Z.ceR 1 (.int .u8 (s.rd.ph:Int)) λ_=>rfl;have a8:=Z.frR 1;have I:=AA (Z.setR 1 (.int .u8 4) {(backR s).rd with ph:=4} (λ_=>rfl) rfl);clear Z;go_wp2
  go_end0
  refine⟨rfl,?_⟩;unfold readR;rw[Vb (show s.rs.isEmpty=true by rw[HR.out];rfl),Va (show ¬0<s.rd.own by rw[a6.out];omega)];exact I.out
section
variable {A:PAd}{c:CfM}{s s':PlM}{o:Nat->Nat}{w w':World}
theorem AE.cM(h:AE A c o s w w'):∃a m Z,w'.heap[A.M]?=some (.cells (mgV A s.mph (slice a m Z)) 251 (0,0))/\SlK 2 w' a m (AV s.left)/\m<=Z:=h.low λY h1=>let⟨a,m,Z,h2,h3,h4⟩:=h1.cM;⟨a,m,Z,h2,h3.1,h4⟩
theorem AE.cE(h:AE A c o s w w'):w'.heap[A.E]?=some (.cells (emV A s.eph) 253 (0,0)):=h.low λZ h1=>h1.cE
theorem AE.setML(h:AE A c o s w w')(l:List AF)(a:Option Addr)(m Y:Nat)(U:∀Z,AI A c Z s w'->(∀k,o k=0->Z k=0)->SlD (λk=>Z k=0) w' a m l)(V:m<=Y):AE A c o {s with left:=l} w (w'.setCell ⟨A.M,6,none⟩ (slice a m Y)):=h.then λZ h1 X=>.of_same (h1.chgM 6 _) (h1.setML l a m Y (U Z h1 X) V).1
theorem ajA(Z:Nat->Prop)(w:World):SlD Z w none 0 []:=⟨⟨rfl,.inl rfl⟩,λh=>absurd rfl h⟩
end
theorem aba{A:PAd}{c:CfM}{s:PlM}{o:Nat->Nat}(w W:World)(h:AE A c o s w W) :Calls ZP 204 #[pointer (some ⟨A.M,0,none⟩)] W λe w'=>e=.returned (.tuple #[])/\AE A c o {s with ended:=true,mph:=3} w w':=by
 obtain⟨a,m,N,Z,_⟩:=h.cM;have k0:W.cell? ⟨A.M,0,none⟩=some (pointer (some ⟨A.P,0,none⟩)):=by simp only[cell?,Z];rfl
 have Y:=h.ceP 14 (pointer (some ⟨A.O,0,none⟩)) λ_=>rfl;have J:=AA h;clear h Z;go_enter func204,ntmps204;go_upto_region 1 with(go_at_call 245;refine(J.out.lift λH h1 I=>an3 h1).mono ?_;rintro e U ⟨⟨v,rfl⟩,X⟩)
 obtain⟨a,m,N,Z,_⟩:=X.cM;have C:U.frozen? ⟨A.M,1,none⟩=false:=by simp[frozen?,Z]
 have D:U.cell? ⟨A.M,1,none⟩=some (.int .u8 (s.mph:Int)):=by simp only[cell?,Z];rfl
 have V:=AA (X.setM 3);clear X k0 Y Z;go_wp2
 go_end0
 exact⟨rfl,V.out⟩
theorem adg{A:PAd}{c:CfM}{s:PlM}{o:Nat->Nat}(w W:World)(h:AE A c o s w W)(U:s.next<=1000000000)(r:List (Option (List AF)))(N:s.rg=none::r) :Calls ZP 154 #[pointer (some ⟨A.M,0,none⟩)] W λe w'=>e=.returned (.tuple #[])/\AE A c o (takeM s) w w':=by
 obtain⟨a,m,j,J,_⟩:=h.cM;have k0:W.cell? ⟨A.M,0,none⟩=some (pointer (some ⟨A.P,0,none⟩)):=by simp only[cell?,J];rfl
 have Y:=h.ceP 13 (pointer (some ⟨A.G,0,none⟩)) λ_=>rfl;have C:=AA h;have X:=AA (Vd U N);clear h J U N;go_enter func154,ntmps154;go_upto_region 2 with(go_at_call 203;refine(C.out.lift λv h1 B=>afI h1 X.out.1 (by rw[X.out.2];rfl)).mono ?_;rintro e I ⟨rfl,Z⟩)
 have D:=AA (aba w I Z);clear Z k0 Y
 go_wp2_with (go_at_call 204;refine D.out.mono ?_;rintro e y ⟨rfl,Z⟩;have V:=AA Z;clear Z)
 go_end0
 refine⟨rfl,?_⟩;have H:takeM s={s with ended:=true,mph:=3}:=by unfold takeM;rw[X.out.2]
 rw[H];exact V.out
theorem ad4{A:PAd}{c:CfM}{s:PlM}{o:Nat->Nat}(w W:World)(h:AE A c o s w W)(v:s.next<=1000000000)(l:List AF)(r:List (Option (List AF)))(j:s.rg=some l::r) :Calls ZP 154 #[pointer (some ⟨A.M,0,none⟩)] W λe w'=>e=.returned (.tuple #[])/\AE A c o (takeM s) w w':=by
 obtain⟨o1,h1,z1,g1⟩:=h;obtain⟨a,m,cc,I,_⟩:=h1.cM;have k0:W.cell? ⟨A.M,0,none⟩=some (pointer (some ⟨A.P,0,none⟩)):=by simp only[cell?,I];rfl
 have H:=h1.g.ceP 13 (pointer (some ⟨A.G,0,none⟩)) λ_=>rfl;have HC:=AA (afS h1 v l r j);have Z:∀s' V,AE A c o1 s' W V->AE A c o s' w V:=λs' V N=>AE.comp z1 g1 N;have C:=AA Z;have HX:=AA (Vd v j);clear h1 z1 g1 I v j Z
 cases y:l with
 |nil=>
  subst y;go_enter func154,ntmps154;go_upto_region 3 with(go_at_call 203;refine HC.out.mono ?_;rintro e B ⟨a1,c1,rfl,Y,X,N⟩;have HG:=AA N;clear Y N X)
  clear k0 H;go_wp2
  go_end0
  refine⟨rfl,?_⟩;have e1:takeM s={s with rg:=r++[none],next:=s.next+1}:=by unfold takeM;rw[HX.out.2];rfl
  rw[e1];exact C.out _ _ HG.out
 |cons q t=>
  obtain⟨n,hn⟩:∃n,l.length=n:=⟨_,rfl⟩;have a6:0<n:=by rw[<-hn,y];simp
  have d0:decide ((n:Int) > 0)=true:=by simp;omega
  have d1:decide (0<n)=true:=by simp;omega
  rw[hn]at HC;have HL:=AA y;clear y a6 hn;go_enter func154,ntmps154;go_upto_region 4 with(go_at_call 203;refine HC.out.mono ?_;rintro e B ⟨a1,c1,rfl,Y,X,N⟩)
  obtain⟨a2,m2,c2,I,_⟩:=N.cM;have j0:B.frozen? ⟨A.M,6,none⟩=false:=by simp[frozen?,I]
  have j1:B.cell? ⟨A.M,6,none⟩=some (slice a2 m2 c2):=by simp only[cell?,I];rfl
  have U:=N.setML l a1 n c1 (λo2 h2 z2=>Y.wide λk _ hk=>z2 k hk) X;clear I;go_upto_region 5 with fail
  obtain⟨W2,D⟩:∃V,V=B.setCell ⟨A.M,6,none⟩ (slice a1 n c1):=⟨_,rfl⟩;rw[<-D]at U⊢;clear D j0 j1 k0 H Y X N;obtain⟨a3,m3,c3,J,_⟩:=U.cM;have j0:W2.frozen? ⟨A.M,1,none⟩=false:=by simp[frozen?,J]
  have j1:W2.cell? ⟨A.M,1,none⟩=some (.int .u8 (s.mph:Int)):=by simp only[cell?,J];rfl
  have a7:=AA (U.setM 2);clear U J;go_wp2
  go_end0
  refine⟨rfl,?_⟩;have e1:takeM s={s with rg:=r++[none],next:=s.next+1,left:=l,mph:=2}:=by unfold takeM;rw[HX.out.2];simp only[HL.out];rfl
  rw[e1];exact C.out _ _ a7.out
theorem aeL{A:PAd}{c:CfM}{s:PlM}{o:Nat->Nat}(w W:World)(h:AE A c o s w W)(H:s.next<=1000000000) :Calls ZP 157 #[pointer (some ⟨A.M,0,none⟩)] W λe w'=>e=.returned (.tuple #[])/\AE A c o (Hr s) w w':=by
 obtain⟨a,m,cc,X,_⟩:=h.cM;have k0:W.cell? ⟨A.M,0,none⟩=some (pointer (some ⟨A.P,0,none⟩)):=by simp only[cell?,X];rfl
 have J:=h.ceP 13 (pointer (some ⟨A.G,0,none⟩)) λ_=>rfl;have HG:=AA h;have j:=AA H;clear h X H;go_enter func157,ntmps157;go_upto_region 1 with(go_at_call 207;refine(HG.out.lift λo1 h1 z1=>ang h1 j.out).mono ?_;rintro e N ⟨⟨v,rfl⟩,Y⟩)
 obtain⟨a2,D,c2,X,_⟩:=Y.cM;have B:N.frozen? ⟨A.M,6,none⟩=false:=by simp[frozen?,X]
 have C:N.cell? ⟨A.M,6,none⟩=some (slice a2 D c2):=by simp only[cell?,X];rfl
 have Z:=Y.setML [] none 0 0 (λo2 h2 z2=>ajA _ _) (AC _);clear X;go_upto_region 2 with fail
 obtain⟨y,U⟩:∃V,V=N.setCell ⟨A.M,6,none⟩ (slice none 0 0):=⟨_,rfl⟩;rw[<-U]at Z⊢;have HS:=AA (aba w y Z);clear U B C k0 J Y Z
 go_wp2_with (go_at_call 204;refine HS.out.mono ?_;rintro e w2 ⟨rfl,Y⟩;have I:=AA Y;clear Y)
 go_end0
 exact⟨rfl,I.out⟩
theorem adC{A:PAd}{c:CfM}{s:PlM}{o:Nat->Nat}(w W:World)(h:AE A c o s w W) :Calls ZP 160 #[pointer (some ⟨A.E,0,none⟩)] W λe w'=>e=.returned (.tuple #[])/\AE A c o (Fr s) w w':=by
 have X:=h.cE;have k0:W.cell? ⟨A.E,0,none⟩=some (pointer (some ⟨A.P,0,none⟩)):=by simp only[cell?,X];rfl
 have H:=h.ceP 14 (pointer (some ⟨A.O,0,none⟩)) λ_=>rfl;have J:=AA (h.lift λv h1 y=>anh h1);clear h X
 cases Z:s.out with
 |nil=>
  have U:s.out.length=0:=by rw[Z];rfl
  rw[U]at J;have N:=AA Z;clear Z U;go_enter func160,ntmps160;go_upto_region 1 with(go_at_call 211;refine J.out.mono ?_;rintro e I ⟨rfl,Y⟩)
  have X:=Y.cE;have j0:I.frozen? ⟨A.E,1,none⟩=false:=by simp[frozen?,X]
  have j:I.cell? ⟨A.E,1,none⟩=some (.int .u8 (s.eph:Int)):=by simp only[cell?,X];rfl
  have D:=AA (Y.setE 2);clear Y k0 H X;go_wp2
  go_end0
  refine⟨rfl,?_⟩;have V:Fr s={s with out:=[],eph:=2}:=by unfold Fr;rw[Vb (by rw[N.out];rfl),<-N.out]
  rw[V];exact D.out
 |cons b q=>
  have U:((s.out.length:Int)==0)=false:=by rw[Z];simp;omega
  have V:decide ((s.out.length:Int)=0)=false:=by rw[Z];simp;omega
  obtain⟨n,C⟩:∃n,s.out.length=n:=⟨_,rfl⟩;rw[C]at U V J;have N:=AA Z;clear Z C;go_enter func160,ntmps160
  go_wp2_with (go_at_call 211;refine J.out.mono ?_;rintro e I ⟨rfl,Y⟩;have B:=AA Y;clear Y)
  go_end0
  refine⟨rfl,?_⟩;have V:Fr s={s with out:=[]}:=by unfold Fr;rw[Va (by rw[N.out];simp)]
  rw[V];exact B.out
theorem alY{w:World}{a:Option Addr}{m c:Nat}{h:AF}{t:List AF}(Z:SlK 2 w a m (AV (h::t)))(N:m<=c):SlK 2 w (if c=1 then a else a.map (·.add 2)) (m-1) (AV t)/\m=t.length+1:=by
 have X:m=t.length+1:=by have:=Z.1;rw[GF]at this;simp at this;omega
 refine⟨⟨by rw[GF];omega,?_⟩,X⟩
 by_cases h0:t.length=0
 ·exact .inl om
 ·obtain⟨b,o,rfl,U,Y⟩:=Z.2.resolve_left om;rw[Va om];refine .inr ⟨b,o+2,by rw[Dw,Cf],U,λi u V=>?_⟩;have:=Y (i+2) u (by show(IH h++AV t)[i+2]?=some u;exact V);rw[show o+2+i=o+(i+2) by omega];exact this
theorem aeo{Z:Nat->Prop}{w:World}{a:Option Addr}{m:Nat}{h:AF}{t:List AF}(Y:SlD Z w a m (h::t)):∃g off,a=some ⟨g,off,none⟩/\Z g/\w.cell? ⟨g,off,none⟩=some (int i64 h.1)/\w.cell? ⟨g,off+1,none⟩=some (int i64 h.2):=by
 have V:m=t.length+1:=by have:=Y.1.1;rw[GF]at this;simp at this;omega
 obtain⟨b,o,rfl,U,X⟩:=Y.1.2.resolve_left om;exact⟨b,o,rfl,Y.2 om _ rfl,X 0 _ rfl,X 1 _ rfl⟩
theorem aeA{A:PAd}{c:CfM}{s:PlM}{o:Nat->Nat}(w W:World)(h:AE A c o s w W)(q:AF)(t:List AF)(hl:s.left=q::t)(ho:s.out.length<c.O)(he:s.ended=false) :Calls ZP 156 #[pointer (some ⟨A.M,0,none⟩)] W λe w'=>e=.returned (.tuple #[])/\AE A c o (flushM s) w w':=by
 obtain⟨C,h1,z1,g1⟩:=h;obtain⟨a,m,B,hb,y,j⟩:=h1.cM;rw[hl]at y;obtain⟨g,off,rfl,ac,ae,ar⟩:=aeo y;obtain⟨tv,hP⟩:=h1.cP;obtain⟨af,hm⟩:=alY y.1 j;have ai:=DO W _ ae;have aq:=(AD.1 hb).1;have ap:=(AD.1 hP).1;have aH:C A.M=9:=(h1.part 9 om).elim λa h=>h.elim λm h=>h.elim λB h=>h.2.1;have aG:C A.P=1:=(h1.part 1 om).elim λa h=>h.2.1;have H:Hid (∀V:World,(V.heap[A.M]?=W.heap[A.M]?/\V.heap[A.P]?=W.heap[A.P]?/\V.heap[g]?=W.heap[g]?)->V.cell? ⟨A.M,0,none⟩=some (pointer (some ⟨A.P,0,none⟩))/\V.cell? ⟨A.P,14,none⟩=some (pointer (some ⟨A.O,0,none⟩))/\V.cell? ⟨A.M,6,none⟩=some (slice (some ⟨g,off,none⟩) m B)/\V.cell? ⟨g,off,none⟩=some (int i64 q.1)/\V.cell? ⟨g,off+1,none⟩=some (int i64 q.2)):=λV ⟨e1,e2,e3⟩=>by
  refine⟨?_,?_,?_,?_,?_⟩
  ·simp only[cell?,e1.trans hb];rfl
  ·simp only[cell?,e2.trans hP];rfl
  ·simp only[cell?,e1.trans hb];rfl
  ·rw[BC (a:=⟨g,off,none⟩) e3];exact ae
  ·rw[BC (a:=⟨g,off+1,none⟩) e3];exact ar
 obtain⟨D,hD⟩:∃D,D=W.drew:=⟨_,rfl⟩;have a6:Br W D:=by rw[hD];exact AN W 1
 obtain⟨U,hU⟩:∃U,U=D.alloc (.cells #[int i64 q.1,int i64 q.2] 116):=⟨_,rfl⟩;have X:Br W U:=by rw[hU];exact a6.alloc a6.size _
 have am:∀V,Br W V->(V.heap[A.M]?=W.heap[A.M]?/\V.heap[A.P]?=W.heap[A.P]?/\V.heap[g]?=W.heap[g]?):=λV hV=>⟨hV.block _ aq,hV.block _ ap,hV.block _ ai⟩;have aa:SlK 2 U (some ⟨D.heap.size,0,none⟩) 1 [int i64 q.1,int i64 q.2]:=by rw[hU];exact On D q
 have aA:=h1.bel X;have ak:∀k,k<W.heap.size->EW C W.heap.size U.heap.size 0 k=C k:=λk hk=>FV hk;have HC:Hid (Calls ZP 206 #[pointer (some ⟨A.O,0,none⟩),slice (some ⟨D.heap.size,0,none⟩) 1 1] U λe w'=>(∃v,e=.returned v)/\(w'.heap[A.M]?=W.heap[A.M]?/\w'.heap[A.P]?=W.heap[A.P]?/\w'.heap[g]?=W.heap[g]?)/\AE A c C {s with out:=s.out++[q]} W w'/\SlK 2 w' (if B=1 then some ⟨g,off,none⟩ else(some (⟨g,off,none⟩:Addr)).map (·.add 2)) (m-1) (AV t)):=by
  refine(aoX aA q (some ⟨D.heap.size,0,none⟩) 1 ho he aa).mono ?_;rintro e w' ⟨hv,hg,hc⟩;have hk:∀k,k<W.heap.size->C k≠7->w'.heap[k]?=W.heap[k]?:=λk hk h7=>(hc.block k (Af hk X.size) (by rw[ak k hk];exact h7)).trans (X.block k hk);refine⟨hv,⟨hk _ aq om,hk _ ap om,hk _ ai (by have h9:C g=0:=ac;omega)⟩,?_,?_⟩
  ·exact AE.comp (λk aJ=>by
    by_cases aI:k<W.heap.size
    ·rw[ak k aI];exact aJ
    ·have:=h1.out k om;omega) (.of_same X) hg
  ·have h9:ByD (λ_=>True) W none 0 []:=⟨⟨⟨rfl,.inl rfl⟩,λx hx=>by cases hx⟩,λh=>absurd rfl h⟩;refine⟨af.1,?_⟩
   rcases af.2 with h0|⟨b,o9,e9,av,aF⟩
   ·exact .inl h0
   ·have aK:b=g:=by
     by_cases h1:B=1
     ·rw[Vb h1]at e9;cases e9;rfl
     ·rw[Va h1,Dw,Cf]at e9;cases e9;rfl
    subst aK;refine .inr ⟨b,o9,e9,Af av (AS X.size hc.size),λi u hi=>?_⟩;rw[BC (a:=⟨b,o9+i,none⟩) (hk b av (by have h9:C b=0:=ac;omega))];exact aF i u hi
 have aC:=AA (am D a6);have aB:=AA (am U X);have HU:=AA hU;have I:∀s' V,AE A c C s' W V->AE A c o s' w V:=λs' V hg=>AE.comp z1 g1 hg;have aE:=AA I;have HX:=AA (Vd hl (Vd hm (Vd ac j)));have aP:0<m:=by omega
 have aO:m<=B:=j;clear h1 z1 g1 hb y ae ar hP af ai aq ap aH aG a6 X am aa aA ak I hm hl ho he hU j;go_enter func156,ntmps156;go_upto_region 0 with fail
 refine Vh ?_;refine Vg (S:=λV=>V.heap[A.M]?=W.heap[A.M]?/\V.heap[A.P]?=W.heap[A.P]?/\V.heap[g]?=W.heap[g]?) kr (by rw[<-hD];exact aC.out) (λhHeld=>?_);rw[<-hD]at hHeld⊢;clear hD;refine tkA 0 ?_;refine tkA 1 ?_;refine tkA 2 ?_;refine tkA 3 ?_;refine tkB 4 H.out ?_;refine tkA 5 ?_;refine tkA 6 ?_;refine tkB 7 H.out ?_;refine tkA 8 ?_;refine tkA 9 ?_;refine tkA 10 ?_;refine tkB 11 H.out ?_;refine tkA 12 ?_;refine tkB 13 H.out ?_;refine rdy 14 (λK H=>?_);go_simp;rw[<-HU.out];refine H.out _ _ aB.out (λaM=>?_);clear H K
 try simp only[pq]
 refine rdy 15 (λK H=>?_);go_simp
 go_at_call 206
 refine HC.out.mono ?_;rintro e w2 ⟨⟨v5,rfl⟩,ao,Z,ag⟩;refine H.out _ _ ao (λaL=>?_);clear H K
 try simp only[pq]
 refine Vj kr ?_ _;refine At ?_;obtain⟨-,-,r6,-,-⟩:=H.out w2 ao;obtain⟨a2,m2,c2,ax,_⟩:=Z.cM;have j6:w2.frozen? ⟨A.M,6,none⟩=false:=by simp[frozen?,ax]
 obtain⟨a8,a7⟩:∃x,(if B=1 then some (⟨g,off,none⟩:Addr) else(some (⟨g,off,none⟩:Addr)).map (·.add 2))=x:=⟨_,rfl⟩;rw[a7]at ag;have ab:=Z.setML t a8 (m-1) (B-1) (λo5 h5 z5=>⟨ag,λh0 q9 e=>by
  have h9:C g=0:=HX.out.2.2.1;have:q9.block=g:=by
   rw[<-a7]at e
   split at e
   ·cases e;rfl
   ·rw[Dw,Cf]at e;cases e;rfl
  rw[this];exact z5 g h9⟩) om
 have Y:=AA ab;clear ab ag Z ax aM aL hHeld aB aC HC ao;have au:flushM s={s with out:=s.out++[q],left:=t,mph:=if t.isEmpty then 1 else s.mph}:=by unfold flushM;rw[HX.out.1]
 have aD:=AA au;clear au;have a1:(0:Int)<=1:=by omega
 have aR:(1:Int)<=(m:Int):=by omega
 go_upto_region 1 with fail
 go_upto_region 2 with fail
 have ay:(if B=1 then some (⟨g,off,none⟩:Addr) else some ⟨g,off+2,none⟩)=a8:=by rw[<-a7,Dw,Cf]
 rw[ay];obtain⟨W3,al⟩:∃V,V=w2.setCell ⟨A.M,6,none⟩ (slice a8 (m-1) (B-1)):=⟨_,rfl⟩;rw[<-al]at Y⊢;obtain⟨o4,h4,z4,g4⟩:=Y.out;have s6:W3.cell? ⟨A.M,6,none⟩=some (slice a8 (m-1) (B-1)):=by rw[al];simp[World.cell?_setCell_same,r6]
 clear al ay a7 r6 j6 h4 z4 g4;obtain⟨a3,m3,c3,aw,_⟩:=Y.out.cM;have f6:W3.frozen? ⟨A.M,6,none⟩=false:=by simp[frozen?,aw]
 clear aw;have N:=HX.out.2.1
 cases ht:t with
 |nil=>
  have J:m-1=0:=by rw[ht]at N;simp at N;omega
  rw[J]at s6;have Z:=Y.out.setML [] none 0 0 (λo2 h2 z2=>ajA _ _) (AC _);have HT:=AA ht;clear N J ht;go_upto_region 4 with fail
  obtain⟨W4,az⟩:∃V,V=W3.setCell ⟨A.M,6,none⟩ (slice none 0 0):=⟨_,rfl⟩;rw[<-az]at Z⊢;clear az s6 f6;obtain⟨a4,m4,c4,aj,_⟩:=Z.cM;have f1:W4.frozen? ⟨A.M,1,none⟩=false:=by simp[frozen?,aj]
  have aQ:W4.cell? ⟨A.M,1,none⟩=some (.int .u8 (s.mph:Int)):=by simp only[cell?,aj];rfl
  have aN:=AA (Z.setM 1);clear Z aj;go_wp2
  go_end0
  refine⟨rfl,?_⟩;rw[aD.out];have:=aN.out;have e:t=[]:=HT.out;rw[e];exact aE.out _ _ this
 |cons q2 t2=>
  obtain⟨m9,J⟩:∃k,m-1=k:=⟨_,rfl⟩;have h9:m9≠0:=by rw[ht]at N;simp at N;omega
  have d0:((m9:Int)==0)=false:=by simp;omega
  have d1:decide ((m9:Int)=0)=false:=by simp;omega
  have d2:decide (m9=0)=false:=by simp;omega
  rw[J]at s6;have HT:=AA ht;clear N J ht;go_wp2
  go_end0
  refine⟨rfl,?_⟩;rw[aD.out,Va (by rw[HT.out];simp)];exact aE.out _ _ Y.out
theorem aiz{Z:Int}{rs:Lq}(h:0<=Z):((BR Z rs).length:Int)<=Z:=by
 unfold BR
 split
 ·simpa using h
 ·split
  ·simpa using h
  ·unfold Dg
   split
   ·assumption
   ·rw[Ag];omega
theorem ahU{c:CfM}{s:PlM}(Y:s.rs≠[])(Z:List Int)(U:s.ds[s.rd.buf]?=some Z):readR c s={s with rs:=EB ((c.K:Int)-s.rd.own) s.rs,told:=s.told+(BR ((c.K:Int)-s.rd.own) s.rs).length,ds:=s.ds.set s.rd.buf (Z++BR ((c.K:Int)-s.rd.own) s.rs),read:=s.read+(BR ((c.K:Int)-s.rd.own) s.rs).length,rd:={s.rd with own:=s.rd.own+(BR ((c.K:Int)-s.rd.own) s.rs).length,tail:=(s.rd.tail++BR ((c.K:Int)-s.rd.own) s.rs).drop ((s.rd.tail++BR ((c.K:Int)-s.rd.own) s.rs).length-c.wm),ph:=if s.rd.own+(BR ((c.K:Int)-s.rd.own) s.rs).length=c.K then 3 else s.rd.ph}}:=by
 have X:¬(s.rs.isEmpty=true):=by cases V:s.rs with|nil=>exact absurd V Y|cons _ _=>simp
 have N:s.ds.getD s.rd.buf []=Z:=by rw[DZ,U];rfl
 unfold readR;rw[Va X,N]
theorem AI.drewS{A:PAd}{c:CfM}{s:PlM}{o:Nat->Nat}{w:World}(h:AI A c o s w):AI A c o s w.drew:=by have h1:=h.bel (AN w 1);have e:(w.drewN 1).heap.size=w.heap.size:=rfl;rw[e,h.tag_same]at h1;exact h1
theorem aef{A:PAd}{c:CfM}{s:PlM}{o:Nat->Nat}(w W:World)(h:AE A c o s w W)(x0:List Int)(au:s.rs≠[])(hk:c.K<=1000)(X:c.wm<=1000)(aj:s.rd.own<=c.K)(hu:s.us[s.rd.buf]?=some true)(hd:s.ds[s.rd.buf]?=some x0)(aE:x0.length+(c.K-s.rd.own)<=c.K+c.wm)
  (ht:s.told<=100000000) (hl:∀x∈s.rs,x.length<=1000000) (C:s.read<=100000000) (U:s.rd.tail.length<=1000) :
  Calls ZP 142 #[pointer (some ⟨A.R,0,none⟩)] W λe w'=>e=.returned (.tuple #[])/\AE A c o (readR c s) w w':=by
 obtain⟨o1,h1,z1,g1⟩:=h;have k0:=h1.g.ceR 0 (pointer (some ⟨A.P,0,none⟩)) λ_=>rfl;obtain⟨K0,ax⟩:∃m,c.K=m:=⟨_,rfl⟩;obtain⟨ow,av⟩:∃m,s.rd.own=m:=⟨_,rfl⟩;obtain⟨mo,aM⟩:∃m,(K0:Int)-(ow:Int)=m:=⟨_,rfl⟩;have bt:IntKind.i64.wrap ((K0:Int)-(ow:Int))=mo:=by rw[BK];omega
 obtain⟨bs,ac⟩:∃b,BR mo s.rs=b:=⟨_,rfl⟩;obtain⟨n,hn⟩:∃m,bs.length=m:=⟨_,rfl⟩;have ak:(n:Int)<=mo:=by rw[<-hn,<-ac];exact aiz om
 have aT:s.rs.isEmpty=false:=by cases hh:s.rs with|nil=>exact absurd hh au|cons _ _=>rfl
 have hS:Hid (∀(s':PlM) V,AE A c o1 s' W V->s'.rd=s.rd->V.cell? ⟨A.P,9,none⟩=some (pointer (some ⟨A.S,0,none⟩))/\V.cell? ⟨A.P,2,none⟩=some (int i64 (K0:Int))/\V.cell? ⟨A.R,9,none⟩=some (int i64 (ow:Int))):=λs' V N hr=>⟨N.ceP 9 _ λ_=>rfl,N.ceP 2 _ λ_=>by rw[<-ax];rfl,N.ceR 9 _ λ_=>by rw[hr,<-av];rfl⟩;obtain⟨D,hD⟩:∃D,D=W.drew:=⟨_,rfl⟩;have ay:AI A c o1 s D:=by rw[hD];exact h1.drewS
 have a1:Br W D:=by rw[hD];exact AN W 1
 have HC:=AA (amQ ay mo hl om);rw[aT,ac,hn]at HC;have b2:=AA (hS.out s D (h1.g.bel a1) rfl);have HB:=AA (Vd au (Vd ax (Vd av (Vd aM (Vd ac hn)))));have HN:=AA (Vd ak (Vd hk (Vd X (Vd aj (Vd aE (Vd C U))))));have aL:n<=1000/\ow<=1000/\s.read<=100000000/\s.rd.tail.length<=1000:=by omega
 have ae:=AA aL;clear aL;have HU:=AA (Vd hu hd);have HO:=AA (Vd z1 (g1.same a1));have bz:=AA ay;have bA:=AA a1;have bp:=AA (λ(s':PlM) V (N:AE A c o1 s' D V)=>AE.comp (w:=W) (w':=D) (o:=o1) (λ_ h=>h) (.of_same a1) N);clear h1 z1 g1 au hk X aj hu hd aE ht hl C U ax av aM ac hn ak aT ay a1;go_enter func142,ntmps142;go_upto_region 1 with fail
 clear k0;refine Vh ?_;refine Vg (S:=λV=>V.cell? ⟨A.P,9,none⟩=some (pointer (some ⟨A.S,0,none⟩))/\V.cell? ⟨A.P,2,none⟩=some (int i64 (K0:Int))/\V.cell? ⟨A.R,9,none⟩=some (int i64 (ow:Int))) kr (by rw[<-hD];exact b2.out) (λhHeld=>?_);rw[<-hD]at hHeld⊢;clear hD;refine tkA 0 ?_;refine tkA 1 ?_;refine tkA 2 ?_;refine tkW 3 (v:=?_) ?_ ?_;rotate_left
 ·intro V hV;obtain⟨q1,q2,q3⟩:=hV
  first|(go_simp;done)|(go_simp;with_reducible rfl)
 try simp only[pq]
 refine tkA 4 ?_;refine tkA 5 ?_;refine tkA 6 ?_;refine tkA 7 ?_;refine tkW 8 (v:=?_) ?_ ?_;rotate_left
 ·intro V hV;obtain⟨q1,q2,q3⟩:=hV
  first|(go_simp;done)|(go_simp;with_reducible rfl)
 try simp only[pq]
 refine tkA 9 ?_;refine tkA 10 ?_;refine tkA 11 ?_;refine tkW 12 (v:=?_) ?_ ?_;rotate_left
 ·intro V hV;obtain⟨q1,q2,q3⟩:=hV
  first|(go_simp;done)|(go_simp;with_reducible rfl)
 try simp only[pq]
 refine tkA 13 ?_;refine rdy 14 (λK hK=>?_);go_simp
 go_at_call 192
 refine HC.out.mono ?_;rintro e w2 ⟨a2,c2,rfl,aV,o3,h3,z3,g3,n3⟩;have aR:AE A c o1 {s with rs:=EB mo s.rs,told:=s.told+n} D w2:=⟨o3,h3,z3,g3⟩;refine hK.out _ _ (hS.out _ _ (bp.out _ _ aR) rfl) (λbh=>?_);clear hK K
 try simp only[pq]
 refine tkA 15 ?_;refine tkA 16 ?_;refine tkA 17 ?_;refine tkA 18 ?_;refine tkA 19 ?_;refine Vj kr ?_ _;refine At ?_;have aW:ByD (λk=>o3 k=0) w2 a2 n bs:=by exact aV.wide λk _ hk=>n3 k hk.1 hk.2
 have b7:=AA aW;have HZ:=AA (Vd (λk hk=>z3 k (HO.out.1 k hk)) (HO.out.2.trans g3 λi _ hi e=>hi (HO.out.1 i e)));have r7:=h3.g.ceR 7 (int i64 (s.rd.buf:Int)) λ_=>rfl;have b9:=h3.g.ceP 11 (pointer (some ⟨A.Bb,0,none⟩)) λ_=>rfl;obtain⟨bf,j⟩:∃m,s.rd.buf=m:=⟨_,rfl⟩;rw[j]at r7;have bx:=AA h3;have bq:=AA j;have aJ:=λ(V:World)(hV:Br w2 V)=>(h3.g.bel hV).lift λo4 h4 z4=>aod h4 bf n c2 a2 bs x0 (b7.out.1.below hV) (by have:=HU.out.1;rwa[j]at this) (by have:=HU.out.2;rwa[j]at this) (by have:=HN.out;have h9:=HB.out.2.1;have h8:=HB.out.2.2.1;have h7:=HB.out.2.2.2.1;omega) (by have:=HN.out;omega);have bo:=AA aJ;clear bh hHeld HC b2 hS aV h3 z3 g3 n3 aR aW j aJ;go_upto_region 5 with fail
 refine Hw 9 mixed kr ?_;dsimp only[List.take_succ_cons,List.take_zero,List.drop_succ_cons,List.drop_zero]
 repeat (go_big_quiet_step (fail))
 refine wpQuiet_nil ?_;rintro _ ⟨nq,rfl⟩;have b6:=AA (bo.out _ (AN w2 nq));clear r7 b9
 go_wp2_with fail
 refine b6.out.mono ?_;rintro e w3 ⟨rfl,N⟩;obtain⟨Z,aK⟩:∃m,ow+n=m:=⟨_,rfl⟩;obtain⟨re,C⟩:∃m,s.read=m:=⟨_,rfl⟩;obtain⟨Y,ai⟩:∃m,re+n=m:=⟨_,rfl⟩;have aH:IntKind.i64.wrap ((ow:Int)+(n:Int))=(Z:Int):=by have:=ae.out;rw[BK];omega
 have aG:IntKind.i64.wrap ((re:Int)+(n:Int))=(Y:Int):=by have:=ae.out;rw[BK];omega
 have af:=AA (Vd aK (Vd C ai));have c9:=N.ceR 9 (int i64 (ow:Int)) λ_=>by rw[<-HB.out.2.2.1];rfl
 have f9:=N.frR 9;have ag:=AA (N.setR 9 (int i64 (Z:Int)) {s.rd with own:=Z} (λ_=>rfl) rfl);clear N b6 aK C ai;go_upto_region 7 with fail
 obtain⟨W4,b0⟩:∃V,V=w3.setCell ⟨A.R,9,none⟩ (int i64 (Z:Int)):=⟨_,rfl⟩;rw[<-b0]at ag⊢;clear b0 c9 f9 aH;have b8:=ag.out.ceP 17 (int i64 (re:Int)) λ_=>by rw[<-af.out.2.1];rfl
 have bi:=ag.out.frP 17;have aC:=AA (ag.out.setP 17 (int i64 (Y:Int)) {s with rs:=EB mo s.rs,told:=s.told+n,ds:=s.ds.set bf (x0++bs),read:=Y,rd:={s.rd with own:=Z}} (λ_=>rfl) rfl (Ai.congr 1));go_upto_region 8 with fail
 obtain⟨W5,aZ⟩:∃V,V=W4.setCell ⟨A.P,17,none⟩ (int i64 (Y:Int)):=⟨_,rfl⟩;rw[<-aZ]at aC⊢;clear aZ b8 bi aG;have am:=aC.out.byD b7.out;obtain⟨o5,h5,z5,g5⟩:=aC.out;obtain⟨tv,aq,I⟩:=h5.cR;have I:Cv (λk=>o5 k=8) W5 tv s.rd.tail:=I;obtain⟨bk,bj,rfl,aP,_⟩:=I.shape;have aO:s.rd.tail.length+n<=1000000:=by have:=ae.out;omega
 obtain⟨a6,c6,W6,ab,aI,aS,ao⟩:=ac1 W5 I a2 n c2 bs am.1 aO;obtain⟨q1,q2,q3⟩:=h5.tailApp aq bs aI aS ao;have aD:W5.cell? ⟨A.R,11,none⟩=some (slice bk s.rd.tail.length bj):=by simp only[cell?,aq];rfl
 obtain⟨tl,U⟩:∃m,s.rd.tail.length=m:=⟨_,rfl⟩;rw[U]at aD ab q1 q3;obtain⟨tn,ar⟩:∃m,tl+n=m:=⟨_,rfl⟩;rw[ar]at ab q1;have bm:=AA ab;have b3:=AA q1;have b1:=AA (Vd z5 g5);have aA:=AA (Vd U ar);clear am h5 z5 g5 aq I aP aO ab aI aS ao q1 U ar;go_upto_region 9 with(at_builtin;refine aaf rfl (.tmp 69) (.tmp 70) 32 rfl rfl rfl bm.out ?_)
 obtain⟨W7,aY⟩:∃V,V=W6.setCell ⟨A.R,11,none⟩ (slice a6 tn c6):=⟨_,rfl⟩;rw[<-aY]at b3⊢;clear aY aD q2 q3;obtain⟨o7,h7,z7,g7⟩:=b3.out;obtain⟨a7,c7,ap,aU,B⟩:=h7.g.tail;have H:(s.rd.tail++bs).length=tn:=by rw[List.length_append,aA.out.1,HB.out.2.2.2.2.2];exact aA.out.2
 rw[show(({s with rs:=EB mo s.rs,told:=s.told+n,ds:=s.ds.set bf (x0++bs),read:=Y,rd:={s.rd with own:=Z,tail:=s.rd.tail++bs}}:PlM).rd.tail.length)=tn from H]at ap B;obtain⟨wm,X⟩:∃m,c.wm=m:=⟨_,rfl⟩;have n8:=h7.g.ceP 8 (int i64 (wm:Int)) λ_=>by rw[<-X];rfl
 obtain⟨kk,aQ⟩:∃m,tn-wm=m:=⟨_,rfl⟩;obtain⟨dm,bg⟩:∃m:Int,(tn:Int)-(wm:Int)=m:=⟨_,rfl⟩;have bd:tn<=3000/\wm<=1000:=by have:=ae.out;have h9:=aA.out;have h8:=HN.out;omega
 have aF:IntKind.i64.wrap ((tn:Int)-(wm:Int))=dm:=by rw[BK];omega
 have aN:max (0:Int) dm=(kk:Int):=by omega
 have k9:kk<=tn:=by omega
 have bb:tn<=c7:=B;obtain⟨u1,nf⟩:=h7.tailCut ap kk k9;have y:∀s' V,AE A c o7 s' W7 V->AE A c o s' w V:=λs' V N=>AE.comp HZ.out.1 HZ.out.2 (AE.comp b1.out.1 b1.out.2 (AE.comp z7 g7 N));have az:=AA (u1.bel (AN _ 1));have b5:=AA y;have bl:=AA (Vd X (Vd aQ H));clear h7 z7 g7 aU B H X aQ bg bd u1 y
 go_region
 generalize (if c7=kk then a7 else Option.map (λx=>x.add kk) a7)=a8 at az⊢
 obtain⟨W8,aw⟩:∃V,V=(W7.setCell ⟨A.R,11,none⟩ (slice a8 (tn-kk) (c7-kk))).drew:=⟨_,rfl⟩;have aa:Hid (AE A c o7 {s with rs:=EB mo s.rs,told:=s.told+n,ds:=s.ds.set bf (x0++bs),read:=Y,rd:={s.rd with own:=Z,tail:=(s.rd.tail++bs).drop kk}} W7 W8):=by rw[aw];exact az.out
 rw[<-aw];clear aw ap n8 nf aF aN k9 bb az;have c9:=aa.out.ceR 9 (int i64 (Z:Int)) λ_=>rfl;have p2:=aa.out.ceP 2 (int i64 (K0:Int)) λ_=>by rw[<-HB.out.2.1];rfl
 have bw:=AA (aa.out.bel (AN W8 1));have al:∀ph,ph=(if s.rd.own+(BR ((c.K:Int)-s.rd.own) s.rs).length=c.K then 3 else s.rd.ph)->readR c s={s with rs:=EB mo s.rs,told:=s.told+n,ds:=s.ds.set bf (x0++bs),read:=Y,rd:={s.rd with own:=Z,tail:=(s.rd.tail++bs).drop kk,ph:=ph}}:=λph be=>by obtain⟨e1,e2,e3,e4,e5,e6⟩:=HB.out;obtain⟨f1,f2,f3⟩:=af.out;obtain⟨g1,g2,g3⟩:=bl.out;have g4:=bq.out;have hd:=HU.out.2;subst e2 e3 e4 e5 e6 f1 f2 f3 g1 g3 g2 g4;rw[ahU e1 x0 hd,be]
 have b4:=AA al;clear al
 by_cases hd:Z=K0
 ·have d0:decide ((Z:Int)=(K0:Int))=true:=by simp;omega
  have d1:((Z:Int)==(K0:Int))=true:=by simp;omega
  have HD:=AA hd;clear hd;go_upto_region 10 with fail
  go_big_quiet (fail)
  have J:=aa.out.bel (AN W8 nq);obtain⟨W9,aX⟩:∃V,V=W8.drewN nq:=⟨_,rfl⟩;rw[<-aX]at J⊢;clear aX c9 p2;have bv:=J.ceR 1 (.int .u8 (s.rd.ph:Int)) λ_=>rfl;have bu:=J.frR 1;have aB:=AA (J.setR 1 (.int .u8 3) {s.rd with own:=Z,tail:=(s.rd.tail++bs).drop kk,ph:=3} (λ_=>rfl) rfl);clear J;go_wp2
  go_end0
  refine⟨rfl,?_⟩;rw[b4.out 3 (by obtain⟨e1,e2,e3,e4,e5,e6⟩:=HB.out;rw[e2,e3,e4,e5,e6,af.out.1,Vb HD.out])];exact b5.out _ _ aB.out
 ·have d0:decide ((Z:Int)=(K0:Int))=false:=by simp;omega
  have d1:((Z:Int)==(K0:Int))=false:=by simp;omega
  have HD:=AA hd;clear hd;go_upto_region 10 with fail
  go_big_quiet (fail)
  have aB:=AA (aa.out.bel (AN W8 nq));go_wp2
  go_end0
  refine⟨rfl,?_⟩;rw[b4.out s.rd.ph (by obtain⟨e1,e2,e3,e4,e5,e6⟩:=HB.out;rw[e2,e3,e4,e5,e6,af.out.1,Va HD.out])];exact b5.out _ _ aB.out
theorem AI.tookApp{A:PAd}{c:CfM}{s:PlM}{o:Nat->Nat}{w:World}(h:AI A c o s w){I:Value}(hb:w.heap[A.P]?=some (.cells (EK A c s I) 109 (0,0)))(q:AF){N:Option Addr}{X U:Nat}{Y:World}
  (hr:Y.ownsRow 0 116 2 (slice N X U) (s.took.length+1) (AV s.took++[int i64 q.1,int i64 q.2])) (hg:w.grownBy Y I.ownBlock) (D:(slice N X U).ownBlock=I.ownBlock∨(slice N X U).ownBlock=some w.heap.size) :
  AE A c o {s with took:=s.took++[q]} w (Y.setCell ⟨A.P,18,none⟩ (slice N X U))/\Y.frozen? ⟨A.P,18,none⟩=false/\Y.cell? ⟨A.P,18,none⟩=some I:=by
 obtain⟨J,C,k2,k4,k5⟩:MN A c s (λk=>o k=1) w:=h.part 1 om;have e0:J=I:=by
  rw[C]at hb;have j:=congrArg (λx=>x.bind λy=>match y with|Obj.cells cs _ _=>cs[18]?|_=>none) hb
  simpa[EK]using j
 subst e0;have v:=(AD.1 C).1;have V:Y.heap[A.P]?=some (.cells (EK A c s J) 109 (0,0)):=(hg.block _ v λe=>k5 e.symm).trans C;have H:(slice N X U).ownBlock≠some A.P:=λe=>by
  rcases D with e2|e2
  ·exact k5 (e2.symm.trans e)
  ·rw[e2]at e;have:=AK e;omega
 have B:Chg (λk=>o k=1) w Y:=(Chg.refl _ w).grown hg λg e _=>k4.2 g e;have hc:Chg (λk=>o k=1) w (Y.setCell ⟨A.P,18,none⟩ (slice N X U)):=B.set k2;refine⟨h.upG 1 om om hc ⟨slice N X U,AJ (i:=18) V _,.inl k2,⟨?_,λg Z=>?_⟩,H⟩ (Ai.congr 1),by simp[frozen?,V],by simp only[cell?,V];rfl⟩
 ·show World.ownsRow _ _ _ _ _ (s.took++[q]).length (AV (s.took++[q]));have j:AV (s.took++[q])=AV s.took++[int i64 q.1,int i64 q.2]:=by simp[AV,IH]
  rw[j,List.length_append];exact Fu hr λg Z=>AQ Y ⟨A.P,18,none⟩ _ g λe=>H (by rw[Z,e])
 ·rcases D with e|e
  ·exact .inl (k4.2 g (e ▸ Z))
  ·rw[e]at Z;exact .inr (Gq (AK Z))
theorem aeZ{A:PAd}{c:CfM}{s:PlM}{o:Nat->Nat}(w W:World)(h:AE A c o s w W)(V:s.out=[]) :Calls ZP 159 #[pointer (some ⟨A.E,0,none⟩)] W λe w'=>e=.returned (.tuple #[])/\AE A c o (offerE c s) w w':=by
 have Z:=h.cE;have k0:W.cell? ⟨A.E,0,none⟩=some (pointer (some ⟨A.P,0,none⟩)):=by simp only[cell?,Z];rfl
 have X:=h.ceP 14 (pointer (some ⟨A.O,0,none⟩)) λ_=>rfl;have B:Hid (Calls ZP 208 #[pointer (some ⟨A.O,0,none⟩)] W λe w'=>∃a N,e=.returned (slice a 0 N)/\Br W w'):=h.low λy h1=>(aop h1).mono λe w' ⟨v,h2,h3,h4⟩=>by obtain⟨a,N,rfl,_⟩:=Gy h3;rw[V]at h2;exact⟨a,N,h2,h4⟩
 have C:=AA h;have D:=AA V;clear h Z V;go_enter func159,ntmps159;go_upto_region 3 with(go_at_call 208;refine B.out.mono ?_;rintro e I ⟨a1,c1,rfl,Y⟩)
 have U:=C.out.bel Y;have Z:=U.cE;have j0:I.frozen? ⟨A.E,1,none⟩=false:=by simp[frozen?,Z]
 have j:I.cell? ⟨A.E,1,none⟩=some (.int .u8 (s.eph:Int)):=by simp only[cell?,Z];rfl
 have J:=AA (U.setE 2);clear U k0 X Z Y;go_wp2;refine Vl (results_none rfl _ _ _) rfl ?_;refine⟨rfl,?_⟩;have H:offerE c s={s with eph:=2}:=by unfold offerE;rw[D.out]
 rw[H];exact J.out
theorem adq{A:PAd}{c:CfM}{s:PlM}{o:Nat->Nat}(w W:World)(h:AE A c o s w W)(q:AF)(t:List AF)(hq:s.out=q::t)(ho:s.off<=1000000)(hk:s.tk.length<=1000000)(ht:s.took.length<=1000000)(aK:s.out.length<=1000000) :Calls ZP 159 #[pointer (some ⟨A.E,0,none⟩)] W λe w'=>e=.returned (.tuple #[])/\AE A c o (offerE c s) w w':=by
 have hb:=h.cE;have k0:W.cell? ⟨A.E,0,none⟩=some (pointer (some ⟨A.P,0,none⟩)):=by simp only[cell?,hb];rfl
 have aI:=h.ceP 14 (pointer (some ⟨A.O,0,none⟩)) λ_=>rfl;obtain⟨n,hn⟩:∃n,s.out.length=n:=⟨_,rfl⟩;have aL:n≠0:=by rw[<-hn,hq];simp
 have d0:((n:Int)==0)=false:=by simp;omega
 have d1:decide ((n:Int)=0)=false:=by simp;omega
 have d2:decide (n=0)=false:=by simp;omega
 have HC:Hid (Calls ZP 208 #[pointer (some ⟨A.O,0,none⟩)] W λe w'=>∃a cc,e=.returned (slice a n cc)/\SlD (λk=>W.heap.size<=k/\k<w'.heap.size) w' a n (q::t)/\Br W w'):=h.low λo1 h1=>(aop h1).mono λe w' ⟨v,h2,h3,h4⟩=>by obtain⟨a,cc,rfl,_,h5,h6⟩:=Gy h3;rw[hn]at h2 h5;rw[hq]at h5;exact⟨a,cc,h2,⟨h5,λ_ q e=>h6 q e⟩,h4⟩
 have HG:=AA h;have HX:=AA (Vd hq (Vd ho (Vd hk (Vd ht hn))));have i0:(0:Int)<(n:Int):=by omega
 have aR:0<n:=by omega
 clear h hb hq ho hk ht aK hn aL;go_enter func159,ntmps159;go_upto_region 4 with(go_at_call 208;refine HC.out.mono ?_;rintro e w1 ⟨a1,c1,rfl,ar,az⟩)
 obtain⟨o3,h3,z3,g3,n3⟩:=HG.out.belZ az;obtain⟨g,off,rfl,a6,a7,ap⟩:=aeo (ar.wide (Z':=λk=>o3 k=0) λk _ hk=>n3 k hk.1 hk.2);have aw:=DO w1 _ a7;have av:g≠A.P:=λe=>by obtain⟨tv,_,k2,_⟩:=h3.part 1 om;have k2:o3 A.P=1:=k2;have h0:o3 g=0:=a6;rw[e]at h0;omega
 have aH:=h3.g.ceP 10 (pointer (some ⟨A.Kk,0,none⟩)) λ_=>rfl;have aF:=AA (λ(V:World)(hV:Br w1 V)=>(h3.g.bel hV).lift λo5 h5 z5=>aoD h5 q HX.out.2.1 HX.out.2.2.1);have al:∀(s':PlM) V,AE A c o3 s' w1 V->V.cell? ⟨g,off,none⟩=some (int i64 q.1)/\V.cell? ⟨g,off+1,none⟩=some (int i64 q.2):=λs' V N=>by have:=N.weak g aw a6;exact⟨by rw[BC (a:=⟨g,off,none⟩) this];exact a7,by rw[BC (a:=⟨g,off+1,none⟩) this];exact ap⟩
 have af:=AA al;have H:=AA (Vd z3 g3);clear h3 z3 g3 n3 ar aw a6 al az k0 aI HC HG;refine Hw 7 mixed kr ?_;dsimp only[List.take_succ_cons,List.take_zero,List.drop_succ_cons,List.drop_zero]
 repeat (go_big_quiet_step (fail))
 refine wpQuiet_nil ?_;rintro _ ⟨nq,rfl⟩;have aE:=AA (aF.out _ (AN w1 nq));clear aH a7 ap aF
 go_wp2_with fail
 refine aE.out.mono ?_;rintro e w3 ⟨rfl,N⟩
 cases hy:EH c.ans s.off with
 |false=>
  rw[hy]at N;have aO:=AA N;have HY:=AA hy;clear N hy;go_wp2
  go_end0
  refine⟨rfl,?_⟩;have e1:offerE c s={s with off:=s.off+1}:=by unfold offerE;rw[HX.out.1];simp only[HY.out];rfl
  rw[e1];exact AE.comp H.out.1 H.out.2 aO.out
 |true=>
  rw[hy]at N;have aG:=N.ceP 14 (pointer (some ⟨A.O,0,none⟩)) λ_=>rfl;have aD:=AA (N.lift λo5 h5 z5=>ahy h5 q t HX.out.1);have HY:=AA hy;clear N hy aE;go_upto_region 6 with(go_at_call 210;refine aD.out.mono ?_;rintro e w4 ⟨⟨v4,rfl⟩,N⟩)
  obtain⟨o6,h6,z6,g6⟩:=N;obtain⟨D,hD⟩:∃D,D=w4.drew:=⟨_,rfl⟩;have X:=h6.drewS;rw[<-hD]at X;have ac:Br w4 D:=by rw[hD];exact AN w4 1
  have ab:=AE.comp z6 (g6.same ac) X.g;obtain⟨U,hU⟩:∃U,U=D.alloc (.cells #[int i64 q.1,int i64 q.2] 116):=⟨_,rfl⟩;have J:Br D U:=by rw[hU];exact AL _ _
  have ax:=ab.bel J;have ae:=X.bel J;obtain⟨aP,ag⟩:=X.cP;obtain⟨tv,k1,k2,k4,k5⟩:=ae.part 1 om;have k4:CO (λk=>EW o6 D.heap.size U.heap.size 0 k=1) U 116 2 tv s.took.length (AV s.took):=k4;obtain⟨a4,c4,rfl,_,_,_⟩:=Gy k4.1;have a2:U.cell? ⟨A.P,18,none⟩=some (slice a4 s.took.length c4):=by simp only[cell?,k1];rfl
  have aA:=(AD.1 ag).1;have aC:D.cell? ⟨A.P,18,none⟩=some (slice a4 s.took.length c4):=by rw[<-BC (a:=⟨A.P,18,none⟩) (J.block A.P aA)];exact a2
  obtain⟨i1,au,ak,aj,ai⟩:=Vk IG;have y:SlK 2 U (some ⟨D.heap.size,0,none⟩) 1 [int i64 q.1,int i64 q.2]:=by rw[hU];exact On D q
  have aJ:=HX.out.2.2.2.1;obtain⟨v1,W1,hr,a8,ay,j⟩:=Gu (P:=ZP) U 0 69 69 116 i1 (.agg #[.int .i64 0,.int .i64 0]) 2 16 underlying69 au ak aj ai rfl (by decide) (.slice a4 s.took.length c4) s.took.length (AV s.took) k4.1 (some ⟨D.heap.size,0,none⟩) 1 1 [.int .i64 q.1,.int .i64 q.2] y (λu hu=>by simp at hu;rcases hu with rfl|rfl<;>rfl) (by unfold maxLen;omega) om (AR _);obtain⟨a5,c5,rfl,_,_,_⟩:=Gy a8;obtain⟨u1,u2,u3⟩:=ae.tookApp k1 q a8 ay j;have aa:=AE.comp (λk hk=>by
   have h0:=z6 k hk
   by_cases aM:k<D.heap.size
   ·show EW o6 _ _ 0 k=0;rw[FV aM];exact h0
   ·have:=X.out k om;omega) ((g6.same ac).same J) u1
  have ao:=af.out _ _ ab;have am:=af.out _ _ ax;have I:=af.out _ _ aa;have C:W1.cell? ⟨g,off,none⟩=some (int i64 q.1)/\W1.cell? ⟨g,off+1,none⟩=some (int i64 q.2):=by have e:(W1.setCell ⟨A.P,18,none⟩ (slice a5 (s.took.length+1) c5)).heap[g]?=W1.heap[g]?:=AQ W1 ⟨A.P,18,none⟩ _ g av;rw[BC (a:=⟨g,off,none⟩) e,BC (a:=⟨g,off+1,none⟩) e]at I;exact I
  have aB:=u3;have HR:=AA hr;have HF:=AA aa;have Y:=AA (Vd am (Vd C I));have HU:=AA hU;obtain⟨tn,aq⟩:∃k,s.took.length=k:=⟨_,rfl⟩;obtain⟨aQ,B⟩:∃k,tn+1=k:=⟨_,rfl⟩;rw[aq]at a2 aC HR HF Y u3;rw[B]at HR HF Y;clear h6 z6 g6 X ac ab J ax ae ag k1 k2 k4 k5 aA au ak aj ai y aJ hr a8 ay j u1 aa am C I aB hU aq B aD aG;refine Vh ?_;refine Vg (S:=λV=>V.cell? ⟨g,off,none⟩=some (int i64 q.1)/\V.cell? ⟨g,off+1,none⟩=some (int i64 q.2)) kr (by rw[<-hD];exact ao) (λhHeld=>?_);rw[<-hD]at hHeld⊢;clear hD ao;refine tkA 0 ?_;refine tkA 1 ?_;refine tkA 2 ?_;refine tkA 3 ?_;refine tkA 5 ?_;refine tkA 6 ?_;refine tkW 7 (v:=?_) ?_ ?_;rotate_left
  ·intro V hV;obtain⟨q1,q2⟩:=hV
   first|(go_simp;done)|(go_simp;with_reducible rfl)
  try simp only[pq]
  refine apE 4 8 (λK Z=>?_) (λK Z=>?_)
  focus
   go_simp;refine Z.out _ _ hHeld (λh4=>?_);clear Z K
   try simp only[pq]
   refine rdy 8 (λK Z=>?_);go_simp;rw[<-HU.out];refine Z.out _ _ Y.out.1 (λh8=>?_);clear Z K h4 h8
   try simp only[pq]
  rotate_left
  focus
   go_simp;rw[<-HU.out];refine Z.out _ _ Y.out.1 (λh8=>?_);clear Z K
   try simp only[pq]
   refine rdy 4 (λK Z=>?_);go_simp;refine Z.out _ _ Y.out.1 (λh4=>?_);clear Z K h4 h8
   try simp only[pq]
  all_goals
   refine rdy 9 (λK Z=>?_);refine GU (.tmp 38) (.tmp 42) 69 rfl _ _ rfl rfl rfl HR.out ?_;refine Z.out _ _ Y.out.2.1 (λh9=>?_);clear Z K
   try simp only[pq]
   refine tkA 10 ?_;refine tkA 11 ?_;refine rdy 12 (λK Z=>?_);go_simp;refine Z.out _ _ Y.out.2.2 (λaN=>?_);clear Z K h9 aN
   try simp only[pq]
   refine Vj kr ?_ _;refine At ?_;go_wp2
   go_end0
   refine⟨rfl,?_⟩;have e1:offerE c s={s with off:=s.off+1,tk:=s.tk++[q],out:=t,took:=s.took++[q]}:=by unfold offerE;rw[HX.out.1];simp only[HY.out,if_true]
   rw[e1];have h9:=AE.comp H.out.1 H.out.2 HF.out
   simpa using h9
end Go.Proofs.YtaamacoicojhnaaGreat
