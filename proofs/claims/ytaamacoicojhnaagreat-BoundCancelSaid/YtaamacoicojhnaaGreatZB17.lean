/- Proofs over the given program, part 17. -/
import Derived.Test.YtaamacoicojhnaaGreatZB16
set_option linter.unusedVariables false
set_option linter.unusedSimpArgs false
set_option maxRecDepth 100000
set_option maxHeartbeats 16000000
open Go.Proofs.Tryz
open Go.Proofs.Tryz renaming prog→ZP
namespace Go.Proofs.YtaamacoicojhnaaGreat
open Go.RowKit Go.Sort
theorem aa3.mach {A:PAd}{c:CfM}{s:PlM}{o:Nat->Nat}{w w':World}(h:aa3 A c o s w w'):asm A.m c w':=h.low fun Z h1=>by
 have h0:apx A c (fun k=>Z k=0) w':=h1.part 0 (by omega);exact h0.mach.1 w' h0.mach.2.1
theorem akN {s:PlM}{i:Nat}(y z:WkM):setW (setW s i fun _=>y) i (fun _=>z)=setW s i fun _=>z:=by
 unfold setW;have e:(s.wk.modify i fun _=>y).modify i (fun _=>z)=s.wk.modify i fun _=>z:=by
  refine ayX fun j=>?_;rw [aye,aye,aye]
  by_cases Z:i=j
  ·
   subst Z
   cases s.wk[i]?<;>simp
  · simp [Z]
 show { s with wk:=(s.wk.modify i fun _=>y).modify i (fun _=>z) }=_;rw [e]
theorem aon (a b:List aam):aad (a++b)=aad a++aad b:=by simp [aad]
theorem aa8.hitsApp {A:PAd}{c:CfM}{s:PlM}{o:Nat->Nat}{w:World}{i:Nat}{x:WkM}(h:aa8 A c o s w)(hx:s.wk[i]?=some x)(hi:i<900)(v:x.ph=2){p:PcW}{C:Value}(hb:w.heap[A.Wk i]?=some (.cells (wkV A i x p C) 249 (0,0)))(l:List aam){I:Option Addr}{X J:Nat}{Y:World}
  (hr:Y.ownsRow 0 116 2 (.slice I X J) (x.hits.length+l.length) (aad x.hits++aad l)) (hg:w.grownBy Y C.ownBlock) (U:(Value.slice I X J).ownBlock=C.ownBlock∨(Value.slice I X J).ownBlock=some w.heap.size) :
  aa3 A c o (setW s i fun _=>{ x with hits:=x.hits++l }) w (Y.setCell ⟨A.Wk i,13,none⟩ (.slice I X J))/\Y.frozen? ⟨A.Wk i,13,none⟩=false/\Y.cell? ⟨A.Wk i,13,none⟩=some C:=by
 have h0:abH A s (fun k=>o k=i+11) (fun k=>o k=0) w i:=h.part (i+11) (by omega);unfold abH at h0;rw [hx] at h0;obtain⟨p2,V,z,k2,k3,k4,k5,H⟩:=h0;have e0:V=C:=by
  rw [z] at hb;have e1:=congrArg (fun x=>x.bind fun y=>match y with | Obj.cells cs _ _=>cs[13]? | _=>none) hb
  simpa [wkV,al9,avV] using e1
 subst e0;have a2:=(awU.1 z).1;have H:∀g,V.ownBlock=some g->o g=i+11:=H (by rw [v];decide);have N:Y.heap[A.Wk i]?=some (.cells (wkV A i x p2 V) 249 (0,0)):=(hg.block _ a2 fun e=>k5 e.symm).trans z;have D:(Value.slice I X J).ownBlock≠some (A.Wk i):=fun e=>by
  rcases U with B | B
  · exact k5 (B.symm.trans e)
  · rw [B] at e;have:=awV e;omega
 have a1:Chg (fun k=>o k=i+11) w Y:=(Chg.refl _ w).grown hg fun g e _=>H g e;have hc:Chg (fun k=>o k=i+11) w (Y.setCell ⟨A.Wk i,13,none⟩ (.slice I X J)):=a1.set k2;refine⟨h.upG (i+11) (by omega) (by omega) hc ?_ (aar.congr (i+11) (h1:=.inr ⟨rfl,rfl,rfl,rfl⟩) (h2:=.inr ⟨rfl,rfl⟩) (h3:=.inr ⟨rfl,rfl⟩) (h4:=.inr ⟨rfl,rfl,rfl⟩) (h5:=.inr ⟨rfl,rfl⟩) (h6:=.inr ⟨rfl,rfl⟩) (h7:=.inr ⟨rfl,rfl⟩) (h8:=.inr rfl) (h9:=.inr ⟨rfl,rfl⟩) (h10:=.inr rfl) (h11:=fun j hj=>?_)),by simp [World.frozen?,N],?_⟩
 ·
  show abH A (setW s i fun _=>{ x with hits:=x.hits++l }) (fun k=>o k=i+11∨w.heap.size<=k) (fun k=>o k=0) _ i;unfold abH;rw [ah8 hx];refine⟨p2,.slice I X J,aa4 (i:=13) N _,.inl k2,k3.keep hc fun k _ e1 B=>by rw [e1] at B;omega,⟨?_,fun g Z=>?_⟩,D,fun _ g Z=>?_⟩
  · rw [List.length_append,aon];exact aaX hr fun g Z=>axn Y ⟨A.Wk i,13,none⟩ _ g fun e=>D (by rw [Z,e])
  ·
   rcases U with e | e
   · exact .inl (.inl (H g (e ▸ Z)))
   · rw [e] at Z;exact .inl (.inr (axL (awV Z)))
  ·
   rcases U with e | e
   · exact .inl (H g (e ▸ Z))
   · rw [e] at Z;exact .inr (axL (awV Z))
 · show (s.wk.modify i fun _=>{ x with hits:=x.hits++l })[j]?=s.wk[j]?;rw [aye];have:i≠j:=fun e=>hj (by rw [e]);simp [this]
 · simp only [World.cell?,N];rfl
theorem amc {A:PAd}{c:CfM}{s:PlM}{o:Nat->Nat}{i:Nat}{x:WkM}(w W:World)(h:aa3 A c o s w W)(hx:s.wk[i]?=some x)(hi:i<900)(a6:x.ph=2)(aE:x.blk.data.length<=900000)(aD:x.hits.length+(c.scan x.blk.start x.blk.warm x.blk.data x.node x.done).2.2.1.length<=1000000) :
  Calls ZP 149 #[.pointer (some ⟨A.Wk i,0,none⟩)] W fun e w'=>e=.returned (.tuple #[])/\aa3 A c o (scanW c s i) w w':=by
 obtain⟨p,hv,aF,e1,e2,e3,e4,am⟩:=h.cW hx hi;obtain⟨T,hT⟩:∃T,A.Wk i=T:=⟨_,rfl⟩;obtain⟨nu,aM⟩:∃b,x.blk.num=b:=⟨_,rfl⟩;obtain⟨st,aj⟩:∃b,x.blk.start=b:=⟨_,rfl⟩;obtain⟨wm,ai⟩:∃b,x.blk.warm=b:=⟨_,rfl⟩;obtain⟨bs,ao⟩:∃b,x.blk.data=b:=⟨_,rfl⟩;obtain⟨z0,a2⟩:∃b,x.node=b:=⟨_,rfl⟩;obtain⟨d0,al⟩:∃b,x.done=b:=⟨_,rfl⟩;obtain⟨r,hr⟩:∃b,c.scan st wm bs z0 d0=b:=⟨_,rfl⟩;obtain⟨B,j,H,ov⟩:=r;rw [aj,ai,ao,a2,al,hr] at aD;rw [ao] at aE am;obtain⟨n1,aC⟩:∃b,H.length=b:=⟨_,rfl⟩;have aA:p.m=bs.length:=am.1.1.symm;have X:Hid (∀V,Below W.heap.size W V->V.cell? ⟨T,0,none⟩=some (.pointer (some ⟨A.P,0,none⟩))/\V.cell? ⟨A.P,0,none⟩=some (.pointer (some ⟨A.m,0,none⟩))/\V.cell? ⟨A.P,6,none⟩=some (.int .i64 (c.S:Int))/\V.cell? ⟨T,6,none⟩=some (.int .i64 (nu:Int))/\V.cell? ⟨T,7,none⟩=some (.int .i64 (st:Int))/\V.cell? ⟨T,8,none⟩=some (.int .i64 (wm:Int))/\V.cell? ⟨T,9,none⟩=some (.slice p.a p.m p.c)/\V.cell? ⟨T,11,none⟩=some (.int .i64 (z0:Int))/\V.cell? ⟨T,12,none⟩=some (.int .i64 (d0:Int))):=fun V hV=>by
  have hg:=h.bel hV;have Z:V.heap[T]?=some (.cells (wkV A i x p hv) 249 (0,0)):=by
   rw [<-hT];exact (hV.block _ (awU.1 aF).1).trans aF
  refine⟨by simp only [World.cell?,Z];rfl,hg.ceP 0 _ fun _=>rfl,hg.ceP 6 _ fun _=>rfl,?_,?_,?_,?_,?_,?_⟩
  · rw [<-aM,<-e1];simp only [World.cell?,Z];rfl
  · rw [<-aj,<-e2];simp only [World.cell?,Z];rfl
  · rw [<-ai,<-e3];simp only [World.cell?,Z];rfl
  · simp only [World.cell?,Z];rfl
  · rw [<-a2];simp only [World.cell?,Z];rfl
  · rw [<-al];simp only [World.cell?,Z];rfl
 have HM:Hid (∀V,Below W.heap.size W V->Calls ZP 200 #[.pointer (some ⟨A.m,0,none⟩),.agg #[.int .i64 (nu:Int),.int .i64 (st:Int),.int .i64 (wm:Int),.slice p.a p.m p.c],.agg #[.int .i64 (z0:Int),.int .i64 (d0:Int)],.int .i64 (c.S:Int)] V fun e w'=>∃a cc,e=.returned (.tuple #[.agg #[.int .i64 (B:Int),.int .i64 (j:Int)],.slice a n1 cc,.bool ov])/\SlD (fun k=>V.heap.size<=k/\k<w'.heap.size) w' a n1 H/\Below V.heap.size V w'):=fun V hV=>by
  rw [aA];refine ((h.bel hV).mach nu st wm p.a bs.length p.c bs z0 d0 (by have:=am.below hV;rwa [aA] at this) aE).mono ?_;rintro e w' ⟨v,rfl,ho,hb⟩;rw [hr] at ho ⊢;obtain⟨a,cc,rfl,_,h2,h3⟩:=abl ho;rw [<-aC];exact⟨a,cc,rfl,⟨h2,fun _ q e=>h3 q e⟩,hb⟩
 have HG:=ax3 h;have C:=ax3 (And.intro hx (And.intro hi (And.intro a6 (And.intro hT aC))));have HZ:=ax3 (And.intro aj (And.intro ai (And.intro ao (And.intro a2 (And.intro al hr)))));have b6:=ax3 aD;rw [hT];clear h hx hi a6 hT aD aM aj ai ao a2 al hr aC aA am aF e1 e2 e3 e4 aE;go_enter func149,ntmps149;go_upto_region 0 with fail
 refine wp_region_noPanic ?_;refine wp_region_held_drew (S:=fun V=>RowKit.Below W.heap.size W V) (by kernel_rfl) (aa2 W 1) (fun hHeld=>?_);refine tkA 0 ?_;refine tkA 1 ?_;refine tkA 2 ?_;refine tkA 3 ?_;refine tkB 4 X.out ?_;refine tkA 5 ?_;refine tkA 6 ?_;refine tkB 7 X.out ?_;refine tkA 8 ?_;refine tkA 9 ?_;refine tkA 10 ?_;refine tkA 11 ?_;refine tkB 12 X.out ?_;refine tkA 13 ?_;refine tkA 14 ?_;refine tkA 15 ?_;refine tkB 16 X.out ?_;refine tkA 17 ?_;refine tkA 18 ?_;refine tkA 19 ?_;refine tkA 20 ?_;refine tkB 21 X.out ?_;refine tkA 22 ?_;refine tkA 23 ?_;refine tkA 24 ?_;refine tkB 25 X.out ?_;obtain⟨D,hD⟩:∃D,D=W.drew:=⟨_,rfl⟩;rw [<-hD] at hHeld ⊢;clear hD;refine awN 26 31 (fun K X=>?_) (fun K X=>?_)
 focus
  go_simp
  go_at_call 200
  refine (HM.out _ hHeld).mono ?_;rintro e z ⟨a1,c1,rfl,ae,aa⟩;refine X.out _ _ (hHeld.trans (aa.mono hHeld.size)) (fun I=>?_);clear X K
  try simp only [Act.put,pA,pB,pC]
  refine tkA 27 ?_;refine tkA 28 ?_;refine tkA 29 ?_;refine tkA 30 ?_;refine rdy 31 (fun K X=>?_);go_simp;refine X.out _ _ (I.trans ((aa1 _ _).mono I.size)) (fun aH=>?_);clear X K
  try simp only [Act.put,pA,pB,pC]
  refine rdy 32 (fun K X=>?_);go_simp;obtain⟨N,J⟩:∃U,U=z.alloc (.cells #[.int .i64 (B:Int),.int .i64 (j:Int)] 247):=⟨_,rfl⟩;have Z:RowKit.Below W.heap.size W N:=by rw [J];exact I.trans ((aa1 _ _).mono I.size)
  have ac:N.heap[z.heap.size]?=some (.cells #[.int .i64 (B:Int),.int .i64 (j:Int)] 247 (0,0)):=by rw [J];exact axg _ _
  have ak:W.heap.size<=z.heap.size:=I.size;have az:SlD (fun k=>W.heap.size<=k/\k<N.heap.size) N a1 n1 H:=by
   have aR:RowKit.Below z.heap.size z N:=by rw [J];exact aa1 _ _
   exact (ae.keep (Y:=fun _=>False) (.of_same aR) fun _ _ _ h=>h).wide fun k _ hk=>⟨awT hHeld.size hk.1,ax6 hk.2 aR.size⟩
  rw [<-J];refine X.out _ _ Z (fun aG=>?_);clear X K J I aH aG ae aa
  generalize z.heap.size=b1 at ac ak ⊢
  clear z
  try simp only [Act.put,pA,pB,pC]
 rotate_left
 focus
  go_simp;obtain⟨b1,ar⟩:∃b,b=D.heap.size:=⟨_,rfl⟩;obtain⟨U,hU⟩:∃U,U=D.alloc (.cells #[.int .i64 0,.int .i64 0] 247):=⟨_,rfl⟩;have a8:RowKit.Below W.heap.size W U:=by rw [hU];exact hHeld.trans ((aa1 _ _).mono hHeld.size)
  have ah:U.heap[b1]?=some (.cells #[.int .i64 0,.int .i64 0] 247 (0,0)):=by rw [hU,ar];exact axg _ _
  have ak:W.heap.size<=b1:=by rw [ar];exact hHeld.size
  rw [<-hU,<-ar];refine X.out _ _ a8 (fun aH=>?_);clear X K hU ar
  try simp only [Act.put,pA,pB,pC]
  refine rdy 26 (fun K X=>?_);go_simp
  go_at_call 200
  refine (HM.out _ a8).mono ?_;rintro e z ⟨a1,c1,rfl,ae,aa⟩;refine X.out _ _ (a8.trans (aa.mono a8.size)) (fun I=>?_);clear X K
  try simp only [Act.put,pA,pB,pC]
  refine tkA 27 ?_;refine tkA 28 ?_;refine tkA 29 ?_;refine tkA 30 ?_;have a7:z.heap[b1]?=some (.cells #[.int .i64 0,.int .i64 0] 247 (0,0)):=(aa.block b1 (awU.1 ah).1).trans ah;have y0:z.cell? ⟨b1,0,none⟩=some (.int .i64 0):=by simp [World.cell?,a7]
  have y1:z.cell? ⟨b1,1,none⟩=some (.int .i64 0):=by simp [World.cell?,a7]
  have t0:z.frozen? ⟨b1,0,none⟩=false:=by simp [World.frozen?,a7]
  have t1:z.frozen? ⟨b1,1,none⟩=false:=by simp [World.frozen?,a7]
  refine rdy 32 (fun K X=>?_);go_simp;obtain⟨N,J⟩:∃Y,Y=(z.setCell ⟨b1,0,none⟩ (.int .i64 (B:Int))).setCell ⟨b1,1,none⟩ (.int .i64 (j:Int)):=⟨_,rfl⟩;have Z:RowKit.Below W.heap.size W N:=by rw [J];exact (I.setCell ak _).setCell ak _
  have ac:N.heap[b1]?=some (.cells #[.int .i64 (B:Int),.int .i64 (j:Int)] 247 (0,0)):=by rw [J];exact aa4 (i:=1) (aa4 (i:=0) a7 (.int .i64 (B:Int))) (.int .i64 (j:Int))
  have az:SlD (fun k=>W.heap.size<=k/\k<N.heap.size) N a1 n1 H:=by
   have hc:Chg (fun k=>k=b1) z N:=by rw [J];exact ((Chg.refl (fun k=>k=b1) z).set rfl).set rfl
   have bd:=(awU.1 ah).1;exact (ae.keep hc fun k _ hk e=>by have:=hk.1;omega).wide fun k _ hk=>⟨awT a8.size hk.1,ax6 hk.2 hc.size⟩
  rw [<-J];refine X.out _ _ Z (fun aG=>?_);clear X K J I aH aG ae aa a7 y0 y1 t0 t1 a8 ah;clear U z
  try simp only [Act.put,pA,pB,pC]
 all_goals
  refine tkA 33 ?_;refine tkA 34 ?_;refine wpAnyH_done (by kernel_rfl) ?_ _;refine ax4 ?_;obtain⟨o3,h3,z3,g3,n3⟩:=HG.out.belZ Z;have aK:SlD (fun k=>o3 k=0) N a1 n1 H:=az.wide fun k _ hk=>n3 k hk.1 hk.2;obtain⟨p2,bb,ab,_⟩:=h3.cW C.out.1 C.out.2.1;have ad:aa3 A c o3 (setW s i fun _=>{ x with node:=B,done:=j }) N ((N.setCell ⟨A.Wk i,11,none⟩ (.int .i64 (B:Int))).setCell ⟨A.Wk i,12,none⟩ (.int .i64 (j:Int))):=by
   refine h3.g.setWk C.out.1 C.out.2.1 _ _ (by simp only [arh]) (fun k hk=>?_) ?_ fun o5 p hv h5 z5 f1 f2 f3 f4 f5=>⟨p,hv,aa4 (i:=12) (aa4 (i:=11) f1 (.int .i64 (B:Int))) (.int .i64 (j:Int)),f2,f3,f4,fun _ g hg=>f5 (by rw [C.out.2.2.1];decide) g hg⟩
   · rw [axn _ ⟨A.Wk i,12,none⟩ _ k hk,axn _ ⟨A.Wk i,11,none⟩ _ k hk]
   · have hc:Chg (fun _=>True) N ((N.setCell ⟨A.Wk i,11,none⟩ (.int .i64 (B:Int))).setCell ⟨A.Wk i,12,none⟩ (.int .i64 (j:Int))):=((Chg.refl _ N).set trivial).set trivial;exact⟨hc.os,hc.tape,hc.output⟩
  rw [C.out.2.2.2.1] at ab ad;have ag:=ax3 ad;have b4:=ax3 aK;have aV:=ax3 (And.intro z3 g3);have b0:N.frozen? ⟨T,11,none⟩=false:=by simp [World.frozen?,ab]
  have aZ:N.frozen? ⟨T,12,none⟩=false:=by simp [World.frozen?,ab]
  have b3:N.cell? ⟨T,11,none⟩=some (.int .i64 (x.node:Int)):=by simp only [World.cell?,ab];rfl
  have b2:N.cell? ⟨T,12,none⟩=some (.int .i64 (x.done:Int)):=by simp only [World.cell?,ab];rfl
  have x0:N.cell? ⟨b1,0,none⟩=some (.int .i64 (B:Int)):=by simp [World.cell?,ac]
  have x1:N.cell? ⟨b1,1,none⟩=some (.int .i64 (j:Int)):=by simp [World.cell?,ac]
  clear h3 z3 g3 n3 ad aK ab az ac Z;go_upto_region 2 with fail
  obtain⟨V3,aT⟩:∃U,U=(N.setCell ⟨T,11,none⟩ (.int .i64 (B:Int))).setCell ⟨T,12,none⟩ (.int .i64 (j:Int)):=⟨_,rfl⟩;rw [<-aT] at ag ⊢;clear aT b0 aZ b3 b2 x0 x1;have au:=ag.out.slD b4.out;obtain⟨o4,h4,z4,g4⟩:=ag.out;have ay:(setW s i fun _=>{ x with node:=B,done:=j }).wk[i]?=some { x with node:=B,done:=j }:=ah8 C.out.1 _;obtain⟨p4,b9,aq,_,af⟩:=h4.cW ay C.out.2.1;obtain⟨a4,c4,rfl,_,_,_⟩:=abl af.1;obtain⟨i0,aP,a2,aJ,aI⟩:=info_parts adc;have aO:x.hits.length+n1<=1000000:=by have h7:x.hits.length+H.length<=1000000:=b6.out;have h9:=C.out.2.2.2.2;omega
  obtain⟨v1,W1,hr,aB,aQ,av⟩:=aaq (P:=ZP) V3 0 69 69 116 i0 (.agg #[.int .i64 0,.int .i64 0]) 2 16 underlying69 aP a2 aJ aI rfl (by decide) (.slice a4 x.hits.length c4) x.hits.length (aad x.hits) af.1 a1 n1 c1 (aad H) au.1 (fun u hu=>by obtain⟨y,_,hy⟩:=ayo.1 hu;simp [au0] at hy;rcases hy with rfl | rfl<;>rfl) (by unfold maxLen;omega) (by omega) (axh _);obtain⟨a5,c5,rfl,_,_,_⟩:=abl aB;have aw:=h4.hitsApp ay C.out.2.1 C.out.2.2.1 aq H (by rw [C.out.2.2.2.2];exact aB) aQ av;rw [C.out.2.2.2.1,akN] at aw;rw [C.out.2.2.2.1] at aq;obtain⟨u1,u2,u3⟩:=aw;have aU:V3.cell? ⟨T,13,none⟩=some (.slice a4 x.hits.length c4):=by simp only [World.cell?,aq];rfl
  obtain⟨m,hm⟩:∃m,x.hits.length=m:=⟨_,rfl⟩;rw [hm] at aU hr u1 u3;obtain⟨mn,aN⟩:∃k,m+n1=k:=⟨_,rfl⟩;rw [aN] at hr u1;have HR:=ax3 hr;have aX:=ax3 u1;have aW:=ax3 (And.intro z4 g4);clear hr u1 z4 g4 h4 ay aq af aP a2 aJ aI aO aB aQ av hm aN au;go_upto_region 3 with (at_builtin;refine aeh rfl (.tmp 44) (.tmp 45) 69 rfl rfl rfl HR.out ?_)
  obtain⟨V5,aS⟩:∃U,U=W1.setCell ⟨T,13,none⟩ (.slice a5 mn c5):=⟨_,rfl⟩;rw [<-aS] at aX ⊢;clear aS u2 u3 aU;have aL:∀ph,ph=(if ov then 3 else x.ph)->scanW c s i=setW s i fun _=>{ x with node:=B,done:=j,hits:=x.hits++H,ph:=ph }:=fun ph hp=>by
   obtain⟨e1,e2,e3,e4,e5,e6⟩:=HZ.out;unfold scanW;rw [acF C.out.1,hp];simp only [e1,e2,e3,e4,e5,e6]
  have aY:=ax3 aL;have hG:=aa3.comp aV.out.1 aV.out.2 (aa3.comp aW.out.1 aW.out.2 aX.out);have ax:(setW s i fun _=>{ x with node:=B,done:=j,hits:=x.hits++H }).wk[i]?=some { x with node:=B,done:=j,hits:=x.hits++H }:=ah8 C.out.1 _;obtain⟨p5,b8,ap,_⟩:=hG.cW ax C.out.2.1;have a6:=hG.setWph ax C.out.2.1 3 (fun e=>absurd rfl e);rw [akN] at a6;rw [C.out.2.2.2.1] at ap a6;have b7:=ax3 hG;have b5:=ax3 a6;have f1:V5.frozen? ⟨T,1,none⟩=false:=by simp [World.frozen?,ap]
  have be:V5.cell? ⟨T,1,none⟩=some (.int .u8 (x.ph:Int)):=by simp only [World.cell?,ap];rfl
  clear ap a6 hG ax aL
  cases ov with
  | true=>
   go_wp2
   go_end0
   refine⟨rfl,?_⟩;rw [aY.out 3 rfl];exact b5.out
  | false=>
   go_wp2
   go_end0
   refine⟨rfl,?_⟩;rw [aY.out x.ph rfl];exact b7.out
section
theorem acg (P:Program)(w:World)(a:Addr)(m:Mode):(store a .nilFunc m).run P w=stored P w a .nilFunc m:=run_store P w a _ m rfl
attribute [local go_sem] aaT acg
def ai4 (Z:TypeId):Prop:=Z=175∨Z=177∨Z=179∨Z=181
theorem aj0 (Y:TypeId)(Z:ai4 Y)(n T:Nat)(w:World):Sem.run ZP (method (n+1) Y (.pointer (some ⟨T,0,none⟩)) "teasel/pool.over") w=.ok (319,.pointer (some ⟨T,0,none⟩)) w:=by
 rcases Z with rfl | rfl | rfl | rfl<;>kernel_rfl
theorem amF (Y:TypeId)(Z:ai4 Y)(n T:Nat)(w:World):Sem.run ZP (method (n+1) Y (.pointer (some ⟨T,0,none⟩)) "teasel/pool.ready") w=.ok (321,.pointer (some ⟨T,0,none⟩)) w:=by
 rcases Z with rfl | rfl | rfl | rfl<;>kernel_rfl
theorem auy (Y:TypeId)(Z:ai4 Y)(n T:Nat)(w:World):Sem.run ZP (method (n+1) Y (.pointer (some ⟨T,0,none⟩)) "teasel/pool.step") w=.ok (322,.pointer (some ⟨T,0,none⟩)) w:=by
 rcases Z with rfl | rfl | rfl | rfl<;>kernel_rfl
def tyT (c:CfM)(t:Nat):TypeId:=if t=0 then 175 else if t<=c.W then 177 else if t=c.W+1 then 179 else 181
def adT (A:PAd)(c:CfM)(t:Nat):Nat:=if t=0 then A.R else if t<=c.W then A.Wk (t-1) else if t=c.W+1 then A.M else A.E
theorem atg (A:PAd)(c:CfM)(t:Nat):as3 A c t=.iface (tyT c t) (.pointer (some ⟨adT A c t,0,none⟩)):=by
 unfold as3 tyT adT
 split
 · rfl
 ·
  split
  · rfl
  · split<;>rfl
theorem aib (c:CfM)(t:Nat):ai4 (tyT c t):=by
 unfold tyT ai4
 split
 · exact .inl rfl
 ·
  split
  · exact .inr (.inl rfl)
  ·
   split
   · exact .inr (.inr (.inl rfl))
   · exact .inr (.inr (.inr rfl))
section
variable {A:PAd}{c:CfM}{s:PlM}{o:Nat->Nat}{w:World}
theorem aa8.tcR (h:aa8 A c o s w):ag3 A.P A.R s.rd.ph 5 A.mR acw (mvP 146 A.R) w:=by
 obtain⟨Y,Z,_⟩:=h.cR;exact⟨by simp only [World.cell?,Z];rfl,by simp only [World.cell?,Z];rfl,by simp only [World.cell?,Z];rfl,by simp only [World.cell?,Z];rfl,by simp only [World.cell?,Z];rfl,by simp only [World.cell?,Z];rfl⟩
theorem aa8.tcW (h:aa8 A c o s w){i:Nat}{x:WkM}(Y:s.wk[i]?=some x)(X:i<900):ag3 A.P (A.Wk i) x.ph 4 (A.mW i) (mvP 151 (A.Wk i)) (mvP 152 (A.Wk i)) w:=by
 obtain⟨p,V,Z,_⟩:=h.cW Y X;exact⟨by simp only [World.cell?,Z];rfl,by simp only [World.cell?,Z];rfl,by simp only [World.cell?,Z];rfl,by simp only [World.cell?,Z];rfl,by simp only [World.cell?,Z];rfl,by simp only [World.cell?,Z];rfl⟩
theorem aa8.tcM (h:aa8 A c o s w):ag3 A.P A.M s.mph 3 A.mM acw (mvP 157 A.M) w:=by
 obtain⟨a,m,Y,Z,_⟩:=h.cM;exact⟨by simp only [World.cell?,Z];rfl,by simp only [World.cell?,Z];rfl,by simp only [World.cell?,Z];rfl,by simp only [World.cell?,Z];rfl,by simp only [World.cell?,Z];rfl,by simp only [World.cell?,Z];rfl⟩
theorem aa8.tcE (h:aa8 A c o s w):ag3 A.P A.E s.eph 2 A.mE (mvP 158 A.E) (mvP 160 A.E) w:=by
 have Z:=h.cE;exact⟨by simp only [World.cell?,Z];rfl,by simp only [World.cell?,Z];rfl,by simp only [World.cell?,Z];rfl,by simp only [World.cell?,Z];rfl,by simp only [World.cell?,Z];rfl,by simp only [World.cell?,Z];rfl⟩
theorem aa8.p0 (h:aa8 A c o s w):apx A c (fun k=>o k=0) w:=h.part 0 (by omega)
theorem aa8.can (h:aa8 A c o s w):w.cell? ⟨A.P,19,none⟩=some (.bool s.cancelled):=h.g.ceP 19 _ fun _=>rfl
theorem aa8.task (h:aa8 A c o s w)(t:Nat)(Z:t<c.W+3):w.cell? ⟨A.TT,t,none⟩=some (.iface (tyT c t) (.pointer (some ⟨adT A c t,0,none⟩))):=by rw [<-atg];exact h.p0.tasks t Z
end
theorem acu {P T at_ Z mp:Nat}{sc sd:Value}(w:World)(N:ag3 P T at_ Z mp sc sd w)(z:at_=Z) :
  Calls ZP 323 #[.pointer (some ⟨T,0,none⟩)] w fun e w'=>e=.returned (.tuple #[.agg #[.nilFunc,.nilFunc],.bool false])/\Below w.heap.size w w':=by
 obtain⟨W,hW⟩:∃W,W=w.alloc (.cells #[Value.nilFunc,Value.nilFunc] 241):=⟨_,rfl⟩;have U:Below w.heap.size w W:=by rw [hW];exact aa1 _ _
 have I:aox w.heap.size .nilFunc .nilFunc W:=by rw [hW];exact adW _ _ _
 have V:=acU T at_ Z W (N.below U).c1 (N.below U).c2;have H:decide ((at_:Int)=(Z:Int))=true:=by simp;omega
 rw [H] at V;have v:=ax3 V;have D:=ax3 U;have y:=ax3 I;clear N U I V H z;go_enter func323,ntmps323;go_upto_region 1 with fail
 rw [<-hW];clear hW;go_upto_region 2 with (go_at_call 319;refine v.out.mono ?_;rintro e C ⟨rfl,X⟩)
 have Y:=y.out.below X;obtain⟨h,j,u0,u1⟩:=Y.cells;have x:=ax3 (Y.put .nilFunc .nilFunc);have J:Hid (Below w.heap.size w ((C.setCell ⟨w.heap.size,0,none⟩ .nilFunc).setCell ⟨w.heap.size,1,none⟩ .nilFunc)):=((D.out.trans (X.mono D.out.size)).setCell (axe _) _).setCell (axe _) _;clear Y X;go_wp2;refine bodyPost_ret (aen (B:=w.heap.size) rfl rfl x.out) rfl ?_;exact⟨rfl,J.out⟩
theorem ac0 {T:Nat}(w:World)(V:Calls ZP 323 #[.pointer (some ⟨T,0,none⟩)] w fun e w'=>e=.returned (.tuple #[.agg #[.nilFunc,.nilFunc],.bool false])/\Below w.heap.size w w') :
  Calls ZP 321 #[.pointer (some ⟨T,0,none⟩)] w fun e w'=>e=.returned (.bool false)/\Below w.heap.size w w':=by
 have N:=ax3 V;clear V;go_enter func321,ntmps321;go_upto_region 2 with (go_at_call 323;refine N.out.mono ?_;rintro e U ⟨rfl,Z⟩)
 obtain⟨W,hW⟩:∃W,W=U.alloc (.cells #[Value.nilFunc,Value.nilFunc] 241):=⟨_,rfl⟩;have Y:Below w.heap.size w W:=by rw [hW];exact Z.alloc Z.size _
 have X:=ax3 Y;rw [<-hW];clear hW Z Y;go_wp2;go_ret;exact⟨rfl,X.out⟩
end
section
attribute [local go_sem] aaT aj0
theorem ala {next:Nat}{l:List aam}{r:List (Option (List aam))}:∀j,∃t,apr next (some l :: r) (j+1)=next :: t
 | 0=>⟨[],by simp [apr]⟩
 | j+1=>by
  obtain⟨t,Z⟩:=ala (next:=next) (l:=l) (r:=r) j;rw [apr,Z];exact⟨t++_,rfl⟩
theorem ak3 {next:Nat}{rg:List (Option (List aam))}(h:∀l,rg[0]?≠some (some l)):∀j x,x∈apr next rg j->next<x
 | 0,x,hx=>by cases hx
 | j+1,x,hx=>by
  rw [apr] at hx
  rcases ayd.1 hx with h1 | h1
  · exact ak3 h j x h1
  ·
   revert h1
   cases Z:rg[j]? with
   | none=>intro h1;simp at h1
   | some y=>
    cases y with
    | none=>intro h1;simp at h1
    | some l=>
     intro h1;simp at h1;have:j≠0:=fun e=>h l (by rw [<-e];exact Z);omega
def aoU (rg:List (Option (List aam))):Bool:=match rg with | some _ :: _=>true | _=>false
theorem alO (s:PlM):ago s=(aoU s.rg || (decide (s.rd.ph=5)&&decide (s.next=s.number))):=by
 unfold ago aoU
 cases s.rg with
 | nil=>rfl
 | cons y t=>cases y<;>rfl
theorem ahN {A:PAd}{c:CfM}{s:PlM}{o:Nat->Nat}(w:World)(h:aa8 A c o s w)(hx:s.next<=1000000000)(hR:1<=c.R)(hg:s.rg.length=c.R) :
  Calls ZP 153 #[.pointer (some ⟨A.M,0,none⟩)] w fun e w'=>e=.returned (.bool (ago s))/\Below w.heap.size w w':=by
 have hk:∀V,Below w.heap.size w V->V.cell? ⟨A.M,0,none⟩=some (.pointer (some ⟨A.P,0,none⟩))/\V.cell? ⟨A.P,13,none⟩=some (.pointer (some ⟨A.G,0,none⟩))/\V.cell? ⟨A.P,15,none⟩=some (.slice (some ⟨A.TT,0,none⟩) (c.W+3) A.tc)/\V.cell? ⟨A.TT,0,none⟩=some (.iface (tyT c 0) (.pointer (some ⟨A.R,0,none⟩)))/\V.cell? ⟨A.P,16,none⟩=some (.int .i64 (s.number:Int)):=fun V hV=>by
  have h2:=h.bel hV;exact⟨(h2.tcM).c0,h2.g.ceP 13 _ fun _=>rfl,h2.g.ceP 15 _ fun _=>rfl,h2.task 0 (by omega),h2.g.ceP 16 _ fun _=>rfl⟩
 have a6:=ax3 (avg h);have H:=ax3 (awh h hx);have a7:∀V,Below w.heap.size w V->Calls ZP 319 #[.pointer (some ⟨A.R,0,none⟩)] V fun e w'=>e=.returned (.bool (decide (s.rd.ph=5)))/\Below V.heap.size V w':=fun V hV=>by
  have h2:=(h.bel hV).tcR;have:=acU A.R s.rd.ph 5 V h2.c1 h2.c2;have e:decide ((s.rd.ph:Int)=((5:Nat):Int))=decide (s.rd.ph=5):=by rw [axq];simp;omega
  rw [<-e];exact this
 have J:=ax3 a7;have HK:=ax3 hk;obtain⟨k0,au,_,_,_⟩:=hk w (axf _ _);have ao:=fun (T:Nat)=>aj0 (tyT c 0) (aib c 0);obtain⟨ty,C⟩:∃ty,tyT c 0=ty:=⟨_,rfl⟩;have aw:∀n T w,Sem.run ZP (method (n+1) ty (.pointer (some ⟨T,0,none⟩)) "teasel/pool.over") w=.ok (319,.pointer (some ⟨T,0,none⟩)) w:=fun n T w=>by rw [<-C];exact aj0 _ (aib c 0) n T w
 rw [C] at HK;obtain⟨nx,I⟩:∃x,s.next=x:=⟨_,rfl⟩;obtain⟨nb,j⟩:∃x,s.number=x:=⟨_,rfl⟩;obtain⟨L,hL⟩:∃x,apr s.next s.rg c.R=x:=⟨_,rfl⟩;rw [hL] at H;rw [I] at a6;rw [j] at HK;have a1:aoU s.rg=decide (L.head?=some nx)/\∀x∈L.head?,x=nx∨nx<x:=by
  obtain⟨r,hr⟩:∃r,c.R=r+1:=⟨c.R-1,by omega⟩;rw [<-hL,<-I,hr]
  cases am:s.rg with
  | nil=>rw [am] at hg;simp at hg;omega
  | cons y r2=>
   cases y with
   | some l=>
    obtain⟨t,ht⟩:=ala (next:=s.next) (l:=l) (r:=r2) r;rw [ht];simp [aoU]
   | none=>
    have hn:=ak3 (next:=s.next) (rg:=none :: r2) (fun l=>by simp) (r+1)
    cases hc:apr s.next (none :: r2) (r+1) with
    | nil=>simp [aoU]
    | cons x t=>
     have:=hn x (by rw [hc];simp);refine⟨?_,fun z hz=>?_⟩
     · simp [aoU];omega
     · simp at hz;omega
 have B:ago s=(decide (L.head?=some nx) || (decide (s.rd.ph=5)&&decide (nx=nb))):=by rw [alO,a1.1,I,j]
 obtain⟨B5,ad⟩:∃b,decide (s.rd.ph=5)=b:=⟨_,rfl⟩;rw [ad] at B J;rw [B];have D:=a1.2;clear a1 B ad I j hL h hx hR hg hk a7 ao C;have e5:((nx:Int)==(nb:Int))=decide (nx=nb):=by rw [axq];simp;omega
 have e6:decide ((nx:Int)=(nb:Int))=decide (nx=nb):=by rw [axq];simp;omega
 obtain⟨B6,aq⟩:∃b,decide (nx=nb)=b:=⟨_,rfl⟩;rw [aq] at e5 e6 ⊢
 cases ab:L with
 | nil=>
  subst ab;go_enter func153,ntmps153;go_upto_region 4 with (first | (go_at_call 66;refine a6.out.mono ?_;rintro e w1 ⟨rfl,rfl⟩) | (go_at_call 67;refine H.out.mono ?_;rintro e w2 ⟨v2,rfl,a8,U⟩;obtain⟨a2,c2,rfl,_,X,_⟩:=abl a8;have Z:=ax3 U;obtain⟨j0,ah,ag,jT,af⟩:=HK.out _ U;clear U a8 X))
  cases B5 with
  | false=>
   go_wp2_with (go_at_call 319;refine (J.out _ Z.out).mono ?_;rintro e w3 ⟨rfl,Y⟩;have N:=ax3 Y;clear Y)
   go_ret;exact⟨by simp,Z.out.trans (N.out.mono Z.out.size)⟩
  | true=>
   go_wp2_with (go_at_call 319;refine (J.out _ Z.out).mono ?_;rintro e w3 ⟨rfl,Y⟩;have N:=ax3 Y;obtain⟨i0,ak,aj,iT,ai⟩:=HK.out _ (Z.out.trans (Y.mono Z.out.size));clear Y)
   go_ret;exact⟨by simp,Z.out.trans (N.out.mono Z.out.size)⟩
 | cons x t=>
  subst ab;obtain⟨n,hn⟩:∃n,((x :: t).map fun x:Nat=>(x:Int)).length=n:=⟨_,rfl⟩;have av:0<n:=by rw [<-hn];simp
  have d0:decide ((n:Int) > 0)=true:=by simp;omega
  have d1:decide (0<n)=true:=by simp;omega
  have i0:(0:Int)<(n:Int):=by omega
  have hx:=D x (by simp);have e7:((x:Int)==(nx:Int))=decide (x=nx):=by rw [axq];simp;omega
  have e8:decide ((x:Int)=(nx:Int))=decide (x=nx):=by rw [axq];simp;omega
  have e9:decide ((x :: t).head?=some nx)=decide (x=nx):=by simp
  rw [e9];obtain⟨B7,ac⟩:∃b,decide (x=nx)=b:=⟨_,rfl⟩;rw [ac] at e7 e8 ⊢;have ar:Hid (Calls ZP 67 #[.pointer (some ⟨A.G,0,none⟩)] w fun e w'=>∃a cc,e=.returned (.slice a n cc)/\SlK 1 w' a n (((x :: t).map fun x:Nat=>(x:Int)).map (Value.int .i64))/\Below w.heap.size w w'):=H.out.mono fun e w' ⟨v,h1,h2,h3⟩=>by
   obtain⟨a,cc,rfl,_,h4,_⟩:=abl h2;rw [hn] at h1 h4;exact⟨a,cc,h1,h4,h3⟩
  clear D hx ac hn H;go_enter func153,ntmps153;go_upto_region 4 with (first | (go_at_call 66;refine a6.out.mono ?_;rintro e w1 ⟨rfl,rfl⟩) | (go_at_call 67;refine ar.out.mono ?_;rintro e w2 ⟨a2,c2,rfl,X,U⟩;have Z:=ax3 U;have ae:=ax3 X;obtain⟨j0,ah,ag,jT,af⟩:=HK.out _ U;clear U X))
  have X:=ae.out;obtain⟨bb,oo,rfl,ap,aa⟩:=X.2.resolve_left (by omega);have al:=aa 0 (.int .i64 (x:Int)) (by simp);rw [ayc] at al;clear X ap aa ae
  cases B7 with
  | true=>
   go_wp2;go_ret;exact⟨by simp,Z.out⟩
  | false=>
   cases B5 with
   | false=>
    go_wp2_with (go_at_call 319;refine (J.out _ Z.out).mono ?_;rintro e w3 ⟨rfl,Y⟩;have N:=ax3 Y;clear Y)
    go_ret;exact⟨by simp,Z.out.trans (N.out.mono Z.out.size)⟩
   | true=>
    go_wp2_with (go_at_call 319;refine (J.out _ Z.out).mono ?_;rintro e w3 ⟨rfl,Y⟩;have N:=ax3 Y;obtain⟨i0,ak,aj,iT,ai⟩:=HK.out _ (Z.out.trans (Y.mono Z.out.size));clear Y)
    go_ret;exact⟨by simp,Z.out.trans (N.out.mono Z.out.size)⟩
end
structure OkC (c:CfM):Prop where
 W:1<=c.W/\c.W<=8
 K:1<=c.K/\c.K<=256
 R:1<=c.R/\c.R<=16
 Q:1<=c.Q/\c.Q<=16
 O:1<=c.O/\c.O<=16
 S:1<=c.S/\c.S<=256
 F:c.F<=4611686018427387904
 wm:c.wm<=1000
structure OkM (c:CfM)(s:PlM):Prop where
 wl:s.wk.length=c.W
 gl:s.rg.length=c.R
 frl:s.fr.length<=100000
 frr:∀x∈s.fr,x<s.us.length
 dl:s.ds.length=s.us.length
 num:s.number<=1000000000
 nxt:s.next<=1000000000
 rdl:s.read<=100000000
 tol:s.told<=100000000
 rsl:∀x∈s.rs,x.length<=1000000
 tal:s.rd.tail.length<=c.wm
 ofl:s.off<=1000000
 tkl:s.tk.length<=1000000
 tol2:s.took.length<=1000000
 oul:s.out.length<=1000000
 rph:1<=s.rd.ph/\s.rd.ph<=5
 fah:c.F+s.rd.ahead<=4611686018428387904
 tak:s.rd.ph=1->s.cancelled=false->al8 s.next c.R s.number=true->s.fr≠[]
 buf:(s.rd.ph=2∨s.rd.ph=3)->∃x0,s.us[s.rd.buf]?=some true/\s.ds[s.rd.buf]?=some x0/\x0.length=s.rd.warm+s.rd.own/\s.rd.own<=c.K/\s.rd.warm<=c.wm/\∀x∈x0,0<=x/\x<=255
 shu:s.rd.ph≠5->s.shut=false
 wkp:∀(i:Nat) (x:WkM),s.wk[i]?=some x->1<=x.ph/\x.ph<=4/\x.blk.data.length<=900000/\(x.ph=2->x.hits.length+(c.scan x.blk.start x.blk.warm x.blk.data x.node x.done).2.2.1.length<=1000000)
 wpu:∀(i:Nat) (x:WkM),s.wk[i]?=some x->x.ph=3->s.cancelled=false->s.next<=x.blk.num/\x.blk.num-s.next<c.R/\s.rg[x.blk.num-s.next]?=some none/\x.blk.num<=1000000000
 mgp:1<=s.mph/\s.mph<=3
 mgl:s.mph=2->s.cancelled=false->s.left≠[]
 end_:s.mph≠3->s.ended=false
 emp:1<=s.eph/\s.eph<=2
section
variable {A:PAd}{c:CfM}{s:PlM}{o:Nat->Nat}{w W:World}
theorem aby {P T at_ Z mp:Nat}{sc sd:Value}{X:Bool}{f:Nat->Option Value}{Y U:Nat}{bc N:Array Value}{b:Bool}(w:World)(C:ag3 P T at_ Z mp sc sd w)(B:w.cell? ⟨P,19,none⟩=some (.bool X))(H:at_≠Z)(I:akJ w mp f)(D:X=false->f at_=some (.agg #[.func (.func Y) bc #[],.func (.func U) N #[]]))(J:X=true->sc=.func (.func Y) bc #[]/\sd=.func (.func U) N #[])
  (y:∀args w,(callFunc Y args).run ZP w=.ok (.enter Y args) w) (z:∀V,Below w.heap.size w V->Calls ZP Y bc V fun e w'=>e=.returned (.bool b)/\Below V.heap.size V w') :
  Calls ZP 321 #[.pointer (some ⟨T,0,none⟩)] w fun e w'=>e=.returned (.bool b)/\Below w.heap.size w w':=
 ak7 w (agy w C B H I D J) y z
theorem aco {P T at_ Z mp:Nat}{sc sd:Value}{X:Bool}{f:Nat->Option Value}{N Y:Nat}{bc U:Array Value}{Q:World->Prop}(w:World)(C:ag3 P T at_ Z mp sc sd w)(B:w.cell? ⟨P,19,none⟩=some (.bool X))(H:at_≠Z)(I:akJ w mp f)(D:X=false->f at_=some (.agg #[.func (.func N) bc #[],.func (.func Y) U #[]]))(J:X=true->sc=.func (.func N) bc #[]/\sd=.func (.func Y) U #[])
  (y:∀args w,(callFunc Y args).run ZP w=.ok (.enter Y args) w) (z:∀V,Below w.heap.size w V->Calls ZP Y U V fun e w'=>e=.returned (.tuple #[])/\Q w') :
  Calls ZP 322 #[.pointer (some ⟨T,0,none⟩)] w fun e w'=>e=.returned (.tuple #[])/\Q w':=
 amr w (agy w C B H I D J) y z
theorem afm (w:World):∀V,Below w.heap.size w V->Calls ZP 141 #[] V fun e w'=>e=.returned (.bool true)/\Below V.heap.size V w':=fun V _=>(aiL V).mono fun e w' ⟨h1,h2⟩=>⟨h1,by rw [h2];exact axf _ _⟩
theorem afz:∀args w,(callFunc 141 args).run ZP w=.ok (.enter 141 args) w:=enters_of func141 (by kernel_rfl) rfl
theorem aoC (w:World)(h:aa8 A c o s w)(ok:OkM c s):Calls ZP 321 #[.pointer (some ⟨A.R,0,none⟩)] w fun e w'=>e=.returned (.bool (abt c s))/\Below w.heap.size w w':=by
 unfold abt
 by_cases h5:s.rd.ph=5
 · rw [if_pos h5];exact ac0 w (acu w h.tcR h5)
 ·
  rw [if_neg h5]
  cases Z:s.cancelled with
  | true=>
   rw [if_pos rfl];exact aby w h.tcR h.can h5 h.p0.mR.1 (fun e=>by rw [Z] at e;cases e) (fun _=>⟨rfl,rfl⟩) afz (afm w)
  | false=>
   rw [if_neg (by simp)];have X:=ok.rph
   rcases (by omega:s.rd.ph=1∨s.rd.ph=2∨s.rd.ph=3∨s.rd.ph=4) with e | e | e | e
   · rw [if_pos e];exact aby w h.tcR h.can h5 h.p0.mR.1 (fun _=>by rw [e];rfl) (fun e=>by rw [Z] at e;cases e) (enters_of func139 (by kernel_rfl) rfl) fun V Y=>ahA V (h.bel Y) ok.num ok.nxt
   · rw [if_neg (by omega),if_neg (by omega)];exact aby w h.tcR h.can h5 h.p0.mR.1 (fun _=>by rw [e];rfl) (fun e=>by rw [Z] at e;cases e) afz (afm w)
   · rw [if_neg (by omega),if_pos e];exact aby w h.tcR h.can h5 h.p0.mR.1 (fun _=>by rw [e];rfl) (fun e=>by rw [Z] at e;cases e) (enters_of func143 (by kernel_rfl) rfl) fun V Y=>alD V (h.bel Y)
   · rw [if_neg (by omega),if_neg (by omega)];exact aby w h.tcR h.can h5 h.p0.mR.1 (fun _=>by rw [e];rfl) (fun e=>by rw [Z] at e;cases e) afz (afm w)
theorem anp (w:World)(h:aa8 A c o s w)(ok:OkM c s){i:Nat}{x:WkM}(Z:s.wk[i]?=some x)(Y:i<c.W)(hW:c.W<=8):Calls ZP 321 #[.pointer (some ⟨A.Wk i,0,none⟩)] w fun e w'=>e=.returned (.bool (adh s i))/\Below w.heap.size w w':=by
 have N:adh s i=if x.ph=4 then false else if x.ph=1 then acl s else true:=by unfold adh;rw [Z]
 rw [N]
 by_cases h5:x.ph=4
 · rw [if_pos h5];exact ac0 w (acu w (h.tcW Z (by omega)) h5)
 ·
  rw [if_neg h5]
  cases X:s.cancelled with
  | true=>
   exact aby w (h.tcW Z (by omega)) h.can h5 (h.p0.mW i Y).1 (fun e=>by rw [X] at e;cases e) (fun _=>⟨rfl,rfl⟩) (enters_of func151 (by kernel_rfl) rfl) fun V U=>al7 V (h.bel U) Z (by omega)
  | false=>
   have J:=ok.wkp i x Z
   rcases (by omega:x.ph=1∨x.ph=2∨x.ph=3) with e | e | e
   · rw [if_pos e];exact aby w (h.tcW Z (by omega)) h.can h5 (h.p0.mW i Y).1 (fun _=>by rw [e];rfl) (fun e=>by rw [X] at e;cases e) (enters_of func147 (by kernel_rfl) rfl) fun V U=>aed V (h.bel U) Z (by omega)
   · rw [if_neg (by omega)];exact aby w (h.tcW Z (by omega)) h.can h5 (h.p0.mW i Y).1 (fun _=>by rw [e];rfl) (fun e=>by rw [X] at e;cases e) afz (afm w)
   · rw [if_neg (by omega)];exact aby w (h.tcW Z (by omega)) h.can h5 (h.p0.mW i Y).1 (fun _=>by rw [e];rfl) (fun e=>by rw [X] at e;cases e) afz (afm w)
theorem ao4 (w:World)(h:aa8 A c o s w)(ok:OkM c s)(X:1<=c.R):Calls ZP 321 #[.pointer (some ⟨A.M,0,none⟩)] w fun e w'=>e=.returned (.bool (adi c s))/\Below w.heap.size w w':=by
 unfold adi
 by_cases h5:s.mph=3
 · rw [if_pos h5];exact ac0 w (acu w h.tcM h5)
 ·
  rw [if_neg h5]
  cases Z:s.cancelled with
  | true=>
   rw [if_pos rfl];exact aby w h.tcM h.can h5 h.p0.mM.1 (fun e=>by rw [Z] at e;cases e) (fun _=>⟨rfl,rfl⟩) afz (afm w)
  | false=>
   rw [if_neg (by simp)];have U:=ok.mgp
   rcases (by omega:s.mph=1∨s.mph=2) with e | e
   · rw [if_pos e];exact aby w h.tcM h.can h5 h.p0.mM.1 (fun _=>by rw [e];rfl) (fun e=>by rw [Z] at e;cases e) (enters_of func153 (by kernel_rfl) rfl) fun V Y=>ahN V (h.bel Y) ok.nxt X ok.gl
   · rw [if_neg (by omega)];exact aby w h.tcM h.can h5 h.p0.mM.1 (fun _=>by rw [e];rfl) (fun e=>by rw [Z] at e;cases e) (enters_of func155 (by kernel_rfl) rfl) fun V Y=>al2 V (h.bel Y)
theorem ao9 (w:World)(h:aa8 A c o s w)(ok:OkM c s):Calls ZP 321 #[.pointer (some ⟨A.E,0,none⟩)] w fun e w'=>e=.returned (.bool (afI s))/\Below w.heap.size w w':=by
 unfold afI
 by_cases h5:s.eph=2
 · rw [if_pos h5];exact ac0 w (acu w h.tcE h5)
 ·
  rw [if_neg h5];have X:=ok.emp;have e:s.eph=1:=by omega
  cases Y:s.cancelled with
  | true=>
   exact aby w h.tcE h.can h5 h.p0.mE.1 (fun e=>by rw [Y] at e;cases e) (fun _=>⟨rfl,rfl⟩) (enters_of func158 (by kernel_rfl) rfl) fun V Z=>aeg V (h.bel Z)
  | false=>
   exact aby w h.tcE h.can h5 h.p0.mE.1 (fun _=>by rw [e];rfl) (fun e=>by rw [Y] at e;cases e) (enters_of func158 (by kernel_rfl) rfl) fun V Z=>aeg V (h.bel Z)
theorem ain (w:World)(h:aa8 A c o s w)(Z:OkC c)(ok:OkM c s)(t:Nat)(X:t<c.W+3):Calls ZP 321 #[.pointer (some ⟨adT A c t,0,none⟩)] w fun e w'=>e=.returned (.bool (aaB c s t))/\Below w.heap.size w w':=by
 unfold aaB adT
 by_cases h0:t=0
 · rw [if_pos h0,if_pos h0];exact aoC w h ok
 ·
  rw [if_neg h0,if_neg h0]
  by_cases h1:t<=c.W
  ·
   rw [if_pos h1,if_pos h1];have Y:t-1<s.wk.length:=by have:=ok.wl;omega
   exact anp w h ok (ay4 Y) (by omega) Z.W.2
  ·
   rw [if_neg h1,if_neg h1]
   by_cases h2:t=c.W+1
   · rw [if_pos h2,if_pos h2];exact ao4 w h ok Z.R.1
   · rw [if_neg h2,if_neg h2,if_pos (by omega)];exact ao9 w h ok
theorem ar1 (h:aa3 A c o s w W)(U:OkC c)(ok:OkM c s)(Y:abt c s=true):Calls ZP 322 #[.pointer (some ⟨A.R,0,none⟩)] W fun e w'=>e=.returned (.tuple #[])/\aa3 A c o (stepR c s) w w':=by
 have h0:=h;obtain⟨o1,h1,z1,g1⟩:=h0;have h5:s.rd.ph≠5:=fun e=>by unfold abt at Y;rw [if_pos e] at Y;cases Y
 have hp:=ok.rph;have hK:=U.K;have I:=U.wm;unfold stepR
 cases X:s.cancelled with
 | true=>
  rw [if_pos rfl];exact aco W h1.tcR h1.can h5 h1.p0.mR.1 (fun e=>by rw [X] at e;cases e) (fun _=>⟨rfl,rfl⟩) (enters_of func146 (by kernel_rfl) rfl) fun V Z=>am9 w V (h.bel Z) ok.frl
 | false=>
  rw [if_neg (by simp)]
  rcases (by omega:s.rd.ph=1∨s.rd.ph=2∨s.rd.ph=3∨s.rd.ph=4) with e | e | e | e
  ·
   rw [if_pos e];have ha:al8 s.next c.R s.number=true:=by unfold abt at Y;rw [if_neg h5,X,if_neg (by simp),if_pos e] at Y;exact Y
   have D:=ok.tak e X ha;obtain⟨l,n,v⟩:∃l n,s.fr=l++[n]:=⟨_,_,(ayO D).symm⟩;have H:=ok.tal;exact aco W h1.tcR h1.can h5 h1.p0.mR.1 (fun _=>by rw [e];rfl) (fun e=>by rw [X] at e;cases e) (enters_of func140 (by kernel_rfl) rfl) fun V Z=>amo w V (h.bel Z) n l v ok.frl ok.frr ok.dl (by omega) (by omega)
  ·
   rw [if_neg (by omega),if_pos e];obtain⟨J,B,C,b3,y,j,z⟩:=ok.buf (.inl e);have H:=ok.tal;refine aco W h1.tcR h1.can h5 h1.p0.mR.1 (fun _=>by rw [e];rfl) (fun e=>by rw [X] at e;cases e) (enters_of func142 (by kernel_rfl) rfl) fun V Z=>?_
   by_cases N:s.rs=[]
   · exact ami w V (h.bel Z) N (by omega) (by omega) ok.frl (by have:=ok.tol;omega)
   · exact akR w V (h.bel Z) J N (by omega) I y B C (by omega) ok.tol ok.rsl ok.rdl (by omega)
  ·
   rw [if_neg (by omega),if_neg (by omega),if_pos e];have x:s.q.length<c.Q:=by unfold abt at Y;rw [if_neg h5,X,if_neg (by simp),if_neg (by omega),if_pos e] at Y;exact of_decide_eq_true Y
   obtain⟨J,B,C,b3,y,j,z⟩:=ok.buf (.inr e);exact aco W h1.tcR h1.can h5 h1.p0.mR.1 (fun _=>by rw [e];rfl) (fun e=>by rw [X] at e;cases e) (enters_of func144 (by kernel_rfl) rfl) fun V Z=>anN w V (h.bel Z) J B C (by omega) z x (ok.shu h5) ok.fah ok.num
  · rw [if_neg (by omega),if_neg (by omega),if_neg (by omega)];exact aco W h1.tcR h1.can h5 h1.p0.mR.1 (fun _=>by rw [e];rfl) (fun e=>by rw [X] at e;cases e) (enters_of func145 (by kernel_rfl) rfl) fun V Z=>aep w V (h.bel Z)
theorem aq1 (h:aa3 A c o s w W)(J:OkC c)(ok:OkM c s){i:Nat}{x:WkM}(Z:s.wk[i]?=some x)(N:i<c.W)(U:adh s i=true):Calls ZP 322 #[.pointer (some ⟨A.Wk i,0,none⟩)] W fun e w'=>e=.returned (.tuple #[])/\aa3 A c o (stepW c s i) w w':=by
 have h0:=h;obtain⟨j,h1,y,g1⟩:=h0;have hW:=J.W.2;have h5:x.ph≠4:=fun e=>by unfold adh at U;rw [Z] at U;simp only [e,if_true] at U;cases U
 obtain⟨v,p2,z,B⟩:=ok.wkp i x Z;unfold stepW;rw [afU Z]
 cases X:s.cancelled with
 | true=>
  rw [if_pos rfl];exact aco W (h1.tcW Z (by omega)) h1.can h5 (h1.p0.mW i N).1 (fun e=>by rw [X] at e;cases e) (fun _=>⟨rfl,rfl⟩) (enters_of func152 (by kernel_rfl) rfl) fun V Y=>ama w V (h.bel Y) Z (by omega) ok.frl
 | false=>
  rw [if_neg (by simp)]
  rcases (by omega:x.ph=1∨x.ph=2∨x.ph=3) with e | e | e
  · rw [if_pos e];exact aco W (h1.tcW Z (by omega)) h1.can h5 (h1.p0.mW i N).1 (fun _=>by rw [e];rfl) (fun e=>by rw [X] at e;cases e) (enters_of func148 (by kernel_rfl) rfl) fun V Y=>agH w V (h.bel Y) Z (by omega) e
  · rw [if_neg (by omega),if_pos e];exact aco W (h1.tcW Z (by omega)) h1.can h5 (h1.p0.mW i N).1 (fun _=>by rw [e];rfl) (fun e=>by rw [X] at e;cases e) (enters_of func149 (by kernel_rfl) rfl) fun V Y=>amc w V (h.bel Y) Z (by omega) e z (B e)
  · rw [if_neg (by omega),if_neg (by omega)];obtain⟨C,D,H,I⟩:=ok.wpu i x Z e X;exact aco W (h1.tcW Z (by omega)) h1.can h5 (h1.p0.mW i N).1 (fun _=>by rw [e];rfl) (fun e=>by rw [X] at e;cases e) (enters_of func150 (by kernel_rfl) rfl) fun V Y=>aoW w V (h.bel Y) Z (by omega) e ok.frl I ok.nxt C D H
theorem aqY (h:aa3 A c o s w W)(U:OkC c)(ok:OkM c s)(Z:adi c s=true):Calls ZP 322 #[.pointer (some ⟨A.M,0,none⟩)] W fun e w'=>e=.returned (.tuple #[])/\aa3 A c o (stepMg s) w w':=by
 have h0:=h;obtain⟨D,h1,H,z⟩:=h0;have h5:s.mph≠3:=fun e=>by unfold adi at Z;rw [if_pos e] at Z;cases Z
 have C:=ok.mgp;have B:=U.R;unfold stepMg
 cases X:s.cancelled with
 | true=>
  rw [if_pos rfl];exact aco W h1.tcM h1.can h5 h1.p0.mM.1 (fun e=>by rw [X] at e;cases e) (fun _=>⟨rfl,rfl⟩) (enters_of func157 (by kernel_rfl) rfl) fun V Y=>ajM w V (h.bel Y) ok.nxt
 | false=>
  rw [if_neg (by simp)]
  rcases (by omega:s.mph=1∨s.mph=2) with e | e
  ·
   rw [if_pos e];refine aco W h1.tcM h1.can h5 h1.p0.mM.1 (fun _=>by rw [e];rfl) (fun e=>by rw [X] at e;cases e) (enters_of func154 (by kernel_rfl) rfl) fun V Y=>?_
   cases N:s.rg with
   | nil=>have:=ok.gl;rw [N] at this;simp at this;omega
   | cons y r=>
    cases y with
    | none=>exact aiU w V (h.bel Y) ok.nxt r N
    | some l=>exact ajz w V (h.bel Y) ok.nxt l r N
  ·
   rw [if_neg (by omega)];have I:s.out.length<c.O:=by unfold adi at Z;rw [if_neg h5,X,if_neg (by simp),if_neg (by omega)] at Z;exact of_decide_eq_true Z
   refine aco W h1.tcM h1.can h5 h1.p0.mM.1 (fun _=>by rw [e];rfl) (fun e=>by rw [X] at e;cases e) (enters_of func156 (by kernel_rfl) rfl) fun V Y=>?_
   cases J:s.left with
   | nil=>exact absurd J (ok.mgl e X)
   | cons q t=>exact akp w V (h.bel Y) q t J I (ok.end_ h5)
theorem arc (h:aa3 A c o s w W)(N:OkC c)(ok:OkM c s)(Y:afI s=true):Calls ZP 322 #[.pointer (some ⟨A.E,0,none⟩)] W fun e w'=>e=.returned (.tuple #[])/\aa3 A c o (stepE c s) w w':=by
 have h0:=h;obtain⟨I,h1,J,D⟩:=h0;have h5:s.eph≠2:=fun e=>by unfold afI at Y;rw [if_pos e] at Y;cases Y
 have H:=ok.emp;have e:s.eph=1:=by omega
 unfold stepE
 cases U:s.cancelled with
 | true=>
  rw [if_pos rfl];exact aco W h1.tcE h1.can h5 h1.p0.mE.1 (fun e=>by rw [U] at e;cases e) (fun _=>⟨rfl,rfl⟩) (enters_of func160 (by kernel_rfl) rfl) fun V Z=>ak6 w V (h.bel Z)
 | false=>
  rw [if_neg (by simp)];refine aco W h1.tcE h1.can h5 h1.p0.mE.1 (fun _=>by rw [e];rfl) (fun e=>by rw [U] at e;cases e) (enters_of func159 (by kernel_rfl) rfl) fun V Z=>?_
  cases X:s.out with
  | nil=>exact ajQ w V (h.bel Z) X
  | cons q t=>exact aiQ w V (h.bel Z) q t X ok.ofl ok.tkl ok.tol2 ok.oul
theorem apQ (h:aa3 A c o s w W)(Y:OkC c)(ok:OkM c s)(t:Nat)(V:t<c.W+3)(Z:aaB c s t=true):Calls ZP 322 #[.pointer (some ⟨adT A c t,0,none⟩)] W fun e w'=>e=.returned (.tuple #[])/\aa3 A c o (abi c s t) w w':=by
 unfold aaB at Z;unfold abi adT
 by_cases h0:t=0
 · rw [if_pos h0] at Z ⊢;rw [if_pos h0];exact ar1 h Y ok Z
 ·
  rw [if_neg h0] at Z ⊢;rw [if_neg h0]
  by_cases h1:t<=c.W
  ·
   rw [if_pos h1] at Z ⊢;rw [if_pos h1];have X:t-1<s.wk.length:=by have:=ok.wl;omega
   exact aq1 h Y ok (ay4 X) (by omega) Z
  ·
   rw [if_neg h1] at Z ⊢;rw [if_neg h1]
   by_cases h2:t=c.W+1
   · rw [if_pos h2] at Z ⊢;rw [if_pos h2];exact aqY h Y ok Z
   · rw [if_neg h2] at Z ⊢;rw [if_neg h2];rw [if_pos (by omega)] at Z;exact arc h Y ok Z
end
theorem apX:(ZP.info? 3).map (fun i=>(i.zero,i.size,i.bytes))=some (some (.int .i64 0),1,8):=by kernel_rfl
def enF (c:CfM)(s:PlM)(i:Nat):List Int:=((List.range i).filter (aaB c s)).map fun x:Nat=>(x:Int)
theorem ass (c:CfM)(s:PlM)(i:Nat):enF c s (i+1)=enF c s i++(if aaB c s i then [(i:Int)] else []):=by
 unfold enF;rw [ayt,List.filter_append,ay7];congr 1
 cases h:aaB c s i<;>simp [h]
theorem apw (c:CfM)(s:PlM)(i:Nat):(enF c s i).length<=i:=by
 unfold enF;rw [ayq];exact awT (List.length_filter_le _ _) (by rw [List.length_range];exact axe _)
theorem aiE {A:PAd}{c:CfM}{s:PlM}{o:Nat->Nat}(w:World)(h:aa8 A c o s w)(I:OkC c)(ok:OkM c s) :
  Calls ZP 29 #[.pointer (some ⟨A.P,0,none⟩)] w fun e w'=>∃v,e=.returned v/\amY w' w.heap.size v (enF c s (c.W+3))/\Below w.heap.size w w':=by
 obtain⟨N,hN⟩:∃N,c.W+3=N:=⟨_,rfl⟩;obtain⟨i0,hi,aa,a8,a7⟩:=info_parts apX;have ag:=h.g.ceP 15 (.slice (some ⟨A.TT,0,none⟩) N A.tc) fun _=>by rw [<-hN];rfl
 have hT:∀V,Below w.heap.size w V->∀t,t<N->V.cell? ⟨A.TT,t,none⟩=some (.iface (tyT c t) (.pointer (some ⟨adT A c t,0,none⟩)))/\Calls ZP 321 #[.pointer (some ⟨adT A c t,0,none⟩)] V fun e w'=>e=.returned (.bool (aaB c s t))/\Below V.heap.size V w':=fun V hV t ht=>⟨(h.bel hV).task t (by omega),ain V (h.bel hV) I ok t (by omega)⟩;have HT:=ax3 hT;have ak:N<=11:=by have:=I.W;omega
 have al:=ax3 hN;rw [hN];clear h ok I hT hN;go_enter func29,ntmps29;go_upto_region 5 with fail
 go_loopw [3,13] (fun s3 a6 wr=>∃(i:Nat) (v3:Value),i<=N/\v3=s3/\a6=.int .i64 i/\amY wr w.heap.size v3 (enF c s i)/\RowKit.Below w.heap.size w wr) (fun _ s _=>N-(intOf s).toNat)
 case atStart=>exact⟨0,_,axh _,rfl,rfl,ayy _ _ _ _,ayZ _ _⟩
 case round=>
  obtain⟨i,v3,ai,rfl,rfl,B,U⟩:=hrel
  by_cases ad:i<N
  ·
   have hd:decide ((i:Int)<N)=true:=by simp;omega
   obtain⟨x,X⟩:=HT.out wr U i ad;obtain⟨ty,H⟩:∃ty,tyT c i=ty:=⟨_,rfl⟩;have ah:∀n T w,Sem.run ZP (method (n+1) ty (.pointer (some ⟨T,0,none⟩)) "teasel/pool.ready") w=.ok (321,.pointer (some ⟨T,0,none⟩)) w:=fun n T w=>by rw [<-H];exact amF _ (aib c i) n T w
   obtain⟨T,C⟩:∃T,adT A c i=T:=⟨_,rfl⟩;rw [H,C] at x;rw [C] at X;have J:=ax3 (ass c s i);have a2:=ax3 (apw c s i);obtain⟨b,hb⟩:∃b,aaB c s i=b:=⟨_,rfl⟩;rw [hb] at X J;have HQ:=ax3 X;have af:=ax3 B;have i1:(0:Int)<=(i:Int):=by omega
   have i2:(i:Int)<(N:Int):=by omega
   clear X B hb C H;go_upto_region 7 with fail
   go_wp2_with fail
   refine HQ.out.mono ?_;rintro e w2 ⟨rfl,a1⟩;have y:=U.trans (a1.mono U.size);have ab:=y.size;have Z:=aag af.out a1;clear x HQ
   cases b with
   | true=>
    obtain⟨L,hL⟩:∃L,enF c s i=L:=⟨_,rfl⟩;rw [hL] at Z J a2;have ac:=a2.out
    go_wp2_with (at_builtin;refine wpList_append_own _ rfl _ _ 30 rfl w.heap.size 3 i0 (.int .i64 0) 1 8 underlying30 hi aa a8 a7 rfl (by decide) _ _ _ rfl (Z.alloc _) ⟨w2.heap.size,0,none⟩ 1 1 [.int .i64 i] rfl rfl (ab7 _ _ (by simp)) (by simp [Value.oneCell']) (by unfold maxLen;omega) (by omega) (by simp;omega) ?_;intro v' w9 Y D aj)
    have ae:=(y.alloc ab (.cells #[.int .i64 (i:Int)] 3)).grown D (by simp;omega) (fun j hj=>(acx Z j hj).1);have z:amY w9 w.heap.size v' (enF c s (i+1)):=by
     rw [J.out];unfold amY;simp only [if_true,List.length_append,ay7];exact Y
    clear Z Y ac
    go_roundw
    case rel=>exact⟨i+1,_,by omega,rfl,by go_num,z,ae⟩
    case measure=>simp [intOf];omega
   | false=>
    have z:amY w2 w.heap.size v3 (enF c s (i+1)):=by
     have e:=J.out;simp only [Bool.false_eq_true,if_false,ayj] at e;rw [e];exact Z
    clear Z;go_wp2
    go_roundw
    case rel=>exact⟨i+1,_,by omega,rfl,by go_num,z,y⟩
    case measure=>simp [intOf];omega
  ·
   obtain rfl:i=N:=by omega
   have hd:decide ((i:Int)<i)=false:=by simp
   go_wp2;go_ret;exact⟨_,rfl,B,U⟩
theorem ao0 {A:PAd}{c:CfM}{s:PlM}{o:Nat->Nat}(w W:World)(h:aa3 A c o s w W)(Y:OkC c)(ok:OkM c s)(t:Nat)(H:t<c.W+3)(B:aaB c s t=true) :
  Calls ZP 44 #[.pointer (some ⟨A.P,0,none⟩),.int .i64 (t:Int)] W fun e w'=>e=.returned (.bool true)/\aa3 A c o (abi c s t) w w':=by
 obtain⟨N,x⟩:∃N,c.W+3=N:=⟨_,rfl⟩;have D:∀V,Below W.heap.size W V->V.cell? ⟨A.P,15,none⟩=some (.slice (some ⟨A.TT,0,none⟩) N A.tc)/\V.cell? ⟨A.TT,t,none⟩=some (.iface (tyT c t) (.pointer (some ⟨adT A c t,0,none⟩))):=fun V z=>by
  have J:=h.bel z;exact⟨J.ceP 15 _ fun _=>by rw [<-x];rfl,J.low fun o1 h1=>h1.task t H⟩
 have j:Hid (Calls ZP 321 #[.pointer (some ⟨adT A c t,0,none⟩)] W fun e w'=>e=.returned (.bool true)/\Below W.heap.size W w'):=h.low fun o1 h1=>by
  have:=ain W h1 Y ok t H
  rwa [B] at this
 have v:Hid (∀V,Below W.heap.size W V->Calls ZP 322 #[.pointer (some ⟨adT A c t,0,none⟩)] V fun e w'=>e=.returned (.tuple #[])/\aa3 A c o (abi c s t) w w'):=fun V z=>apQ (h.bel z) Y ok t H B;obtain⟨I,Z⟩:∃I,tyT c t=I:=⟨_,rfl⟩;have a2:∀n T w,Sem.run ZP (method (n+1) I (.pointer (some ⟨T,0,none⟩)) "teasel/pool.ready") w=.ok (321,.pointer (some ⟨T,0,none⟩)) w:=fun n T w=>by rw [<-Z];exact amF _ (aib c t) n T w
 have a6:∀n T w,Sem.run ZP (method (n+1) I (.pointer (some ⟨T,0,none⟩)) "teasel/pool.step") w=.ok (322,.pointer (some ⟨T,0,none⟩)) w:=fun n T w=>by rw [<-Z];exact auy _ (aib c t) n T w
 obtain⟨T,U⟩:∃T,adT A c t=T:=⟨_,rfl⟩;rw [U] at j v;rw [Z,U] at D;have HK:=ax3 D;obtain⟨C,kt⟩:=D W (axf _ _);have d0:decide ((t:Int)<0)=false:=by simp
 have d1:decide ((t:Int)>=(N:Int))=false:=by simp;omega
 have d2:decide ((N:Int)<=(t:Int))=false:=by simp;omega
 have d3:decide (N<=t)=false:=by simp;omega
 have i1:(0:Int)<=(t:Int):=by omega
 have i2:(t:Int)<(N:Int):=by omega
 clear h Y ok H B x D U Z;go_enter func44,ntmps44;go_upto_region 3 with (go_at_call 321;refine j.out.mono ?_;rintro e w1 ⟨rfl,X⟩;have y:=ax3 (v.out _ X);obtain⟨a1,jt⟩:=HK.out _ X;clear X)
 clear C kt
 go_wp2_with (go_at_call 322;refine y.out.mono ?_;rintro e w2 ⟨rfl,J⟩;have HG:=ax3 J;clear J)
 go_ret;exact⟨rfl,HG.out⟩
theorem an1 (n:Int){k:Nat}(h:0<k):ag7 n k<k:=by
 unfold ag7;have h1:=Int.tmod_lt_of_pos (n.tmod k+k) (show (0:Int)<(k:Int) by omega);have h2:=Int.lt_tmod_of_pos n (show (0:Int)<(k:Int) by omega);have h3:=Int.tmod_nonneg (a:=n.tmod k+k) (k:Int) (by omega);omega
theorem ara (c:CfM)(s:PlM):enF c s (c.W+3)=(abB c s).map fun x:Nat=>(x:Int):=rfl
theorem anu {c:CfM}{s:PlM}{n:Int}(h:aeC c s n=none):abB c s=[]:=by
 unfold aeC at h;rw [List.getElem?_eq_none_iff] at h
 cases Z:abB c s with
 | nil=>rfl
 | cons y t=>
  rw [Z] at h;have:=an1 n (k:=(y :: t).length) (by simp);omega
theorem adO {c:CfM}{s:PlM}{n:Int}{t:Nat}(h:aeC c s n=some t):t<c.W+3/\aaB c s t=true:=by
 unfold aeC at h;have:=ay9 h;unfold abB at this;have h2:=List.mem_filter.1 this;exact⟨List.mem_range.1 h2.1,h2.2⟩
theorem anz {A:PAd}{c:CfM}{s:PlM}{o:Nat->Nat}(w W:World)(h:aa3 A c o s w W)(Z:OkC c)(ok:OkM c s)(n:Int) :
  Calls ZP 17 #[.pointer (some ⟨A.P,0,none⟩),.int .i64 n] W fun e w'=>e=.returned (.tuple (match aeC c s n with | none=>#[.int .i64 0,.bool false] | some t=>#[.int .i64 (t:Int),.bool true]))/\aa3 A c o (act c s n) w w':=by
 obtain⟨k,C⟩:∃k,(abB c s).length=k:=⟨_,rfl⟩;have Y:(enF c s (c.W+3)).length=k:=by rw [ara,ayq];exact C
 have D:k<=1000000:=by have:=apw c s (c.W+3);have:=Z.W;omega
 have HE:Hid (Calls ZP 29 #[.pointer (some ⟨A.P,0,none⟩)] W fun e w'=>∃a X,e=.returned (.slice a k X)/\Sl1 (Value.int .i64) w' a k (enF c s (c.W+3))/\aa3 A c o s w w'):=h.low fun o1 h1=>(aiE W h1 Z ok).mono fun e w' ⟨v,h2,h3,h4⟩=>by
  obtain⟨a,X,rfl,_,U⟩:=aaC (enc:=Value.int .i64) h3;rw [Y] at h2 U;exact⟨a,X,h2,U,h.bel h4⟩
 have a1:=ax3 (And.intro Z ok);unfold act
 cases J:aeC c s n with
 | none=>
  have hz:=anu J;have I:k=0:=by rw [<-C,hz];rfl
  subst I;clear h Z ok C Y J hz D;go_enter func17,ntmps17
  go_wp2_with (first | (go_at_call 29;refine HE.out.mono ?_;rintro e w1 ⟨a,X,rfl,U,N⟩;have j:=ax3 N;have z:=ax3 U;clear N U) | (go_at_call 43;refine (ai1 n a 0 X (enF c s (c.W+3)) _ z.out (by omega)).mono ?_;rintro e w2 ⟨rfl,rfl⟩))
  go_ret2;exact⟨rfl,j.out⟩
 | some t=>
  obtain⟨ht,hr⟩:=adO J;have I:k≠0:=by
   intro e;unfold aeC at J;have:=(awR.1 J).1;omega
  have H:(enF c s (c.W+3)).getD (ag7 n k) 0=(t:Int):=by
   unfold aeC at J;rw [C] at J;rw [ara,ay5,axa,J]
   rfl
  have y:Hid (∀(a:Option Addr) (X:Nat) V,Sl1 (Value.int .i64) V a k (enF c s (c.W+3))->Calls ZP 43 #[.int .i64 n,.slice a k X] V fun e w'=>e=.returned (.tuple #[.int .i64 (t:Int),.bool true])/\w'=V):=fun a X V U=>by
   have:=ai1 n a k X (enF c s (c.W+3)) V U D;rw [if_neg I,H] at this;exact this
  have B:Hid (∀V,aa3 A c o s w V->Calls ZP 44 #[.pointer (some ⟨A.P,0,none⟩),.int .i64 (t:Int)] V fun e w'=>e=.returned (.bool true)/\aa3 A c o (abi c s t) w w'):=fun V N=>ao0 w V N Z ok t ht hr;clear h Z ok C Y J D I H ht hr;go_enter func17,ntmps17;go_upto_region 4 with (first | (go_at_call 29;refine HE.out.mono ?_;rintro e w1 ⟨a,X,rfl,U,N⟩;have j:=ax3 N;have z:=ax3 U;clear N U) | (go_at_call 43;refine (y.out a X _ z.out).mono ?_;rintro e w2 ⟨rfl,rfl⟩))
  go_wp2_with (go_at_call 44;refine (B.out _ j.out).mono ?_;rintro e w2 ⟨rfl,N⟩;have x:=ax3 N;clear N)
  go_ret2;exact⟨rfl,x.out⟩
def ahh (c:CfM)(s:PlM)(t:Nat):Bool:=if t=0 then decide (s.rd.ph=5) else if t<=c.W then decide (phW s (t-1)=4) else if t=c.W+1 then decide (s.mph=3) else decide (s.eph=2)
theorem apf {c:CfM}{s:PlM}(U:s.wk.length=c.W):ac1 s=true↔∀t,t<c.W+3->ahh c s t=true:=by
 unfold ac1;simp only [ayz,decide_eq_true_eq,List.all_eq_true]
 constructor
 ·
  rintro ⟨⟨⟨h1,h2⟩,h3⟩,h4⟩ t V;unfold ahh
  split
  · simpa using h1
  ·
   split
   ·
    have Z:t-1<s.wk.length:=by omega
    have:=h2 _ (List.getElem_mem Z);rw [afU (ay4 Z)]
    simpa using this
   ·
    split
    · simpa using h3
    · simpa using h4
 ·
  intro h;refine⟨⟨⟨?_,fun x X=>?_⟩,?_⟩,?_⟩
  · have:=h 0 (by omega);simpa [ahh] using this
  · obtain⟨i,Y⟩:=List.mem_iff_getElem?.1 X;have Z:i<s.wk.length:=(awR.1 Y).1;have:=h (i+1) (by omega);unfold ahh at this;rw [if_neg (by omega),if_pos (by omega),ayR,afU Y] at this;exact of_decide_eq_true this
  · have:=h (c.W+1) (by omega);unfold ahh at this;rw [if_neg (by omega),if_neg (by omega),if_pos rfl] at this;exact of_decide_eq_true this
  · have:=h (c.W+2) (by omega);unfold ahh at this;rw [if_neg (by omega),if_neg (by omega),if_neg (by omega)] at this;exact of_decide_eq_true this
theorem aqG {A:PAd}{c:CfM}{s:PlM}{o:Nat->Nat}(w:World)(h:aa8 A c o s w)(Y:OkC c)(U:s.wk.length=c.W)(t:Nat)(V:t<c.W+3):Calls ZP 319 #[.pointer (some ⟨adT A c t,0,none⟩)] w fun e w'=>e=.returned (.bool (ahh c s t))/\Below w.heap.size w w':=by
 have go:∀{T a l mp:Nat} {sc sd:Value},ag3 A.P T a l mp sc sd w->Calls ZP 319 #[.pointer (some ⟨T,0,none⟩)] w fun e w'=>e=.returned (.bool (decide (a=l)))/\Below w.heap.size w w':=fun {T a l mp sc sd} X=>by
  have:=acU T a l w X.c1 X.c2;have e:decide ((a:Int)=(l:Int))=decide (a=l):=by rw [axq];simp;omega
  rwa [e] at this
 unfold ahh adT
 split
 · exact go h.tcR
 ·
  split
  ·
   have Z:t-1<s.wk.length:=by omega
   rw [afU (ay4 Z)];exact go (h.tcW (ay4 Z) (by have:=Y.W;omega))
  ·
   split
   · exact go h.tcM
   · exact go h.tcE
theorem amb (Y:TypeId)(Z:ai4 Y)(T:Nat)(b:Bool)(w:World)(h:Calls ZP 319 #[.pointer (some ⟨T,0,none⟩)] w fun e w'=>e=.returned (.bool b)/\Below w.heap.size w w') :
  Calls ZP 58 #[.iface Y (.pointer (some ⟨T,0,none⟩))] w fun e w'=>e=.returned (.bool (!b))/\Below w.heap.size w w':=by
 have U:=ax3 h;have V:∀n T w,Sem.run ZP (method (n+1) Y (.pointer (some ⟨T,0,none⟩)) "teasel/pool.over") w=.ok (319,.pointer (some ⟨T,0,none⟩)) w:=fun n T w=>aj0 _ Z n T w;clear h Z;go_enter func58,ntmps58
 go_wp2_with (go_at_call 319;refine U.out.mono ?_;rintro e J ⟨rfl,X⟩;have N:=ax3 X;clear X)
 go_ret;exact⟨rfl,N.out⟩
theorem ak8 {A:PAd}{c:CfM}{s:PlM}{o:Nat->Nat}(w:World)(h:aa8 A c o s w)(U:OkC c)(y:s.wk.length=c.W) :
  Calls ZP 107 #[.slice (some ⟨A.TT,0,none⟩) (c.W+3) A.tc,.func (.func 58) #[] #[]] w fun e w'=>∃r:Int,e=.returned (.int .i64 r)/\decide (0<=r)=!ac1 s/\Below w.heap.size w w':=by
 obtain⟨N,j⟩:∃N,c.W+3=N:=⟨_,rfl⟩;have hT:∀V,Below w.heap.size w V->∀t,t<N->V.cell? ⟨A.TT,t,none⟩=some (.iface (tyT c t) (.pointer (some ⟨adT A c t,0,none⟩)))/\Calls ZP 58 #[.iface (tyT c t) (.pointer (some ⟨adT A c t,0,none⟩))] V fun e w'=>e=.returned (.bool (!ahh c s t))/\Below V.heap.size V w':=fun V hV t ht=>⟨(h.bel hV).task t (by omega),amb _ (aib c t) _ _ V (aqG V (h.bel hV) U y t (by omega))⟩;have HT:=ax3 hT;have a6:N<=11:=by have:=U.W;omega
 have H:ac1 s=true↔∀t,t<N->ahh c s t=true:=by rw [<-j];exact apf y
 have z:=ax3 H;have eg:=enters_of func58 (by kernel_rfl) rfl;rw [j];clear h U hT j H y;go_enter func107,ntmps107;go_upto_region 2 with fail
 go_loopw [8] (fun s8 wr=>∃(i:Nat),i<=N/\s8=.int .i64 i/\(∀t,t<i->ahh c s t=true)/\RowKit.Below w.heap.size w wr) (fun s _=>N-(intOf s).toNat)
 case atStart=>exact⟨0,axh _,rfl,fun t ht=>by omega,ayZ _ _⟩
 case round=>
  obtain⟨i,a2,rfl,Z,X⟩:=hrel
  by_cases D:i<N
  ·
   have hd:decide ((i:Int)<N)=true:=by simp;omega
   obtain⟨I,Y⟩:=HT.out wr X i D;have HA:=ax3 Z;have a1:=ax3 D;obtain⟨ty,J⟩:∃ty,tyT c i=ty:=⟨_,rfl⟩;obtain⟨T,C⟩:∃T,adT A c i=T:=⟨_,rfl⟩;rw [J,C] at I Y;obtain⟨b,v⟩:∃b,ahh c s i=b:=⟨_,rfl⟩;rw [v] at Y;have HQ:=ax3 Y;have HB:=ax3 v;have i1:(0:Int)<=(i:Int):=by omega
   have i2:(i:Int)<(N:Int):=by omega
   clear Y v C J Z;go_upto_region 4 with fail
   go_wp2_with fail
   refine HQ.out.mono ?_;rintro e w2 ⟨rfl,x⟩;have B:=X.trans (x.mono X.size);clear I HQ
   cases b with
   | false=>
    go_wp2;go_ret;refine⟨(i:Int),rfl,?_,B⟩;have:ac1 s=false:=by
     cases ho:ac1 s with
     | false=>rfl
     | true=>have:=z.out.1 ho i a1.out;rw [HB.out] at this;cases this
    rw [this];simp
   | true=>
    go_wp2
    go_roundw
    case rel=>exact⟨i+1,by omega,by go_num,fun t ht=>by
     by_cases e:t=i
     · rw [e];exact HB.out
     · exact HA.out t (by omega),B⟩
    case measure=>simp [intOf];omega
  ·
   obtain rfl:i=N:=by omega
   have hd:decide ((i:Int)<i)=false:=by simp
   have HA:=ax3 Z;clear Z;go_wp2;go_ret;refine⟨-1,rfl,?_,X⟩;rw [z.out.2 HA.out]
   rfl
theorem ahH {A:PAd}{c:CfM}{s:PlM}{o:Nat->Nat}(w:World)(h:aa8 A c o s w)(Y:OkC c)(U:s.wk.length=c.W) :
  Calls ZP 59 #[.slice (some ⟨A.TT,0,none⟩) (c.W+3) A.tc,.func (.func 58) #[] #[]] w fun e w'=>e=.returned (.bool (!ac1 s))/\Below w.heap.size w w':=by
 have J:=ax3 (ak8 w h Y U);obtain⟨b,Z⟩:∃b,ac1 s=b:=⟨_,rfl⟩;obtain⟨N,X⟩:∃N,c.W+3=N:=⟨_,rfl⟩;rw [Z,X] at J;rw [Z,X];clear h Y U Z X;go_enter func59,ntmps59
 go_wp2_with (go_at_call 107;refine J.out.mono ?_;rintro e D ⟨r,rfl,V,Z⟩;have H:=ax3 Z;have I:=ax3 V;clear Z V)
 go_ret;refine⟨?_,H.out⟩;rw [<-I.out];rfl
theorem aiq {A:PAd}{c:CfM}{s:PlM}{o:Nat->Nat}(w:World)(h:aa8 A c o s w)(Y:OkC c)(U:s.wk.length=c.W) :
  Calls ZP 16 #[.pointer (some ⟨A.P,0,none⟩)] w fun e w'=>e=.returned (.bool (ac1 s))/\Below w.heap.size w w':=by
 have J:=ax3 (ahH w h Y U);have X:=h.g.ceP 15 (.slice (some ⟨A.TT,0,none⟩) (c.W+3) A.tc) fun _=>rfl;obtain⟨b,Z⟩:∃b,ac1 s=b:=⟨_,rfl⟩;obtain⟨N,V⟩:∃N,c.W+3=N:=⟨_,rfl⟩;rw [Z,V] at J;rw [V] at X;rw [Z];clear h Y U Z V;go_enter func16,ntmps16
 go_wp2_with (go_at_call 59;refine J.out.mono ?_;rintro e H ⟨rfl,Z⟩;have I:=ax3 Z;clear Z)
 go_ret;refine⟨?_,I.out⟩;simp
theorem akY {A:PAd}{c:CfM}{s:PlM}{o:Nat->Nat}(w W:World)(h:aa3 A c o s w W)(Z:OkC c)(J:s.wk.length=c.W) :
  Calls ZP 21 #[.pointer (some ⟨A.P,0,none⟩)] W fun e w'=>e=.returned (.bool (!(s.cancelled || ac1 s)))/\aa3 A c o (aaE s) w w':=by
 have V:=h.ceP 19 (.bool s.cancelled) fun _=>rfl;have I:Hid (Calls ZP 16 #[.pointer (some ⟨A.P,0,none⟩)] W fun e w'=>e=.returned (.bool (ac1 s))/\aa3 A c o s w w'):=h.low fun y h1=>(aiq W h1 Z J).mono fun e w' ⟨h2,h3⟩=>⟨h2,h.bel h3⟩;have N:=ax3 h
 cases Y:s.cancelled with
 | true=>
  rw [Y] at V;have X:aaE s=s:=by unfold aaE;rw [Y];rfl
  rw [X];clear h J Z Y X;go_enter func21,ntmps21;go_wp2;go_ret;exact⟨by simp,N.out⟩
 | false=>
  rw [Y] at V
  cases ho:ac1 s with
  | true=>
   have X:aaE s=s:=by unfold aaE;rw [Y,ho];rfl
   rw [X];rw [ho] at I;clear h J Z Y X ho N;go_enter func21,ntmps21
   go_wp2_with (go_at_call 16;refine I.out.mono ?_;rintro e D ⟨rfl,U⟩;have N:=ax3 U;clear U)
   go_ret;exact⟨by simp,N.out⟩
  | false=>
   have X:aaE s={ s with cancelled:=true }:=by unfold aaE;rw [Y,ho];rfl
   rw [X];rw [ho] at I;have z:=ax3 Y;clear h J Z X ho N Y;go_enter func21,ntmps21;go_upto_region 3 with (go_at_call 16;refine I.out.mono ?_;rintro e D ⟨rfl,U⟩)
   have B:=U.ceP 19 (.bool s.cancelled) fun _=>rfl;have C:=U.frP 19;have H:=ax3 (U.setP 19 (.bool true) { s with cancelled:=true } (fun _=>rfl) rfl (aar.congr 1));clear U V;go_wp2;go_ret;exact⟨by simp,H.out⟩
def muW (x:WkM):Nat:=if x.ph=4 then 0 else if x.ph=1 then 1 else 2
def muM (s:PlM):Nat:=(if s.rd.ph=5 then 0 else 1)+(s.wk.map muW).sum+s.q.length+(if s.mph=3 then 0 else 1)+(if s.eph=2 then 0 else 1)+(if s.out=[] then 0 else 1)
section
variable {c:CfM}{s t:PlM}{i:Nat}{x:WkM}
theorem awg {l:List WkM}(h:l[i]?=some x)(f:WkM->WkM):((l.modify i f).map muW).sum+muW x=(l.map muW).sum+muW (f x):=by
 rw [atN h f];have e:=congrArg (fun l=>(List.map muW l).sum) (atC h)
 try dsimp only at e
 rw [e];simp only [ay7,ax0,List.sum_append,List.sum_cons];omega
theorem avU (x:WkM):muW x<=2:=by
 unfold muW
 split
 · omega
 · split<;>omega
theorem aj8 {s t:PlM}(h1:t.rd=s.rd)(h2:t.mph=s.mph)(h3:t.eph=s.eph)(h4:t.out=s.out):muM t+((s.wk.map muW).sum+s.q.length)=muM s+((t.wk.map muW).sum+t.q.length):=by
 unfold muM;rw [h1,h2,h3,h4];omega
theorem avW (h:ae9 c s):muM s<=2*c.W+c.Q+4:=by
 have h1:∀l:List WkM,(l.map muW).sum<=2*l.length:=fun l=>by
  induction l with
  | nil=>exact axe _
  | cons y l ih=>have:=avU y;simp only [ax0,List.sum_cons,axU];omega
 have h2:=h1 s.wk;have h3:=h.wl;have h4:=h.ql;unfold muM;rw [h3] at h2;have V:(if s.rd.ph=5 then 0 else 1)<=1:=by split<;>omega
 have X:(if s.mph=3 then 0 else 1)<=1:=by split<;>omega
 have Y:(if s.eph=2 then 0 else 1)<=1:=by split<;>omega
 have Z:(if s.out=[] then 0 else 1)<=1:=by split<;>omega
 omega
theorem at7 (Z:abt c s=true):muM (stopR s)+1<=muM s:=by
 have h5:s.rd.ph≠5:=fun e=>by unfold abt at Z;rw [if_pos e] at Z;cases Z
 have e:(stopR s).rd.ph=5/\(stopR s).wk=s.wk/\(stopR s).q=s.q/\(stopR s).mph=s.mph/\(stopR s).eph=s.eph/\(stopR s).out=s.out:=by
  unfold stopR shutR backR
  split<;>exact⟨rfl,rfl,rfl,rfl,rfl,rfl⟩
 obtain⟨J,N,U,V,X,Y⟩:=e;unfold muM;rw [J,N,U,V,X,Y,if_pos rfl,if_neg h5];omega
theorem aeO (Z:s.wk[i]?=some x):leaveW s i=setW (abD s x.blk.buf) i fun _=>wk0 1:=by unfold leaveW;rw [Z]
theorem akF (Y:s.wk[i]?=some x)(X:x.ph≠4)(Z:x.ph≠1):muM (leaveW s i)+1<=muM s:=by
 rw [aeO Y];have h:=awg Y (fun _=>wk0 1);have h1:muW x=2:=by unfold muW;rw [if_neg X,if_neg Z]
 have h2:muW (wk0 1)=1:=rfl;rw [h1,h2] at h;have h3:=aj8 (s:=s) (t:=setW (abD s x.blk.buf) i fun _=>wk0 1) rfl rfl rfl rfl;have h4:(setW (abD s x.blk.buf) i fun _=>wk0 1).wk=s.wk.modify i fun _=>wk0 1:=rfl;have h5:(setW (abD s x.blk.buf) i fun _=>wk0 1).q=s.q:=rfl;rw [h4,h5] at h3;omega
theorem ask (Y:s.wk[i]?=some x)(X:adh s i=true):muM (stopW s i)+1<=muM s:=by
 unfold adh at X;rw [Y] at X;dsimp only at X;have h4:x.ph≠4:=fun e=>by rw [if_pos e] at X;cases X
 unfold stopW;rw [ac9 Y];dsimp only
 by_cases h1:x.ph=1
 ·
  rw [if_pos h1];have V:muW x=1:=by unfold muW;rw [if_neg h4,if_pos h1]
  cases U:s.q with
  | nil=>
   have Z:takeW s i=setW s i fun w=>{ w with ph:=4 }:=by unfold takeW;rw [U]
   have e:(takeW s i).wk[i]?=some { x with ph:=4 }:=by rw [Z];exact atD Y _
   rw [ac9 e,if_pos rfl,Z];have h:=awg Y (fun w=>{ w with ph:=4 });have h2:muW { x with ph:=4 }=0:=rfl;rw [V,h2] at h;have h3:=aj8 (s:=s) (t:=setW s i fun w=>{ w with ph:=4 }) rfl rfl rfl rfl;have h5:(setW s i fun w=>{ w with ph:=4 }).wk=s.wk.modify i fun w=>{ w with ph:=4 }:=rfl;have h6:(setW s i fun w=>{ w with ph:=4 }).q=s.q:=rfl;rw [h5,h6] at h3;omega
  | cons b q=>
   have Z:takeW s i={ setW s i (fun w=>{ w with ph:=2,blk:=b }) with q:=q }:=by unfold takeW;rw [U]
   have e:(takeW s i).wk[i]?=some { x with ph:=2,blk:=b }:=by rw [Z];exact atD Y _
   rw [ac9 e,if_neg (show ¬(2=4) by decide)];have h7:=akF e (show (2:Nat)≠4 by decide) (show (2:Nat)≠1 by decide);have h:=awg Y (fun w=>{ w with ph:=2,blk:=b });have h2:muW { x with ph:=2,blk:=b }=2:=rfl;rw [V,h2] at h;have h8:muM (takeW s i)<=muM s:=by
    have h3:=aj8 (s:=s) (t:=takeW s i) (by rw [Z];rfl) (by rw [Z];rfl) (by rw [Z];rfl) (by rw [Z];rfl);have h5:(takeW s i).wk=s.wk.modify i fun w=>{ w with ph:=2,blk:=b }:=by rw [Z];rfl
    have h6:(takeW s i).q=q:=by rw [Z]
    rw [h5,h6,U,axU] at h3;omega
   omega
 · rw [if_neg h1,ac9 Y,if_neg h4];exact akF Y h4 h1
theorem atr (Z:adi c s=true):muM (ahW s)+1<=muM s:=by
 have h3:s.mph≠3:=fun e=>by unfold adi at Z;rw [if_pos e] at Z;cases Z
 unfold muM ahW;simp only [if_neg h3,if_true];omega
theorem as7 (Z:afI s=true):muM (aeW s)+1<=muM s:=by
 have h3:s.eph≠2:=fun e=>by unfold afI at Z;rw [if_pos e] at Z;cases Z
 unfold aeW
 by_cases ho:s.out=[]
 ·
  have e:s.out.isEmpty=true:=by rw [ho];rfl
  rw [if_pos e];unfold muM;simp only [ho,if_neg h3,if_true];omega
 · have e:¬s.out.isEmpty=true:=fun e=>ho (List.isEmpty_iff.1 e);rw [if_neg e];unfold muM;simp only [if_neg ho,if_true];omega
theorem aqT (V:s.wk.length=c.W)(Y:s.cancelled=true){k:Nat}(Z:aaB c s k=true):muM (abi c s k)+1<=muM s:=by
 unfold aaB at Z;unfold abi
 split at Z
 · rw [if_pos (by assumption)];unfold stepR;rw [if_pos Y];exact at7 Z
 ·
  rw [if_neg (by assumption)]
  split at Z
  ·
   rw [if_pos (by assumption)];unfold stepW;rw [if_pos Y]
   cases X:s.wk[k-1]? with
   | none=>unfold adh at Z;rw [X] at Z;cases Z
   | some x=>exact ask X Z
  ·
   rw [if_neg (by assumption)]
   split at Z
   · rw [if_pos (by assumption)];unfold stepMg;rw [if_pos Y];exact atr Z
   ·
    rw [if_neg (by assumption)]
    split at Z
    · unfold stepE;rw [if_pos Y];exact as7 Z
    · cases Z
theorem awb (h:ae9 c s)(U:s.cancelled=true)(ho:ac1 s=false):abB c s≠[]:=by
 intro I;have Y:∀k,k<c.W+3->aaB c s k=false:=fun k J=>by
  cases H:aaB c s k with
  | false=>rfl
  | true=>
   have:k∈abB c s:=List.mem_filter.2 ⟨List.mem_range.2 J,H⟩;rw [I] at this
   cases this
 have h5:s.rd.ph=5:=ayv fun Z=>by
  have:=Y 0 (by omega);unfold aaB abt at this;rw [if_pos rfl,if_neg Z,if_pos U] at this
  cases this
 have N:acl s=true:=by unfold acl;rw [h.shu,h5];simp
 have h4:∀(i:Nat) (x:WkM),s.wk[i]?=some x->x.ph=4:=fun i x X=>ayv fun Z=>by
  have V:=(awR.1 X).1;rw [h.wl] at V;have:=Y (i+1) (by omega);unfold aaB adh at this;rw [if_neg (by omega),if_pos (by omega),ayR,X] at this;dsimp only at this;rw [if_neg Z] at this
  split at this
  · rw [N] at this;cases this
  · cases this
 have h3:s.mph=3:=ayv fun Z=>by
  have:=Y (c.W+1) (by omega);unfold aaB adi at this;rw [if_neg (by omega),if_neg (by omega),if_pos rfl,if_neg Z,if_pos U] at this
  cases this
 have h2:s.eph=2:=ayv fun Z=>by
  have:=Y (c.W+2) (by omega);unfold aaB afI aex at this;rw [if_neg (by omega),if_neg (by omega),if_neg (by omega),if_pos rfl,if_neg Z,h.en,h3] at this;simp at this
 have:ac1 s=true:=by
  unfold ac1;rw [h5,h3,h2];simp;intro x X;obtain⟨i,V⟩:=ayB X;exact h4 i x V
 rw [ho] at this
 cases this
end
section
variable {c:CfM}{s t:PlM}{i k:Nat}{x:WkM}
theorem afD:(takeW s i).cancelled=s.cancelled:=by unfold takeW;split<;>rfl
theorem aem:(leaveW s i).cancelled=s.cancelled:=by unfold leaveW;split<;>rfl
theorem al0 (k:Nat):(abi c s k).cancelled=s.cancelled:=by
 unfold abi
 split
 ·
  unfold stepR
  split
  ·
   unfold stopR shutR backR
   split<;>rfl
  ·
   split
   · rfl
   ·
    split
    ·
     unfold readR;dsimp only
     split
     · split<;>rfl
     · rfl
    · split<;>rfl
 ·
  split
  ·
   unfold stepW
   split
   ·
    unfold stopW;dsimp only
    repeat' split
    all_goals first | rfl | exact afD | exact aem | exact aem.trans afD
   ·
    split
    · exact afD
    ·
     split
     · rfl
     ·
      unfold putWM
      split
      · rfl
      · rw [aem]
  ·
   split
   ·
    unfold stepMg takeM flushM ahW
    repeat' split
    all_goals rfl
   ·
    unfold stepE offerE aeW
    repeat' split
    all_goals rfl
structure ap8 (c:CfM)(s:PlM):Prop where
 r:acA s
 f:ae9 c s
theorem aeJ (Z:adh s i=true):∃x,s.wk[i]?=some x/\x.ph≠4:=by
 unfold adh at Z
 cases Y:s.wk[i]? with
 | none=>rw [Y] at Z;cases Z
 | some x=>
  rw [Y] at Z;exact⟨x,rfl,fun e=>by dsimp only at Z;rw [if_pos e] at Z;cases Z⟩
theorem ap8.step (h:ap8 c s)(Z:aaB c s k=true):ap8 c (abi c s k):=by
 unfold aaB at Z;unfold abi
 split at Z
 · rw [if_pos (by assumption)];exact⟨h.r.stepR,h.f.stepR Z⟩
 ·
  rw [if_neg (by assumption)]
  split at Z
  · rw [if_pos (by assumption)];obtain⟨x,Y,_⟩:=aeJ Z;exact⟨h.r.stepW Y,h.f.stepW⟩
  ·
   rw [if_neg (by assumption)]
   split at Z
   · rw [if_pos (by assumption)];exact⟨h.r.stepMg,h.f.stepMg h.r Z⟩
   · rw [if_neg (by assumption)];exact⟨h.r.stepE,h.f.stepE⟩
theorem ap8.cancel (h:ap8 c s):ap8 c (aaE s):=by
 unfold aaE
 split
 · exact h
 · exact⟨⟨h.r.ph,h.r.ho,h.r.wp,h.r.mp,h.r.ep⟩,⟨h.f.shu,h.f.en,h.f.ml,h.f.wl,h.f.gl,h.f.ql,h.f.ol⟩⟩
theorem aro (Y:1<=c.W)(rs:List (List Int)):ap8 c (ajI c rs):=by
 refine⟨⟨⟨axe _,by show 1<=5;decide⟩,by show false=true↔(1=2∨1=3);simp,fun i x Z=>?_,⟨axe _,by show 1<=3;decide⟩,⟨axe _,by show 1<=2;decide⟩⟩,⟨rfl,rfl,fun e=>by have e:(1:Nat)=2:=e;omega,axC,axC,axh _,axh _⟩⟩;have:=ay8 (ay9 (show (List.replicate c.W (wk0 1))[i]?=some x from Z));rw [this];exact⟨axe _,by show 1<=4;decide⟩
theorem aqy (Z:abB c s≠[])(n:Int):∃k,aeC c s n=some k:=by
 unfold aeC;have:0<(abB c s).length:=ayG.2 Z;exact⟨_,ay4 (an1 n this)⟩
end
def acz:Nat->List (Option (List aam))->List Nat
 | _,[]=>[]
 | n,none :: t=>acz (n+1) t
 | n,some _ :: t=>n :: acz (n+1) t
def ag1 (s:PlM):List Nat:=(aoG s).map aeG.num++acz s.next s.rg
theorem aho:∀(n:Nat) (l:List (Option (List aam))),acz n (l++[none])=acz n l
 | n,[]=>rfl
 | n,none :: t=>aho (n+1) t
 | n,some h :: t=>congrArg (n :: ·) (aho (n+1) t)
theorem adb (n y:Nat)(l:List Nat):(n :: l).count y=l.count y+if y=n then 1 else 0:=by
 rw [List.count_cons]
 by_cases h:y=n
 · subst h;simp
 · have:¬n=y:=fun e=>h e.symm;simp [h,this]
theorem ahj:∀(n j:Nat) (l:List (Option (List aam))) (h:List aam) (y:Nat),l[j]?=some none->(acz n (l.set j (some h))).count y=(acz n l).count y+if y=n+j then 1 else 0
 | n,j,[],h,y,hj=>by simp at hj
 | n,0,a :: t,h,y,hj=>by
  cases awV hj
  show (n :: acz (n+1) t).count y=_;rw [adb]
  rfl
 | n,j+1,none :: t,h,y,hj=>by
  have:=ahj (n+1) j t h y hj;show (acz (n+1) (t.set j (some h))).count y=(acz (n+1) t).count y+_;rw [this,show n+1+j=n+(j+1) by omega]
 | n,j+1,some a :: t,h,y,hj=>by
  have:=ahj (n+1) j t h y hj;show (n :: acz (n+1) (t.set j (some h))).count y=(n :: acz (n+1) t).count y+_;rw [adb,adb,this,show n+1+j=n+(j+1) by omega];omega
theorem aeV:∀(n j:Nat) (l:List (Option (List aam))) (h:List aam),l[j]?=some (some h)->0<(acz n l).count (n+j)
 | n,j,[],h,hj=>by simp at hj
 | n,0,a :: t,h,hj=>by
  cases awV hj
  show 0<(n :: acz (n+1) t).count (n+0);rw [adb,if_pos (by omega)];omega
 | n,j+1,none :: t,h,hj=>by
  have:=aeV (n+1) j t h hj;show 0<(acz (n+1) t).count (n+(j+1));rw [show n+(j+1)=n+1+j by omega];exact this
 | n,j+1,some a :: t,h,hj=>by
  have:=aeV (n+1) j t h hj;show 0<(n :: acz (n+1) t).count (n+(j+1));rw [adb,show n+(j+1)=n+1+j by omega];omega
structure adX (c:CfM)(s:PlM):Prop where
 le:s.next<=s.number/\s.number-s.next<=c.R
 cnt:∀y,(ag1 s).count y=if s.next<=y/\y<s.number then 1 else 0
 slot:s.rd.ph=2∨s.rd.ph=3->s.number-s.next<c.R
section
variable {c:CfM}{s t:PlM}{i:Nat}{x:WkM}
theorem aaV (s:PlM)(y:Nat):(ag1 s).count y=(s.q.map aeG.num).count y+((s.wk.flatMap hW).map aeG.num).count y+(acz s.next s.rg).count y:=by
 unfold ag1 aoG;rw [ayu,ay7,ayu]
theorem adX.same (h:adX c s)(h1:t.next=s.next)(h2:t.number=s.number)(h3:∀y,(ag1 t).count y=(ag1 s).count y)(h4:t.rd.ph=2∨t.rd.ph=3->s.number-s.next<c.R):adX c t:=
 ⟨by rw [h1,h2];exact h.le,fun y=>by rw [h3,h1,h2];exact h.cnt y,fun e=>by rw [h1,h2];exact h4 e⟩
theorem adX.takeW (h:adX c s)(Z:s.wk[i]?=some x)(X:x.ph=1):adX c (takeW s i):=by
 have h1:hW x=[]:=by unfold hW;rw [if_neg (by omega)]
 unfold Proofs.YtaamacoicojhnaaGreat.takeW
 cases Y:s.q with
 | nil=>
  refine h.same rfl rfl (fun y=>?_) h.slot;rw [aaV,aaV];have:=ajU aeG.num Z (fun w=>{ w with ph:=4 }) y;rw [h1] at this;have h2:hW { x with ph:=4 }=[]:=rfl;rw [h2] at this;simp only [setW];simp at this ⊢;omega
 | cons b q=>
  refine h.same rfl rfl (fun y=>?_) h.slot;rw [aaV,aaV,Y];have:=ajU aeG.num Z (fun w=>{ w with ph:=2,blk:=b }) y;rw [h1] at this;have h2:hW { x with ph:=2,blk:=b }=[b]:=rfl;rw [h2] at this;simp only [setW,ax0,ax1,az3,List.count_cons] at this ⊢;omega
theorem adX.scanW (h:adX c s)(X:s.wk[i]?=some x)(Y:x.ph=2):adX c (scanW c s i):=by
 unfold Proofs.YtaamacoicojhnaaGreat.scanW;refine h.same rfl rfl (fun y=>?_) h.slot;rw [aaV,aaV];have:=ajU aeG.num X (fun w=>{ w with node:=(c.scan w.blk.start w.blk.warm w.blk.data w.node w.done).1,done:=(c.scan w.blk.start w.blk.warm w.blk.data w.node w.done).2.1,hits:=w.hits++(c.scan w.blk.start w.blk.warm w.blk.data w.node w.done).2.2.1,ph:=if (c.scan w.blk.start w.blk.warm w.blk.data w.node w.done).2.2.2 then 3 else w.ph }) y;have h1:hW x=[x.blk]:=by unfold hW;rw [if_pos (.inl Y)]
 have h2:∀(n d:Nat) (Z:List aam) (b:Bool),hW { x with node:=n,done:=d,hits:=Z,ph:=if b then 3 else x.ph }=[x.blk]:=fun n d Z b=>by unfold hW;rw [if_pos (by cases b<;>simp [Y])]
 rw [h1,h2] at this;simp only [setW];omega
theorem adX.place (h:adX c s)(D:s.rg.length=c.R)(N:s.wk[i]?=some x)(J:x.ph=2∨x.ph=3):s.next<=x.blk.num/\x.blk.num<s.number/\x.blk.num-s.next<c.R/\s.rg[x.blk.num-s.next]?=some none:=by
 have h1:hW x=[x.blk]:=by unfold hW;rw [if_pos J]
 have V:=h.cnt x.blk.num;rw [aaV] at V;have I:0<((s.wk.flatMap hW).map aeG.num).count x.blk.num:=az4.2 (axE.2 ⟨x.blk,ayo.2 ⟨x,ay9 N,by rw [h1];simp⟩,rfl⟩);have Z:s.next<=x.blk.num/\x.blk.num<s.number:=ayv fun Y=>by rw [if_neg Y] at V;omega
 rw [if_pos Z] at V;have H:=h.le;refine⟨Z.1,Z.2,by omega,?_⟩;have X:x.blk.num-s.next<s.rg.length:=by omega
 have e:s.rg[x.blk.num-s.next]?=some s.rg[x.blk.num-s.next]:=ay4 X
 cases U:s.rg[x.blk.num-s.next] with
 | none=>rw [e,U]
 | some r=>
  have:=aeV s.next _ s.rg r (by rw [e,U]);rw [show s.next+(x.blk.num-s.next)=x.blk.num by omega] at this;omega
theorem adX.putWM (h:adX c s)(V:s.rg.length=c.R)(Z:s.wk[i]?=some x)(Y:x.ph=2∨x.ph=3):adX c (putWM s i):=by
 obtain⟨N,p2,U,X⟩:=h.place V Z Y;have h1:hW x=[x.blk]:=by unfold hW;rw [if_pos Y]
 unfold Proofs.YtaamacoicojhnaaGreat.putWM;rw [Z];dsimp only;rw [aeO (s:={ s with rg:=s.rg.set (x.blk.num-s.next) (some x.hits) }) Z];refine h.same rfl rfl (fun y=>?_) h.slot;rw [aaV,aaV];have h3:=ajU aeG.num Z (fun _=>wk0 1) y;have h2:hW (wk0 1)=[]:=rfl;rw [h1,h2,ax0,ax1,afA] at h3;have h4:=ahj s.next _ s.rg x.hits y X;rw [show s.next+(x.blk.num-s.next)=x.blk.num by omega] at h4;simp only [setW,abD,ax1,az3] at h3 ⊢;omega
end
end Go.Proofs.YtaamacoicojhnaaGreat
