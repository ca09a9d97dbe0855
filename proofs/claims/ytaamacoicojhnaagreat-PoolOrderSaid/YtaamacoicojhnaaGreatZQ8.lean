/- Proofs over the given program, part 8. -/
import Derived.Test.YtaamacoicojhnaaGreatZQ7
set_option linter.unusedVariables false
set_option linter.unusedSimpArgs false
set_option maxRecDepth 100000
set_option maxHeartbeats 16000000
open Go.Proofs.Tryz
open Go.Proofs.Tryz renaming prog→ZP
open Go.World(cell? frozen?)
open Option renaming some→E,none→O
open Go.Value renaming int→R,slice→T,pointer→L,bool→i6,tuple→ta,agg→i8
open Go.IntKind renaming i64→K
open Bool renaming false→M,true→G
open Go renaming World→Wa,Value→Vk
open Go.Ending renaming returned→ra
open Go.Obj renaming cells→i7
open List renaming length→lc
namespace Go.Proofs.YtaamacoicojhnaaGreat
open Go.RowKit Go.Sort
theorem AE.mach{A:PAd}{c:CfM}{s:PlM}{o:Nat->Nat}{w w':Wa}(h:AE A c o s w w'):Nz A.m c w':=h.low λZ h1=>by have h0:MO A c (λk=>Z k=0) w':=h1.part 0 om;exact h0.mach.1 w' h0.mach.2.1
theorem aeG{s:PlM}{i:Nat}(y z:WkM):setW (setW s i λ_=>y) i (λ_=>z)=setW s i λ_=>z:=by
 unfold setW;have e:(s.wk.modify i λ_=>y).modify i (λ_=>z)=s.wk.modify i λ_=>z:=by
  refine Hn λj=>?_;rw[GS,GS,GS]
  by_cases Z:i=j
  ·subst Z
   cases s.wk[i]?<;>simp
  ·simp[Z]
 show {s with wk:=(s.wk.modify i λ_=>y).modify i (λ_=>z)}=_;rw[e]
theorem ahw(a b:List AF):AV (a++b)=AV a++AV b:=by simp[AV]
theorem AI.hitsApp{A:PAd}{c:CfM}{s:PlM}{o:Nat->Nat}{w:Wa}{i:Nat}{x:WkM}(h:AI A c o s w)(hx:s.wk[i]?=E x)(hi:i<900)(v:x.ph=2){p:PcW}{C:Vk}(hb:w.heap[A.Wk i]?=E (i7 (wkV A i x p C) 249 (0,0)))(l:List AF){I:Option Addr}{X J:Nat}{Y:Wa}
  (hr:Y.ownsRow 0 116 2 (T I X J) (lc x.hits+lc l) (AV x.hits++AV l)) (hg:w.grownBy Y C.ownBlock) (U:(T I X J).ownBlock=C.ownBlock∨(T I X J).ownBlock=E w.heap.size) :
  AE A c o (setW s i λ_=>{x with hits:=x.hits++l}) w (Y.setCell ⟨A.Wk i,13,O⟩ (T I X J))/\Y.frozen? ⟨A.Wk i,13,O⟩=M/\Y.cell? ⟨A.Wk i,13,O⟩=E C:=by
 have h0:CP A s (λk=>o k=i+11) (λk=>o k=0) w i:=h.part (i+11) om;unfold CP at h0;rw[hx]at h0;obtain⟨p2,V,B,k2,k3,k4,k5,H⟩:=h0;have e0:V=C:=by
  rw[B]at hb;have e1:=congrArg (λx=>x.bind λy=>match y with|Obj.cells cs _ _=>cs[13]?|_=>O) hb
  simpa[wkV,EO,Lf]using e1
 subst e0;have a2:=(AD.1 B).1;have H:∀g,V.ownBlock=E g->o g=i+11:=H (by rw[v];decide);have N:Y.heap[A.Wk i]?=E (i7 (wkV A i x p2 V) 249 (0,0)):=(hg.block _ a2 λe=>k5 e.symm).trans B;have D:(T I X J).ownBlock≠E (A.Wk i):=λe=>by
  rcases U with e2|e2
  ·exact k5 (e2.symm.trans e)
  ·rw[e2]at e;have:=AK e;omega
 have a1:Chg (λk=>o k=i+11) w Y:=(Chg.refl _ w).grown hg λg e _=>H g e;have hc:Chg (λk=>o k=i+11) w (Y.setCell ⟨A.Wk i,13,O⟩ (T I X J)):=a1.set k2;refine⟨h.upG (i+11) om om hc ?_ (Ai.congr (i+11) (h1:=.inr ⟨rfl,rfl,rfl,rfl⟩) (h2:=.inr ⟨rfl,rfl⟩) (h3:=.inr ⟨rfl,rfl⟩) (h4:=.inr ⟨rfl,rfl,rfl⟩) (h5:=.inr ⟨rfl,rfl⟩) (h6:=.inr ⟨rfl,rfl⟩) (h7:=.inr ⟨rfl,rfl⟩) (h8:=.inr rfl) (h9:=.inr ⟨rfl,rfl⟩) (h10:=.inr rfl) (h11:=λj hj=>?_)),by simp[frozen?,N],?_⟩
 ·show CP A (setW s i λ_=>{x with hits:=x.hits++l}) (λk=>o k=i+11∨w.heap.size<=k) (λk=>o k=0) _ i;unfold CP;rw[LY hx];refine⟨p2,T I X J,AJ (i:=13) N _,.inl k2,k3.keep hc λk _ e1 e2=>by rw[e1]at e2;omega,⟨?_,λg Z=>?_⟩,D,λ_ g Z=>?_⟩
  ·rw[List.length_append,ahw];exact Fu hr λg Z=>AQ Y ⟨A.Wk i,13,O⟩ _ g λe=>D (by rw[Z,e])
  ·rcases U with e|e
   ·exact .inl (.inl (H g (e ▸ Z)))
   ·rw[e]at Z;exact .inl (.inr (Gq (AK Z)))
  ·rcases U with e|e
   ·exact .inl (H g (e ▸ Z))
   ·rw[e]at Z;exact .inr (Gq (AK Z))
 ·show(s.wk.modify i λ_=>{x with hits:=x.hits++l})[j]?=s.wk[j]?;rw[GS];have:i≠j:=λe=>hj (by rw[e]);simp[this]
 ·simp only[cell?,N];rfl
theorem ag9{A:PAd}{c:CfM}{s:PlM}{o:Nat->Nat}{i:Nat}{x:WkM}(w W:Wa)(h:AE A c o s w W)(hx:s.wk[i]?=E x)(hi:i<900)(a6:x.ph=2)(aG:lc x.blk.data<=900000)(aF:lc x.hits+(c.scan x.blk.start x.blk.warm x.blk.data x.node x.done).2.2.1.length<=1000000) :Calls ZP 149 #[L (E ⟨A.Wk i,0,O⟩)] W λe w'=>e=ra (ta #[])/\AE A c o (scanW c s i) w w':=by
 obtain⟨p,hv,aH,e1,e2,e3,e4,ap⟩:=h.cW hx hi;obtain⟨Ta,hT⟩:∃Ta,A.Wk i=Ta:=⟨_,rfl⟩;obtain⟨nu,aO⟩:∃b,x.blk.num=b:=⟨_,rfl⟩;obtain⟨st,al⟩:∃b,x.blk.start=b:=⟨_,rfl⟩;obtain⟨wm,ak⟩:∃b,x.blk.warm=b:=⟨_,rfl⟩;obtain⟨bs,aq⟩:∃b,x.blk.data=b:=⟨_,rfl⟩;obtain⟨z0,a2⟩:∃b,x.node=b:=⟨_,rfl⟩;obtain⟨d0,ao⟩:∃b,x.done=b:=⟨_,rfl⟩;obtain⟨r,hr⟩:∃b,c.scan st wm bs z0 d0=b:=⟨_,rfl⟩;obtain⟨B,d1,H,ov⟩:=r;rw[al,ak,aq,a2,ao,hr]at aF;rw[aq]at aG ap;obtain⟨n1,aE⟩:∃b,lc H=b:=⟨_,rfl⟩;have aC:p.m=lc bs:=ap.1.1.symm;have X:Hid (∀V,La W V->V.cell? ⟨Ta,0,O⟩=E (L (E ⟨A.P,0,O⟩))/\V.cell? ⟨A.P,0,O⟩=E (L (E ⟨A.m,0,O⟩))/\V.cell? ⟨A.P,6,O⟩=E (R K (c.S:Int))/\V.cell? ⟨Ta,6,O⟩=E (R K (nu:Int))/\V.cell? ⟨Ta,7,O⟩=E (R K (st:Int))/\V.cell? ⟨Ta,8,O⟩=E (R K (wm:Int))/\V.cell? ⟨Ta,9,O⟩=E (T p.a p.m p.c)/\V.cell? ⟨Ta,11,O⟩=E (R K (z0:Int))/\V.cell? ⟨Ta,12,O⟩=E (R K (d0:Int))):=λV hV=>by
  have hg:=h.bel hV;have Z:V.heap[Ta]?=E (i7 (wkV A i x p hv) 249 (0,0)):=by rw[<-hT];exact(hV.block _ (AD.1 aH).1).trans aH
  refine⟨by simp only[cell?,Z];rfl,hg.ceP 0 _ λ_=>rfl,hg.ceP 6 _ λ_=>rfl,?_,?_,?_,?_,?_,?_⟩
  ·rw[<-aO,<-e1];simp only[cell?,Z];rfl
  ·rw[<-al,<-e2];simp only[cell?,Z];rfl
  ·rw[<-ak,<-e3];simp only[cell?,Z];rfl
  ·simp only[cell?,Z];rfl
  ·rw[<-a2];simp only[cell?,Z];rfl
  ·rw[<-ao];simp only[cell?,Z];rfl
 have HM:Hid (∀V,La W V->Calls ZP 200 #[L (E ⟨A.m,0,O⟩),i8 #[R K (nu:Int),R K (st:Int),R K (wm:Int),T p.a p.m p.c],i8 #[R K (z0:Int),R K (d0:Int)],R K (c.S:Int)] V λe w'=>∃a cc,e=ra (ta #[i8 #[R K (B:Int),R K (d1:Int)],T a n1 cc,i6 ov])/\SlD (λk=>V.heap.size<=k/\k<w'.heap.size) w' a n1 H/\La V w'):=λV hV=>by rw[aC];refine((h.bel hV).mach nu st wm p.a (lc bs) p.c bs z0 d0 (by have:=ap.below hV;rwa[aC]at this) aG).mono ?_;rintro e w' ⟨v,rfl,ho,hb⟩;rw[hr]at ho⊢;obtain⟨a,cc,rfl,_,h2,h3⟩:=Gy ho;rw[<-aE];exact⟨a,cc,rfl,⟨h2,λ_ q e=>h3 q e⟩,hb⟩
 have HG:=AA h;have C:=AA (Va hx (Va hi (Va a6 (Va hT aE))));have HZ:=AA (Va al (Va ak (Va aq (Va a2 (Va ao hr)))));have b8:=AA aF;rw[hT];clear h hx hi a6 hT aF aO al ak aq a2 ao hr aE aC ap aH e1 e2 e3 e4 aG;go_enter func149,ntmps149;go_upto_region 0 with fail
 refine Ve ?_;refine Vd (S:=λV=>La W V) kr (AN W 1) (λhHeld=>?_);refine tkA 0 ?_;refine tkA 1 ?_;refine tkA 2 ?_;refine tkA 3 ?_;refine tkB 4 X.out ?_;refine tkA 5 ?_;refine tkA 6 ?_;refine tkB 7 X.out ?_;refine tkA 8 ?_;refine tkA 9 ?_;refine tkA 10 ?_;refine tkA 11 ?_;refine tkB 12 X.out ?_;refine tkA 13 ?_;refine tkA 14 ?_;refine tkA 15 ?_;refine tkB 16 X.out ?_;refine tkA 17 ?_;refine tkA 18 ?_;refine tkA 19 ?_;refine tkA 20 ?_;refine tkB 21 X.out ?_;refine tkA 22 ?_;refine tkA 23 ?_;refine tkA 24 ?_;refine tkB 25 X.out ?_;obtain⟨D,hD⟩:∃D,D=W.drew:=⟨_,rfl⟩;rw[<-hD]at hHeld⊢;clear hD;refine apE 26 31 (λKB X=>?_) (λKB X=>?_)
 focus
  go_simp
  go_at_call 200
  refine(HM.out _ hHeld).mono ?_;rintro e j ⟨a1,c1,rfl,af,aa⟩;refine X.out _ _ (hHeld.trans (aa.mono hHeld.size)) (λI=>?_);clear X KB
  try simp only[pq]
  refine tkA 27 ?_;refine tkA 28 ?_;refine tkA 29 ?_;refine tkA 30 ?_;refine rdy 31 (λKB X=>?_);go_simp;refine X.out _ _ (I.trans ((AL _ _).mono I.size)) (λaJ=>?_);clear X KB
  try simp only[pq]
  refine rdy 32 (λKB X=>?_);go_simp;obtain⟨N,J⟩:∃U,U=j.alloc (i7 #[R K (B:Int),R K (d1:Int)] 247):=⟨_,rfl⟩;have Z:La W N:=by rw[J];exact I.trans ((AL _ _).mono I.size)
  have ac:N.heap[j.heap.size]?=E (i7 #[R K (B:Int),R K (d1:Int)] 247 (0,0)):=by rw[J];exact AT _ _
  have am:W.heap.size<=j.heap.size:=I.size;have aB:SlD (λk=>W.heap.size<=k/\k<N.heap.size) N a1 n1 H:=by
   have aT:La j N:=by rw[J];exact AL _ _
   exact(af.keep (Y:=λ_=>False) (.of_same aT) λ_ _ _ h=>h).wide λk _ hk=>⟨AS hHeld.size hk.1,Af hk.2 aT.size⟩
  rw[<-J];refine X.out _ _ Z (λaI=>?_);clear X KB J I aJ aI af aa
  generalize j.heap.size=b1 at ac am⊢
  clear j
  try simp only[pq]
 rotate_left
 focus
  go_simp;obtain⟨b1,av⟩:∃b,b=D.heap.size:=⟨_,rfl⟩;obtain⟨U,hU⟩:∃U,U=D.alloc (i7 #[R K 0,R K 0] 247):=⟨_,rfl⟩;have a8:La W U:=by rw[hU];exact hHeld.trans ((AL _ _).mono hHeld.size)
  have aj:U.heap[b1]?=E (i7 #[R K 0,R K 0] 247 (0,0)):=by rw[hU,av];exact AT _ _
  have am:W.heap.size<=b1:=by rw[av];exact hHeld.size
  rw[<-hU,<-av];refine X.out _ _ a8 (λaJ=>?_);clear X KB hU av
  try simp only[pq]
  refine rdy 26 (λKB X=>?_);go_simp
  go_at_call 200
  refine(HM.out _ a8).mono ?_;rintro e j ⟨a1,c1,rfl,af,aa⟩;refine X.out _ _ (a8.trans (aa.mono a8.size)) (λI=>?_);clear X KB
  try simp only[pq]
  refine tkA 27 ?_;refine tkA 28 ?_;refine tkA 29 ?_;refine tkA 30 ?_;have a7:j.heap[b1]?=E (i7 #[R K 0,R K 0] 247 (0,0)):=(aa.block b1 (AD.1 aj).1).trans aj;have y0:j.cell? ⟨b1,0,O⟩=E (R K 0):=by simp[cell?,a7]
  have y1:j.cell? ⟨b1,1,O⟩=E (R K 0):=by simp[cell?,a7]
  have t0:j.frozen? ⟨b1,0,O⟩=M:=by simp[frozen?,a7]
  have t1:j.frozen? ⟨b1,1,O⟩=M:=by simp[frozen?,a7]
  refine rdy 32 (λKB X=>?_);go_simp;obtain⟨N,J⟩:∃Y,Y=(j.setCell ⟨b1,0,O⟩ (R K (B:Int))).setCell ⟨b1,1,O⟩ (R K (d1:Int)):=⟨_,rfl⟩;have Z:La W N:=by rw[J];exact(I.setCell am _).setCell am _
  have ac:N.heap[b1]?=E (i7 #[R K (B:Int),R K (d1:Int)] 247 (0,0)):=by rw[J];exact AJ (i:=1) (AJ (i:=0) a7 (R K (B:Int))) (R K (d1:Int))
  have aB:SlD (λk=>W.heap.size<=k/\k<N.heap.size) N a1 n1 H:=by
   have hc:Chg (λk=>k=b1) j N:=by rw[J];exact((Chg.refl (λk=>k=b1) j).set rfl).set rfl
   have bf:=(AD.1 aj).1;exact(af.keep hc λk _ hk e=>by have:=hk.1;omega).wide λk _ hk=>⟨AS a8.size hk.1,Af hk.2 hc.size⟩
  rw[<-J];refine X.out _ _ Z (λaI=>?_);clear X KB J I aJ aI af aa a7 y0 y1 t0 t1 a8 aj;clear U j
  try simp only[pq]
 all_goals
  refine tkA 33 ?_;refine tkA 34 ?_;refine Vg kr ?_ _;refine At ?_;obtain⟨o3,h3,z3,g3,n3⟩:=HG.out.belZ Z;have aM:SlD (λk=>o3 k=0) N a1 n1 H:=aB.wide λk _ hk=>n3 k hk.1 hk.2;obtain⟨p2,be,ab,_⟩:=h3.cW C.out.1 C.out.2.1;have ae:AE A c o3 (setW s i λ_=>{x with node:=B,done:=d1}) N ((N.setCell ⟨A.Wk i,11,O⟩ (R K (B:Int))).setCell ⟨A.Wk i,12,O⟩ (R K (d1:Int))):=by
   refine h3.g.setWk C.out.1 C.out.2.1 _ _ (by simp only[Oa]) (λk hk=>?_) ?_ λo5 p hv h5 z5 f1 f2 f3 f4 f5=>⟨p,hv,AJ (i:=12) (AJ (i:=11) f1 (R K (B:Int))) (R K (d1:Int)),f2,f3,f4,λ_ g hg=>f5 (by rw[C.out.2.2.1];decide) g hg⟩
   ·rw[AQ _ ⟨A.Wk i,12,O⟩ _ k hk,AQ _ ⟨A.Wk i,11,O⟩ _ k hk]
   ·have hc:Chg (λ_=>True) N ((N.setCell ⟨A.Wk i,11,O⟩ (R K (B:Int))).setCell ⟨A.Wk i,12,O⟩ (R K (d1:Int))):=((Chg.refl _ N).set trivial).set trivial;exact⟨hc.os,hc.tape,hc.output⟩
  rw[C.out.2.2.2.1]at ab ae;have ai:=AA ae;have b6:=AA aM;have aX:=AA (Va z3 g3);have b3:N.frozen? ⟨Ta,11,O⟩=M:=by simp[frozen?,ab]
  have b2:N.frozen? ⟨Ta,12,O⟩=M:=by simp[frozen?,ab]
  have b5:N.cell? ⟨Ta,11,O⟩=E (R K (x.node:Int)):=by simp only[cell?,ab];rfl
  have b4:N.cell? ⟨Ta,12,O⟩=E (R K (x.done:Int)):=by simp only[cell?,ab];rfl
  have x0:N.cell? ⟨b1,0,O⟩=E (R K (B:Int)):=by simp[cell?,ac]
  have x1:N.cell? ⟨b1,1,O⟩=E (R K (d1:Int)):=by simp[cell?,ac]
  clear h3 z3 g3 n3 ae aM ab aB ac Z;go_upto_region 2 with fail
  obtain⟨V3,aV⟩:∃U,U=(N.setCell ⟨Ta,11,O⟩ (R K (B:Int))).setCell ⟨Ta,12,O⟩ (R K (d1:Int)):=⟨_,rfl⟩;rw[<-aV]at ai⊢;clear aV b3 b2 b5 b4 x0 x1;have aw:=ai.out.slD b6.out;obtain⟨o4,h4,z4,g4⟩:=ai.out;have aA:(setW s i λ_=>{x with node:=B,done:=d1}).wk[i]?=E {x with node:=B,done:=d1}:=LY C.out.1 _;obtain⟨p4,bd,au,_,ag⟩:=h4.cW aA C.out.2.1;obtain⟨a4,c4,rfl,_,_,_⟩:=Gy ag.1;obtain⟨i0,aR,a2,aL,aK⟩:=Vh IG;have aQ:lc x.hits+n1<=1000000:=by have h7:lc x.hits+lc H<=1000000:=b8.out;have h9:=C.out.2.2.2.2;omega
  obtain⟨v1,W1,hr,aD,aS,ax⟩:=Gu (P:=ZP) V3 0 69 69 116 i0 (i8 #[.int .i64 0,.int .i64 0]) 2 16 underlying69 aR a2 aL aK rfl (by decide) (.slice a4 (lc x.hits) c4) (lc x.hits) (AV x.hits) ag.1 a1 n1 c1 (AV H) aw.1 (λu hu=>by obtain⟨y,_,hy⟩:=Ir.1 hu;simp[IH]at hy;rcases hy with rfl|rfl<;>rfl) (by unfold maxLen;omega) om (AR _);obtain⟨a5,c5,rfl,_,_,_⟩:=Gy aD;have ay:=h4.hitsApp aA C.out.2.1 C.out.2.2.1 au H (by rw[C.out.2.2.2.2];exact aD) aS ax;rw[C.out.2.2.2.1,aeG]at ay;rw[C.out.2.2.2.1]at au;obtain⟨u1,u2,u3⟩:=ay;have aW:V3.cell? ⟨Ta,13,O⟩=E (.slice a4 (lc x.hits) c4):=by simp only[cell?,au];rfl
  obtain⟨m,hm⟩:∃m,lc x.hits=m:=⟨_,rfl⟩;rw[hm]at aW hr u1 u3;obtain⟨mn,aP⟩:∃k,m+n1=k:=⟨_,rfl⟩;rw[aP]at hr u1;have HR:=AA hr;have aZ:=AA u1;have aY:=AA (Va z4 g4);clear hr u1 z4 g4 h4 aA au ag aR a2 aL aK aQ aD aS ax hm aP aw;go_upto_region 3 with(at_builtin;refine aaf rfl (.tmp 44) (.tmp 45) 69 rfl rfl rfl HR.out ?_)
  obtain⟨V5,aU⟩:∃U,U=W1.setCell ⟨Ta,13,O⟩ (T a5 mn c5):=⟨_,rfl⟩;rw[<-aU]at aZ⊢;clear aU u2 u3 aW;have aN:∀ph,ph=(if ov then 3 else x.ph)->scanW c s i=setW s i λ_=>{x with node:=B,done:=d1,hits:=x.hits++H,ph:=ph}:=λph hp=>by obtain⟨e1,e2,e3,e4,e5,e6⟩:=HZ.out;unfold scanW;rw[LX C.out.1,hp];simp only[e1,e2,e3,e4,e5,e6]
  have b0:=AA aN;have hG:=AE.comp aX.out.1 aX.out.2 (AE.comp aY.out.1 aY.out.2 aZ.out);have az:(setW s i λ_=>{x with node:=B,done:=d1,hits:=x.hits++H}).wk[i]?=E {x with node:=B,done:=d1,hits:=x.hits++H}:=LY C.out.1 _;obtain⟨p5,bb,ar,_⟩:=hG.cW az C.out.2.1;have a6:=hG.setWph az C.out.2.1 3 (λe=>absurd rfl e);rw[aeG]at a6;rw[C.out.2.2.2.1]at ar a6;have b9:=AA hG;have b7:=AA a6;have f1:V5.frozen? ⟨Ta,1,O⟩=M:=by simp[frozen?,ar]
  have bg:V5.cell? ⟨Ta,1,O⟩=E (.int .u8 (x.ph:Int)):=by simp only[cell?,ar];rfl
  clear ar a6 hG az aN
  cases ov with
  |true=>
   go_wp2
   go_end0
   refine⟨rfl,?_⟩;rw[b0.out 3 rfl];exact b7.out
  |false=>
   go_wp2
   go_end0
   refine⟨rfl,?_⟩;rw[b0.out x.ph rfl];exact b9.out
section
theorem aa0(P:Program)(w:Wa)(a:Addr)(m:Mode):(store a .nilFunc m).run P w=stored P w a .nilFunc m:=run_store P w a _ m rfl
attribute[local go_sem] IW aa0
def Ky(ty:TypeId):Prop:=ty=175∨ty=177∨ty=179∨ty=181
theorem ar2(ty:TypeId)(Z:Ky ty)(n Ta:Nat)(w:Wa):Sem.run ZP (method (n+1) ty (L (E ⟨Ta,0,O⟩)) "teasel/pool.phase") w=.ok (320,L (E ⟨Ta,0,O⟩)) w:=by rcases Z with rfl|rfl|rfl|rfl<;>kernel_rfl
theorem NY(ty:TypeId)(Z:Ky ty)(n Ta:Nat)(w:Wa):Sem.run ZP (method (n+1) ty (L (E ⟨Ta,0,O⟩)) "teasel/pool.over") w=.ok (319,L (E ⟨Ta,0,O⟩)) w:=by rcases Z with rfl|rfl|rfl|rfl<;>kernel_rfl
theorem agX(ty:TypeId)(Z:Ky ty)(n Ta:Nat)(w:Wa):Sem.run ZP (method (n+1) ty (L (E ⟨Ta,0,O⟩)) "teasel/pool.ready") w=.ok (321,L (E ⟨Ta,0,O⟩)) w:=by rcases Z with rfl|rfl|rfl|rfl<;>kernel_rfl
theorem anG(ty:TypeId)(Z:Ky ty)(n Ta:Nat)(w:Wa):Sem.run ZP (method (n+1) ty (L (E ⟨Ta,0,O⟩)) "teasel/pool.step") w=.ok (322,L (E ⟨Ta,0,O⟩)) w:=by rcases Z with rfl|rfl|rfl|rfl<;>kernel_rfl
def tyT(c:CfM)(t:Nat):TypeId:=if t=0 then 175 else if t<=c.W then 177 else if t=c.W+1 then 179 else 181
def adT(A:PAd)(c:CfM)(t:Nat):Nat:=if t=0 then A.R else if t<=c.W then A.Wk (t-1) else if t=c.W+1 then A.M else A.E
theorem amC(A:PAd)(c:CfM)(t:Nat):Mo A c t=.iface (tyT c t) (L (E ⟨adT A c t,0,O⟩)):=by
 unfold Mo tyT adT
 split
 ·rfl
 ·split
  ·rfl
  ·split<;>rfl
theorem Jv(c:CfM)(t:Nat):Ky (tyT c t):=by
 unfold tyT Ky
 split
 ·exact .inl rfl
 ·split
  ·exact .inr (.inl rfl)
  ·split
   ·exact .inr (.inr (.inl rfl))
   ·exact .inr (.inr (.inr rfl))
section
variable {A:PAd}{c:CfM}{s:PlM}{o:Nat->Nat}{w:Wa}
theorem AI.tcR(h:AI A c o s w):GL A.P A.R s.rd.ph 5 A.mR He (mvP 146 A.R) w:=by obtain⟨Y,Z,_⟩:=h.cR;exact⟨by simp only[cell?,Z];rfl,by simp only[cell?,Z];rfl,by simp only[cell?,Z];rfl,by simp only[cell?,Z];rfl,by simp only[cell?,Z];rfl,by simp only[cell?,Z];rfl⟩
theorem AI.tcW(h:AI A c o s w){i:Nat}{x:WkM}(Y:s.wk[i]?=E x)(X:i<900):GL A.P (A.Wk i) x.ph 4 (A.mW i) (mvP 151 (A.Wk i)) (mvP 152 (A.Wk i)) w:=by obtain⟨p,V,Z,_⟩:=h.cW Y X;exact⟨by simp only[cell?,Z];rfl,by simp only[cell?,Z];rfl,by simp only[cell?,Z];rfl,by simp only[cell?,Z];rfl,by simp only[cell?,Z];rfl,by simp only[cell?,Z];rfl⟩
theorem AI.tcM(h:AI A c o s w):GL A.P A.M s.mph 3 A.mM He (mvP 157 A.M) w:=by obtain⟨a,m,Y,Z,_⟩:=h.cM;exact⟨by simp only[cell?,Z];rfl,by simp only[cell?,Z];rfl,by simp only[cell?,Z];rfl,by simp only[cell?,Z];rfl,by simp only[cell?,Z];rfl,by simp only[cell?,Z];rfl⟩
theorem AI.tcE(h:AI A c o s w):GL A.P A.E s.eph 2 A.mE (mvP 158 A.E) (mvP 160 A.E) w:=by have Z:=h.cE;exact⟨by simp only[cell?,Z];rfl,by simp only[cell?,Z];rfl,by simp only[cell?,Z];rfl,by simp only[cell?,Z];rfl,by simp only[cell?,Z];rfl,by simp only[cell?,Z];rfl⟩
theorem AI.p0(h:AI A c o s w):MO A c (λk=>o k=0) w:=h.part 0 om
theorem AI.can(h:AI A c o s w):w.cell? ⟨A.P,19,O⟩=E (i6 s.cancelled):=h.g.ceP 19 _ λ_=>rfl
theorem AI.task(h:AI A c o s w)(t:Nat)(Z:t<c.W+3):w.cell? ⟨A.TT,t,O⟩=E (.iface (tyT c t) (L (E ⟨adT A c t,0,O⟩))):=by rw[<-amC];exact h.p0.tasks t Z
end
theorem NX{P Ta at_ Z mp:Nat}{sc sd:Vk}(w:Wa)(U:GL P Ta at_ Z mp sc sd w)(C:at_=Z) :Calls ZP 323 #[L (E ⟨Ta,0,O⟩)] w λe w'=>e=ra (ta #[i8 #[.nilFunc,.nilFunc],i6 M])/\La w w':=by
 obtain⟨W,hW⟩:∃W,W=w.alloc (i7 #[Value.nilFunc,Value.nilFunc] 241):=⟨_,rfl⟩;have hB:La w W:=by rw[hW];exact AL _ _
 have J:Fl w.heap.size .nilFunc .nilFunc W:=by rw[hW];exact Kx _ _ _
 have V:=NS Ta at_ Z W (U.below hB).c1 (U.below hB).c2;have I:decide ((at_:Int)=(Z:Int))=G:=by simp;omega
 rw[I]at V;have HO:=AA V;have H:=AA hB;have v:=AA J;clear U hB J V I C;go_enter func323,ntmps323;go_upto_region 1 with fail
 rw[<-hW];clear hW;go_upto_region 2 with(go_at_call 319;refine HO.out.mono ?_;rintro e D ⟨rfl,X⟩)
 have Y:=v.out.below X;obtain⟨x0,x1,u0,u1⟩:=Y.cells;have j:=AA (Y.put .nilFunc .nilFunc);have N:Hid (La w ((D.setCell ⟨w.heap.size,0,O⟩ .nilFunc).setCell ⟨w.heap.size,1,O⟩ .nilFunc)):=((H.out.trans (X.mono H.out.size)).setCell (AC _) _).setCell (AC _) _;clear Y X;go_wp2;refine Vi (aat (B:=w.heap.size) rfl rfl j.out) rfl ?_;exact⟨rfl,N.out⟩
theorem NJ{Ta:Nat}(w:Wa)(V:Calls ZP 323 #[L (E ⟨Ta,0,O⟩)] w λe w'=>e=ra (ta #[i8 #[.nilFunc,.nilFunc],i6 M])/\La w w') :Calls ZP 321 #[L (E ⟨Ta,0,O⟩)] w λe w'=>e=ra (i6 M)/\La w w':=by
 have N:=AA V;clear V;go_enter func321,ntmps321;go_upto_region 2 with(go_at_call 323;refine N.out.mono ?_;rintro e U ⟨rfl,Z⟩)
 obtain⟨W,hW⟩:∃W,W=U.alloc (i7 #[Value.nilFunc,Value.nilFunc] 241):=⟨_,rfl⟩;have Y:La w W:=by rw[hW];exact Z.alloc Z.size _
 have X:=AA Y;rw[<-hW];clear hW Z Y;go_wp2;go_ret;exact⟨rfl,X.out⟩
end
section
attribute[local go_sem] IW NY
theorem aek{next:Nat}{l:List AF}{r:List (Option (List AF))}:∀j,∃t,Ga next (E l::r) (j+1)=next::t
 |0=>⟨[],by simp[Ga]⟩
 |j+1=>by obtain⟨t,Z⟩:=aek (next:=next) (l:=l) (r:=r) j;rw[Ga,Z];exact⟨t++_,rfl⟩
theorem aeS{next:Nat}{rg:List (Option (List AF))}(h:∀l,rg[0]?≠E (E l)):∀j x,x∈Ga next rg j->next<x
 |0,x,hx=>by cases hx
 |j+1,x,hx=>by
  rw[Ga]at hx
  rcases Bf.1 hx with h1|h1
  ·exact aeS h j x h1
  ·revert h1
   cases Z:rg[j]? with
   |none=>intro h1;simp at h1
   |some y=>
    cases y with
    |none=>intro h1;simp at h1
    |some l=>
     intro h1;simp at h1;have:j≠0:=λe=>h l (by rw[<-e];exact Z);omega
def Kj(rg:List (Option (List AF))):Bool:=match rg with|some _::_=>G|_=>M
theorem agc(s:PlM):Gt s=(Kj s.rg || (decide (s.rd.ph=5)&&decide (s.next=s.number))):=by
 unfold Gt Kj
 cases s.rg with
 |nil=>rfl
 |cons y t=>cases y<;>rfl
theorem ac3{A:PAd}{c:CfM}{s:PlM}{o:Nat->Nat}(w:Wa)(h:AI A c o s w)(hx:s.next<=1000000000)(hR:1<=c.R)(hg:lc s.rg=c.R) :Calls ZP 153 #[L (E ⟨A.M,0,O⟩)] w λe w'=>e=ra (i6 (Gt s))/\La w w':=by
 have hk:∀V,La w V->V.cell? ⟨A.M,0,O⟩=E (L (E ⟨A.P,0,O⟩))/\V.cell? ⟨A.P,13,O⟩=E (L (E ⟨A.G,0,O⟩))/\V.cell? ⟨A.P,15,O⟩=E (T (E ⟨A.TT,0,O⟩) (c.W+3) A.tc)/\V.cell? ⟨A.TT,0,O⟩=E (.iface (tyT c 0) (L (E ⟨A.R,0,O⟩)))/\V.cell? ⟨A.P,16,O⟩=E (R K (s.number:Int)):=λV hV=>by have h2:=h.bel hV;exact⟨(h2.tcM).c0,h2.g.ceP 13 _ λ_=>rfl,h2.g.ceP 15 _ λ_=>rfl,h2.task 0 om,h2.g.ceP 16 _ λ_=>rfl⟩
 have a6:=AA (aoh h);have H:=AA (ap0 h hx);have a7:∀V,La w V->Calls ZP 319 #[L (E ⟨A.R,0,O⟩)] V λe w'=>e=ra (i6 (decide (s.rd.ph=5)))/\La V w':=λV hV=>by
  have h2:=(h.bel hV).tcR;have:=NS A.R s.rd.ph 5 V h2.c1 h2.c2;have e:decide ((s.rd.ph:Int)=((5:Nat):Int))=decide (s.rd.ph=5):=by rw[Db];simp;omega
  rw[<-e];exact this
 have J:=AA a7;have HK:=AA hk;obtain⟨k0,aw,_,_,_⟩:=hk w (AH _ _);have aq:=λ(Ta:Nat)=>NY (tyT c 0) (Jv c 0);obtain⟨ty,C⟩:∃ty,tyT c 0=ty:=⟨_,rfl⟩;have ay:∀n Ta w,Sem.run ZP (method (n+1) ty (L (E ⟨Ta,0,O⟩)) "teasel/pool.over") w=.ok (319,L (E ⟨Ta,0,O⟩)) w:=λn Ta w=>by rw[<-C];exact NY _ (Jv c 0) n Ta w
 rw[C]at HK;obtain⟨nx,I⟩:∃x,s.next=x:=⟨_,rfl⟩;obtain⟨nb,j⟩:∃x,s.number=x:=⟨_,rfl⟩;obtain⟨LO,hL⟩:∃x,Ga s.next s.rg c.R=x:=⟨_,rfl⟩;rw[hL]at H;rw[I]at a6;rw[j]at HK;have a1:Kj s.rg=decide (LO.head?=E nx)/\∀x∈LO.head?,x=nx∨nx<x:=by
  obtain⟨r,hr⟩:∃r,c.R=r+1:=⟨c.R-1,by omega⟩;rw[<-hL,<-I,hr]
  cases ap:s.rg with
  |nil=>rw[ap]at hg;simp at hg;omega
  |cons y r2=>
   cases y with
   |some l=>
    obtain⟨t,ht⟩:=aek (next:=s.next) (l:=l) (r:=r2) r;rw[ht];simp[Kj]
   |none=>
    have hn:=aeS (next:=s.next) (rg:=O::r2) (λl=>by simp) (r+1)
    cases hc:Ga s.next (O::r2) (r+1)with
    |nil=>simp[Kj]
    |cons x t=>
     have:=hn x (by rw[hc];simp);refine⟨?_,λz hz=>?_⟩
     ·simp[Kj];omega
     ·simp at hz;omega
 have B:Gt s=(decide (LO.head?=E nx) || (decide (s.rd.ph=5)&&decide (nx=nb))):=by rw[agc,a1.1,I,j]
 obtain⟨B5,ae⟩:∃b,decide (s.rd.ph=5)=b:=⟨_,rfl⟩;rw[ae]at B J;rw[B];have D:=a1.2;clear a1 B ae I j hL h hx hR hg hk a7 aq C;have e5:((nx:Int)==(nb:Int))=decide (nx=nb):=by rw[Db];simp;omega
 have e6:decide ((nx:Int)=(nb:Int))=decide (nx=nb):=by rw[Db];simp;omega
 obtain⟨B6,au⟩:∃b,decide (nx=nb)=b:=⟨_,rfl⟩;rw[au]at e5 e6⊢
 cases ab:LO with
 |nil=>
  subst ab;go_enter func153,ntmps153;go_upto_region 4 with(first|(go_at_call 66;refine a6.out.mono ?_;rintro e w1 ⟨rfl,rfl⟩)|(go_at_call 67;refine H.out.mono ?_;rintro e w2 ⟨v2,rfl,a8,U⟩;obtain⟨a2,c2,rfl,_,X,_⟩:=Gy a8;have Z:=AA U;obtain⟨j0,aj,ai,jT,ag⟩:=HK.out _ U;clear U a8 X))
  cases B5 with
  |false=>
   go_wp2_with (go_at_call 319;refine(J.out _ Z.out).mono ?_;rintro e w3 ⟨rfl,Y⟩;have N:=AA Y;clear Y)
   go_ret;exact⟨by simp,Z.out.trans (N.out.mono Z.out.size)⟩
  |true=>
   go_wp2_with (go_at_call 319;refine(J.out _ Z.out).mono ?_;rintro e w3 ⟨rfl,Y⟩;have N:=AA Y;obtain⟨i0,am,al,iT,ak⟩:=HK.out _ (Z.out.trans (Y.mono Z.out.size));clear Y)
   go_ret;exact⟨by simp,Z.out.trans (N.out.mono Z.out.size)⟩
 |cons x t=>
  subst ab;obtain⟨n,hn⟩:∃n,((x::t).map λx:Nat=>(x:Int)).length=n:=⟨_,rfl⟩;have ax:0<n:=by rw[<-hn];simp
  have d0:decide ((n:Int) > 0)=G:=by simp;omega
  have d1:decide (0<n)=G:=by simp;omega
  have i0:(0:Int)<(n:Int):=by omega
  have hx:=D x sm;have e7:((x:Int)==(nx:Int))=decide (x=nx):=by rw[Db];simp;omega
  have e8:decide ((x:Int)=(nx:Int))=decide (x=nx):=by rw[Db];simp;omega
  have e9:decide ((x::t).head?=E nx)=decide (x=nx):=by simp
  rw[e9];obtain⟨B7,ac⟩:∃b,decide (x=nx)=b:=⟨_,rfl⟩;rw[ac]at e7 e8⊢;have av:Hid (Calls ZP 67 #[L (E ⟨A.G,0,O⟩)] w λe w'=>∃a cc,e=ra (T a n cc)/\SlK 1 w' a n (((x::t).map λx:Nat=>(x:Int)).map (R K))/\La w w'):=H.out.mono λe w' ⟨v,h1,h2,h3⟩=>by obtain⟨a,cc,rfl,_,h4,_⟩:=Gy h2;rw[hn]at h1 h4;exact⟨a,cc,h1,h4,h3⟩
  clear D hx ac hn H;go_enter func153,ntmps153;go_upto_region 4 with(first|(go_at_call 66;refine a6.out.mono ?_;rintro e w1 ⟨rfl,rfl⟩)|(go_at_call 67;refine av.out.mono ?_;rintro e w2 ⟨a2,c2,rfl,X,U⟩;have Z:=AA U;have af:=AA X;obtain⟨j0,aj,ai,jT,ag⟩:=HK.out _ U;clear U X))
  have X:=af.out;obtain⟨bb,oo,rfl,ar,aa⟩:=X.2.resolve_left om;have ao:=aa 0 (R K (x:Int)) sm;rw[DQ]at ao;clear X ar aa af
  cases B7 with
  |true=>
   go_wp2;go_ret;exact⟨by simp,Z.out⟩
  |false=>
   cases B5 with
   |false=>
    go_wp2_with (go_at_call 319;refine(J.out _ Z.out).mono ?_;rintro e w3 ⟨rfl,Y⟩;have N:=AA Y;clear Y)
    go_ret;exact⟨by simp,Z.out.trans (N.out.mono Z.out.size)⟩
   |true=>
    go_wp2_with (go_at_call 319;refine(J.out _ Z.out).mono ?_;rintro e w3 ⟨rfl,Y⟩;have N:=AA Y;obtain⟨i0,am,al,iT,ak⟩:=HK.out _ (Z.out.trans (Y.mono Z.out.size));clear Y)
    go_ret;exact⟨by simp,Z.out.trans (N.out.mono Z.out.size)⟩
end
structure OkC(c:CfM):Prop where
 W:1<=c.W/\c.W<=8
 K:1<=c.K/\c.K<=256
 R:1<=c.R/\c.R<=16
 Q:1<=c.Q/\c.Q<=16
 O:1<=c.O/\c.O<=16
 S:1<=c.S/\c.S<=256
 F:c.F<=4611686018427387904
 wm:c.wm<=1000
structure OkM(c:CfM)(s:PlM):Prop where
 wl:s.wk.length=c.W
 gl:s.rg.length=c.R
 frl:s.fr.length<=100000
 frr:∀x∈s.fr,x<s.us.length
 dl:s.ds.length=s.us.length
 num:s.number<=1000000000
 nxt:s.next<=1000000000
 rdl:s.read<=100000000
 tol:s.told<=100000000
 rsl:∀x∈s.rs,x.length<=1000000
 tal:s.rd.tail.length<=c.wm
 ofl:s.off<=1000000
 tkl:s.tk.length<=1000000
 tol2:s.took.length<=1000000
 oul:s.out.length<=1000000
 rph:1<=s.rd.ph/\s.rd.ph<=5
 fah:c.F+s.rd.ahead<=4611686018428387904
 tak:s.rd.ph=1->s.cancelled=false->Du s.next c.R s.number=true->s.fr≠[]
 buf:(s.rd.ph=2∨s.rd.ph=3)->∃x0,s.us[s.rd.buf]?=some true/\s.ds[s.rd.buf]?=some x0/\x0.length=s.rd.warm+s.rd.own/\s.rd.own<=c.K/\s.rd.warm<=c.wm/\∀x∈x0,0<=x/\x<=255
 shu:s.rd.ph≠5->s.shut=false
 wkp:∀(i:Nat)(x:WkM),s.wk[i]?=some x->1<=x.ph/\x.ph<=4/\x.blk.data.length<=900000/\(x.ph=2->x.hits.length+(c.scan x.blk.start x.blk.warm x.blk.data x.node x.done).2.2.1.length<=1000000)
 wpu:∀(i:Nat)(x:WkM),s.wk[i]?=some x->x.ph=3->s.cancelled=false->s.next<=x.blk.num/\x.blk.num-s.next<c.R/\s.rg[x.blk.num-s.next]?=some none/\x.blk.num<=1000000000
 mgp:1<=s.mph/\s.mph<=3
 mgl:s.mph=2->s.cancelled=false->s.left≠[]
 end_:s.mph≠3->s.ended=false
 emp:1<=s.eph/\s.eph<=2
section
variable {A:PAd}{c:CfM}{s:PlM}{o:Nat->Nat}{w W:Wa}
theorem FQ{P Ta at_ Z mp:Nat}{sc sd:Vk}{X:Bool}{f:Nat->Option Vk}{Y U:Nat}{bc N:Array Vk}{b:Bool}(w:Wa)(C:GL P Ta at_ Z mp sc sd w)(B:w.cell? ⟨P,19,O⟩=E (i6 X))(H:at_≠Z)(I:ES w mp f)(D:X=M->f at_=E (i8 #[.func (.func Y) bc #[],.func (.func U) N #[]]))(J:X=G->sc=.func (.func Y) bc #[]/\sd=.func (.func U) N #[])
  (j:∀args w,(callFunc Y args).run ZP w=.ok (.enter Y args) w) (v:∀V,La w V->Calls ZP Y bc V λe w'=>e=ra (i6 b)/\La V w') :
  Calls ZP 321 #[L (E ⟨Ta,0,O⟩)] w λe w'=>e=ra (i6 b)/\La w w':=
 adH w (abj w C B H I D J) j v
theorem FO{P Ta at_ Z mp:Nat}{sc sd:Vk}{X:Bool}{f:Nat->Option Vk}{N Y:Nat}{bc U:Array Vk}{Q:Wa->Prop}(w:Wa)(C:GL P Ta at_ Z mp sc sd w)(B:w.cell? ⟨P,19,O⟩=E (i6 X))(H:at_≠Z)(I:ES w mp f)(D:X=M->f at_=E (i8 #[.func (.func N) bc #[],.func (.func Y) U #[]]))(J:X=G->sc=.func (.func N) bc #[]/\sd=.func (.func Y) U #[])
  (j:∀args w,(callFunc Y args).run ZP w=.ok (.enter Y args) w) (v:∀V,La w V->Calls ZP Y U V λe w'=>e=ra (ta #[])/\Q w') :
  Calls ZP 322 #[L (E ⟨Ta,0,O⟩)] w λe w'=>e=ra (ta #[])/\Q w':=
 afd w (abj w C B H I D J) j v
theorem Kw(w:Wa):∀V,La w V->Calls ZP 141 #[] V λe w'=>e=ra (i6 G)/\La V w':=λV _=>(acV V).mono λe w' ⟨h1,h2⟩=>⟨h1,by rw[h2];exact AH _ _⟩
theorem Kv:∀args w,(callFunc 141 args).run ZP w=.ok (.enter 141 args) w:=Vj func141 kr rfl
theorem ahn(w:Wa)(h:AI A c o s w)(ok:OkM c s):Calls ZP 321 #[L (E ⟨A.R,0,O⟩)] w λe w'=>e=ra (i6 (Ck c s))/\La w w':=by
 unfold Ck
 by_cases h5:s.rd.ph=5
 ·rw[Lq h5];exact NJ w (NX w h.tcR h5)
 ·rw[Lc h5]
  cases Z:s.cancelled with
  |true=>
   rw[Lq rfl];exact FQ w h.tcR h.can h5 h.p0.mR.1 (λe=>by rw[Z]at e;cases e) (λ_=>⟨rfl,rfl⟩) Kv (Kw w)
  |false=>
   rw[Lc sm];have X:=ok.rph
   rcases(by omega:s.rd.ph=1∨s.rd.ph=2∨s.rd.ph=3∨s.rd.ph=4)with e|e|e|e
   ·rw[Lq e];exact FQ w h.tcR h.can h5 h.p0.mR.1 (λ_=>by rw[e];rfl) (λe=>by rw[Z]at e;cases e) (Vj func139 kr rfl) λV Y=>abw V (h.bel Y) ok.num ok.nxt
   ·rw[Lc om,Lc om];exact FQ w h.tcR h.can h5 h.p0.mR.1 (λ_=>by rw[e];rfl) (λe=>by rw[Z]at e;cases e) Kv (Kw w)
   ·rw[Lc om,Lq e];exact FQ w h.tcR h.can h5 h.p0.mR.1 (λ_=>by rw[e];rfl) (λe=>by rw[Z]at e;cases e) (Vj func143 kr rfl) λV Y=>afJ V (h.bel Y)
   ·rw[Lc om,Lc om];exact FQ w h.tcR h.can h5 h.p0.mR.1 (λ_=>by rw[e];rfl) (λe=>by rw[Z]at e;cases e) Kv (Kw w)
theorem agZ(w:Wa)(h:AI A c o s w)(ok:OkM c s){i:Nat}{x:WkM}(Z:s.wk[i]?=E x)(Y:i<c.W)(hW:c.W<=8):Calls ZP 321 #[L (E ⟨A.Wk i,0,O⟩)] w λe w'=>e=ra (i6 (Er s i))/\La w w':=by
 have N:Er s i=if x.ph=4 then M else if x.ph=1 then Ep s else G:=by unfold Er;rw[Z]
 rw[N]
 by_cases h5:x.ph=4
 ·rw[Lq h5];exact NJ w (NX w (h.tcW Z om) h5)
 ·rw[Lc h5]
  cases X:s.cancelled with
  |true=>
   exact FQ w (h.tcW Z om) h.can h5 (h.p0.mW i Y).1 (λe=>by rw[X]at e;cases e) (λ_=>⟨rfl,rfl⟩) (Vj func151 kr rfl) λV U=>ae8 V (h.bel U) Z om
  |false=>
   have J:=ok.wkp i x Z
   rcases(by omega:x.ph=1∨x.ph=2∨x.ph=3)with e|e|e
   ·rw[Lq e];exact FQ w (h.tcW Z om) h.can h5 (h.p0.mW i Y).1 (λ_=>by rw[e];rfl) (λe=>by rw[X]at e;cases e) (Vj func147 kr rfl) λV U=>aam V (h.bel U) Z om
   ·rw[Lc om];exact FQ w (h.tcW Z om) h.can h5 (h.p0.mW i Y).1 (λ_=>by rw[e];rfl) (λe=>by rw[X]at e;cases e) Kv (Kw w)
   ·rw[Lc om];exact FQ w (h.tcW Z om) h.can h5 (h.p0.mW i Y).1 (λ_=>by rw[e];rfl) (λe=>by rw[X]at e;cases e) Kv (Kw w)
theorem aia(w:Wa)(h:AI A c o s w)(ok:OkM c s)(X:1<=c.R):Calls ZP 321 #[L (E ⟨A.M,0,O⟩)] w λe w'=>e=ra (i6 (EX c s))/\La w w':=by
 unfold EX
 by_cases h5:s.mph=3
 ·rw[Lq h5];exact NJ w (NX w h.tcM h5)
 ·rw[Lc h5]
  cases Z:s.cancelled with
  |true=>
   rw[Lq rfl];exact FQ w h.tcM h.can h5 h.p0.mM.1 (λe=>by rw[Z]at e;cases e) (λ_=>⟨rfl,rfl⟩) Kv (Kw w)
  |false=>
   rw[Lc sm];have U:=ok.mgp
   rcases(by omega:s.mph=1∨s.mph=2)with e|e
   ·rw[Lq e];exact FQ w h.tcM h.can h5 h.p0.mM.1 (λ_=>by rw[e];rfl) (λe=>by rw[Z]at e;cases e) (Vj func153 kr rfl) λV Y=>ac3 V (h.bel Y) ok.nxt X ok.gl
   ·rw[Lc om];exact FQ w h.tcM h.can h5 h.p0.mM.1 (λ_=>by rw[e];rfl) (λe=>by rw[Z]at e;cases e) (Vj func155 kr rfl) λV Y=>aej V (h.bel Y)
theorem ah8(w:Wa)(h:AI A c o s w)(ok:OkM c s):Calls ZP 321 #[L (E ⟨A.E,0,O⟩)] w λe w'=>e=ra (i6 (Fx s))/\La w w':=by
 unfold Fx
 by_cases h5:s.eph=2
 ·rw[Lq h5];exact NJ w (NX w h.tcE h5)
 ·rw[Lc h5];have X:=ok.emp;have e:s.eph=1:=by omega
  cases Y:s.cancelled with
  |true=>
   exact FQ w h.tcE h.can h5 h.p0.mE.1 (λe=>by rw[Y]at e;cases e) (λ_=>⟨rfl,rfl⟩) (Vj func158 kr rfl) λV Z=>aaj V (h.bel Z)
  |false=>
   exact FQ w h.tcE h.can h5 h.p0.mE.1 (λ_=>by rw[e];rfl) (λe=>by rw[Y]at e;cases e) (Vj func158 kr rfl) λV Z=>aaj V (h.bel Z)
theorem acu(w:Wa)(h:AI A c o s w)(Z:OkC c)(ok:OkM c s)(t:Nat)(X:t<c.W+3):Calls ZP 321 #[L (E ⟨adT A c t,0,O⟩)] w λe w'=>e=ra (i6 (Bj c s t))/\La w w':=by
 unfold Bj adT
 by_cases h0:t=0
 ·rw[Lq h0,Lq h0];exact ahn w h ok
 ·rw[Lc h0,Lc h0]
  by_cases h1:t<=c.W
  ·rw[Lq h1,Lq h1];have Y:t-1<lc s.wk:=by have:=ok.wl;omega
   exact agZ w h ok (Ar Y) om Z.W.2
  ·rw[Lc h1,Lc h1]
   by_cases h2:t=c.W+1
   ·rw[Lq h2,Lq h2];exact aia w h ok Z.R.1
   ·rw[Lc h2,Lc h2,Lq om];exact ah8 w h ok
theorem akh(h:AE A c o s w W)(U:OkC c)(ok:OkM c s)(Y:Ck c s=G):Calls ZP 322 #[L (E ⟨A.R,0,O⟩)] W λe w'=>e=ra (ta #[])/\AE A c o (stepR c s) w w':=by
 have h0:=h;obtain⟨o1,h1,z1,g1⟩:=h0;have h5:s.rd.ph≠5:=λe=>by unfold Ck at Y;rw[Lq e]at Y;cases Y
 have hp:=ok.rph;have hK:=U.K;have I:=U.wm;unfold stepR
 cases X:s.cancelled with
 |true=>
  rw[Lq rfl];exact FO W h1.tcR h1.can h5 h1.p0.mR.1 (λe=>by rw[X]at e;cases e) (λ_=>⟨rfl,rfl⟩) (Vj func146 kr rfl) λV Z=>afD w V (h.bel Z) ok.frl
 |false=>
  rw[Lc sm]
  rcases(by omega:s.rd.ph=1∨s.rd.ph=2∨s.rd.ph=3∨s.rd.ph=4)with e|e|e|e
  ·rw[Lq e];have ha:Du s.next c.R s.number=G:=by unfold Ck at Y;rw[Lc h5,X,Lc sm,Lq e]at Y;exact Y
   have D:=ok.tak e X ha;obtain⟨l,n,hf⟩:∃l n,s.fr=l++[n]:=⟨_,_,(Em D).symm⟩;have H:=ok.tal;exact FO W h1.tcR h1.can h5 h1.p0.mR.1 (λ_=>by rw[e];rfl) (λe=>by rw[X]at e;cases e) (Vj func140 kr rfl) λV Z=>afB w V (h.bel Z) n l hf ok.frl ok.frr ok.dl om om
  ·rw[Lc om,Lq e];obtain⟨J,B,C,b3,j,b5,v⟩:=ok.buf (.inl e);have H:=ok.tal;refine FO W h1.tcR h1.can h5 h1.p0.mR.1 (λ_=>by rw[e];rfl) (λe=>by rw[X]at e;cases e) (Vj func142 kr rfl) λV Z=>?_
   by_cases N:s.rs=[]
   ·exact afC w V (h.bel Z) N om om ok.frl (by have:=ok.tol;omega)
   ·exact aef w V (h.bel Z) J N om I j B C om ok.tol ok.rsl ok.rdl om
  ·rw[Lc om,Lc om,Lq e];have hq:lc s.q<c.Q:=by unfold Ck at Y;rw[Lc h5,X,Lc sm,Lc om,Lq e]at Y;exact Kf Y
   obtain⟨J,B,C,b3,j,b5,v⟩:=ok.buf (.inr e);exact FO W h1.tcR h1.can h5 h1.p0.mR.1 (λ_=>by rw[e];rfl) (λe=>by rw[X]at e;cases e) (Vj func144 kr rfl) λV Z=>aip w V (h.bel Z) J B C om v hq (ok.shu h5) ok.fah ok.num
  ·rw[Lc om,Lc om,Lc om];exact FO W h1.tcR h1.can h5 h1.p0.mR.1 (λ_=>by rw[e];rfl) (λe=>by rw[X]at e;cases e) (Vj func145 kr rfl) λV Z=>aau w V (h.bel Z)
theorem aj6(h:AE A c o s w W)(J:OkC c)(ok:OkM c s){i:Nat}{x:WkM}(Z:s.wk[i]?=E x)(N:i<c.W)(U:Er s i=G):Calls ZP 322 #[L (E ⟨A.Wk i,0,O⟩)] W λe w'=>e=ra (ta #[])/\AE A c o (stepW c s i) w w':=by
 have h0:=h;obtain⟨v,h1,B,j⟩:=h0;have hW:=J.W.2;have h5:x.ph≠4:=λe=>by unfold Er at U;rw[Z]at U;simp only[e,if_true]at U;cases U
 obtain⟨p1,p2,p3,p4⟩:=ok.wkp i x Z;unfold stepW;rw[IZ Z]
 cases X:s.cancelled with
 |true=>
  rw[Lq rfl];exact FO W (h1.tcW Z om) h1.can h5 (h1.p0.mW i N).1 (λe=>by rw[X]at e;cases e) (λ_=>⟨rfl,rfl⟩) (Vj func152 kr rfl) λV Y=>afZ w V (h.bel Y) Z om ok.frl
 |false=>
  rw[Lc sm]
  rcases(by omega:x.ph=1∨x.ph=2∨x.ph=3)with e|e|e
  ·rw[Lq e];exact FO W (h1.tcW Z om) h1.can h5 (h1.p0.mW i N).1 (λ_=>by rw[e];rfl) (λe=>by rw[X]at e;cases e) (Vj func148 kr rfl) λV Y=>abD w V (h.bel Y) Z om e
  ·rw[Lc om,Lq e];exact FO W (h1.tcW Z om) h1.can h5 (h1.p0.mW i N).1 (λ_=>by rw[e];rfl) (λe=>by rw[X]at e;cases e) (Vj func149 kr rfl) λV Y=>ag9 w V (h.bel Y) Z om e p3 (p4 e)
  ·rw[Lc om,Lc om];obtain⟨C,D,H,I⟩:=ok.wpu i x Z e X;exact FO W (h1.tcW Z om) h1.can h5 (h1.p0.mW i N).1 (λ_=>by rw[e];rfl) (λe=>by rw[X]at e;cases e) (Vj func150 kr rfl) λV Y=>ah5 w V (h.bel Y) Z om e ok.frl I ok.nxt C D H
theorem akx(h:AE A c o s w W)(U:OkC c)(ok:OkM c s)(Z:EX c s=G):Calls ZP 322 #[L (E ⟨A.M,0,O⟩)] W λe w'=>e=ra (ta #[])/\AE A c o (stepMg s) w w':=by
 have h0:=h;obtain⟨D,h1,H,v⟩:=h0;have h5:s.mph≠3:=λe=>by unfold EX at Z;rw[Lq e]at Z;cases Z
 have C:=ok.mgp;have B:=U.R;unfold stepMg
 cases X:s.cancelled with
 |true=>
  rw[Lq rfl];exact FO W h1.tcM h1.can h5 h1.p0.mM.1 (λe=>by rw[X]at e;cases e) (λ_=>⟨rfl,rfl⟩) (Vj func157 kr rfl) λV Y=>aeL w V (h.bel Y) ok.nxt
 |false=>
  rw[Lc sm]
  rcases(by omega:s.mph=1∨s.mph=2)with e|e
  ·rw[Lq e];refine FO W h1.tcM h1.can h5 h1.p0.mM.1 (λ_=>by rw[e];rfl) (λe=>by rw[X]at e;cases e) (Vj func154 kr rfl) λV Y=>?_
   cases N:s.rg with
   |nil=>have:=ok.gl;rw[N]at this;simp at this;omega
   |cons y r=>
    cases y with
    |none=>exact adg w V (h.bel Y) ok.nxt r N
    |some l=>exact ad4 w V (h.bel Y) ok.nxt l r N
  ·rw[Lc om];have I:lc s.out<c.O:=by unfold EX at Z;rw[Lc h5,X,Lc sm,Lc om]at Z;exact Kf Z
   refine FO W h1.tcM h1.can h5 h1.p0.mM.1 (λ_=>by rw[e];rfl) (λe=>by rw[X]at e;cases e) (Vj func156 kr rfl) λV Y=>?_
   cases J:s.left with
   |nil=>exact absurd J (ok.mgl e X)
   |cons q t=>exact aeA w V (h.bel Y) q t J I (ok.end_ h5)
theorem ait(h:AE A c o s w W)(N:OkC c)(ok:OkM c s)(Y:Fx s=G):Calls ZP 322 #[L (E ⟨A.E,0,O⟩)] W λe w'=>e=ra (ta #[])/\AE A c o (stepE c s) w w':=by
 have h0:=h;obtain⟨I,h1,J,D⟩:=h0;have h5:s.eph≠2:=λe=>by unfold Fx at Y;rw[Lq e]at Y;cases Y
 have H:=ok.emp;have e:s.eph=1:=by omega
 unfold stepE
 cases U:s.cancelled with
 |true=>
  rw[Lq rfl];exact FO W h1.tcE h1.can h5 h1.p0.mE.1 (λe=>by rw[U]at e;cases e) (λ_=>⟨rfl,rfl⟩) (Vj func160 kr rfl) λV Z=>adC w V (h.bel Z)
 |false=>
  rw[Lc sm];refine FO W h1.tcE h1.can h5 h1.p0.mE.1 (λ_=>by rw[e];rfl) (λe=>by rw[U]at e;cases e) (Vj func159 kr rfl) λV Z=>?_
  cases X:s.out with
  |nil=>exact aeZ w V (h.bel Z) X
  |cons q t=>exact adq w V (h.bel Z) q t X ok.ofl ok.tkl ok.tol2 ok.oul
theorem akA(h:AE A c o s w W)(Y:OkC c)(ok:OkM c s)(t:Nat)(V:t<c.W+3)(Z:Bj c s t=G):Calls ZP 322 #[L (E ⟨adT A c t,0,O⟩)] W λe w'=>e=ra (ta #[])/\AE A c o (Bi c s t) w w':=by
 unfold Bj at Z;unfold Bi adT
 by_cases h0:t=0
 ·rw[Lq h0]at Z⊢;rw[Lq h0];exact akh h Y ok Z
 ·rw[Lc h0]at Z⊢;rw[Lc h0]
  by_cases h1:t<=c.W
  ·rw[Lq h1]at Z⊢;rw[Lq h1];have X:t-1<lc s.wk:=by have:=ok.wl;omega
   exact aj6 h Y ok (Ar X) om Z
  ·rw[Lc h1]at Z⊢;rw[Lc h1]
   by_cases h2:t=c.W+1
   ·rw[Lq h2]at Z⊢;rw[Lq h2];exact akx h Y ok Z
   ·rw[Lc h2]at Z⊢;rw[Lc h2];rw[Lq om]at Z;exact ait h Y ok Z
end
theorem akD:(ZP.info? 3).map (λi=>(i.zero,i.size,i.bytes))=E (E (R K 0),1,8):=by kernel_rfl
def enF(c:CfM)(s:PlM)(i:Nat):List Int:=((List.range i).filter (Bj c s)).map λx:Nat=>(x:Int)
theorem amA(c:CfM)(s:PlM)(i:Nat):enF c s (i+1)=enF c s i++(if Bj c s i then [(i:Int)] else []):=by
 unfold enF;rw[El,List.filter_append,Aj];congr 1
 cases h:Bj c s i<;>simp[h]
theorem akl(c:CfM)(s:PlM)(i:Nat):(enF c s i).length<=i:=by unfold enF;rw[BP];exact AS (List.length_filter_le _ _) (by rw[List.length_range];exact AC _)
theorem adu{A:PAd}{c:CfM}{s:PlM}{o:Nat->Nat}(w:Wa)(h:AI A c o s w)(I:OkC c)(ok:OkM c s) :Calls ZP 29 #[L (E ⟨A.P,0,O⟩)] w λe w'=>∃v,e=ra v/\FR w' w.heap.size v (enF c s (c.W+3))/\La w w':=by
 obtain⟨N,hN⟩:∃N,c.W+3=N:=⟨_,rfl⟩;obtain⟨i0,hi,ae,ac,ab⟩:=Vh akD;have al:=h.g.ceP 15 (T (E ⟨A.TT,0,O⟩) N A.tc) λ_=>by rw[<-hN];rfl
 have hT:∀V,La w V->∀t,t<N->V.cell? ⟨A.TT,t,O⟩=E (.iface (tyT c t) (L (E ⟨adT A c t,0,O⟩)))/\Calls ZP 321 #[L (E ⟨adT A c t,0,O⟩)] V λe w'=>e=ra (i6 (Bj c s t))/\La V w':=λV hV t ht=>⟨(h.bel hV).task t om,acu V (h.bel hV) I ok t om⟩;have HT:=AA hT;have aq:N<=11:=by have:=I.W;omega
 have ar:=AA hN;rw[hN];clear h ok I hT hN;go_enter func29,ntmps29;go_upto_region 5 with fail
 go_loopw[3,13] (λs3 aa wr=>∃(i:Nat)(v3:Vk),i<=N/\v3=s3/\aa=R K i/\FR wr w.heap.size v3 (enF c s i)/\La w wr) (λ_ s _=>N-(intOf s).toNat)
 case atStart=>exact⟨0,_,AR _,rfl,rfl,BN _ _ _ _,Jj _ _⟩
 case round=>
  obtain⟨i,v3,ao,rfl,rfl,B,U⟩:=hrel
  by_cases ai:i<N
  ·have hd:decide ((i:Int)<N)=G:=by simp;omega
   obtain⟨a6,X⟩:=HT.out wr U i ai;obtain⟨ty,H⟩:∃ty,tyT c i=ty:=⟨_,rfl⟩;have am:∀n Ta w,Sem.run ZP (method (n+1) ty (L (E ⟨Ta,0,O⟩)) "teasel/pool.ready") w=.ok (321,L (E ⟨Ta,0,O⟩)) w:=λn Ta w=>by rw[<-H];exact agX _ (Jv c i) n Ta w
   obtain⟨Ta,C⟩:∃Ta,adT A c i=Ta:=⟨_,rfl⟩;rw[H,C]at a6;rw[C]at X;have J:=AA (amA c s i);have a8:=AA (akl c s i);obtain⟨b,hb⟩:∃b,Bj c s i=b:=⟨_,rfl⟩;rw[hb]at X J;have HQ:=AA X;have ak:=AA B;have i1:(0:Int)<=(i:Int):=by omega
   have i2:(i:Int)<(N:Int):=by omega
   clear X B hb C H;go_upto_region 7 with fail
   go_wp2_with fail
   refine HQ.out.mono ?_;rintro e w2 ⟨rfl,a7⟩;have a2:=U.trans (a7.mono U.size);have af:=a2.size;have Z:=DJ ak.out a7;clear a6 HQ
   cases b with
   |true=>
    obtain⟨LO,hL⟩:∃LO,enF c s i=LO:=⟨_,rfl⟩;rw[hL]at Z J a8;have ag:=a8.out
    go_wp2_with (at_builtin;refine wpList_append_own _ rfl _ _ 30 rfl w.heap.size 3 i0 (.int .i64 0) 1 8 underlying30 hi ae ac ab rfl (by decide) _ _ _ rfl (Z.alloc _) ⟨w2.heap.size,0,O⟩ 1 1 [.int .i64 i] rfl rfl (GI _ _ sm) (by simp[Value.oneCell']) (by unfold maxLen;omega) om (by simp;omega) ?_;intro v' w9 Y D ap)
    have aj:=(a2.alloc af (i7 #[R K (i:Int)] 3)).grown D (by simp;omega) (λj hj=>(Gw Z j hj).1);have a1:FR w9 w.heap.size v' (enF c s (i+1)):=by rw[J.out];unfold FR;simp only[if_true,List.length_append,Aj];exact Y
    clear Z Y ag
    go_roundw
    case rel=>exact⟨i+1,_,by omega,rfl,by go_num,a1,aj⟩
    case measure=>simp[intOf];omega
   |false=>
    have a1:FR w2 w.heap.size v3 (enF c s (i+1)):=by have e:=J.out;simp only[Bool.false_eq_true,if_false,Cx]at e;rw[e];exact Z
    clear Z;go_wp2
    go_roundw
    case rel=>exact⟨i+1,_,by omega,rfl,by go_num,a1,a2⟩
    case measure=>simp[intOf];omega
  ·obtain rfl:i=N:=by omega
   have hd:decide ((i:Int)<i)=M:=by simp
   go_wp2;go_ret;exact⟨_,rfl,B,U⟩
theorem ahX{A:PAd}{c:CfM}{s:PlM}{o:Nat->Nat}(w W:Wa)(h:AE A c o s w W)(Y:OkC c)(ok:OkM c s)(t:Nat)(I:t<c.W+3)(C:Bj c s t=G) :Calls ZP 44 #[L (E ⟨A.P,0,O⟩),R K (t:Int)] W λe w'=>e=ra (i6 G)/\AE A c o (Bi c s t) w w':=by
 obtain⟨N,j⟩:∃N,c.W+3=N:=⟨_,rfl⟩;have H:∀V,La W V->V.cell? ⟨A.P,15,O⟩=E (T (E ⟨A.TT,0,O⟩) N A.tc)/\V.cell? ⟨A.TT,t,O⟩=E (.iface (tyT c t) (L (E ⟨adT A c t,0,O⟩))):=λV B=>by have J:=h.bel B;exact⟨J.ceP 15 _ λ_=>by rw[<-j];rfl,J.low λo1 h1=>h1.task t I⟩
 have HR:Hid (Calls ZP 321 #[L (E ⟨adT A c t,0,O⟩)] W λe w'=>e=ra (i6 G)/\La W w'):=h.low λo1 h1=>by
  have:=acu W h1 Y ok t I
  rwa[C]at this
 have HS:Hid (∀V,La W V->Calls ZP 322 #[L (E ⟨adT A c t,0,O⟩)] V λe w'=>e=ra (ta #[])/\AE A c o (Bi c s t) w w'):=λV B=>akA (h.bel B) Y ok t I C;obtain⟨ty,Z⟩:∃ty,tyT c t=ty:=⟨_,rfl⟩;have a2:∀n Ta w,Sem.run ZP (method (n+1) ty (L (E ⟨Ta,0,O⟩)) "teasel/pool.ready") w=.ok (321,L (E ⟨Ta,0,O⟩)) w:=λn Ta w=>by rw[<-Z];exact agX _ (Jv c t) n Ta w
 have a6:∀n Ta w,Sem.run ZP (method (n+1) ty (L (E ⟨Ta,0,O⟩)) "teasel/pool.step") w=.ok (322,L (E ⟨Ta,0,O⟩)) w:=λn Ta w=>by rw[<-Z];exact anG _ (Jv c t) n Ta w
 obtain⟨Ta,U⟩:∃Ta,adT A c t=Ta:=⟨_,rfl⟩;rw[U]at HR HS;rw[Z,U]at H;have HK:=AA H;obtain⟨D,kt⟩:=H W (AH _ _);have d0:decide ((t:Int)<0)=M:=by simp
 have d1:decide ((t:Int)>=(N:Int))=M:=by simp;omega
 have d2:decide ((N:Int)<=(t:Int))=M:=by simp;omega
 have d3:decide (N<=t)=M:=by simp;omega
 have i1:(0:Int)<=(t:Int):=by omega
 have i2:(t:Int)<(N:Int):=by omega
 clear h Y ok I C j H U Z;go_enter func44,ntmps44;go_upto_region 3 with(go_at_call 321;refine HR.out.mono ?_;rintro e w1 ⟨rfl,X⟩;have v:=AA (HS.out _ X);obtain⟨a1,jt⟩:=HK.out _ X;clear X)
 clear D kt
 go_wp2_with (go_at_call 322;refine v.out.mono ?_;rintro e w2 ⟨rfl,J⟩;have HG:=AA J;clear J)
 go_ret;exact⟨rfl,HG.out⟩
theorem akS(n:Int){k:Nat}(h:0<k):Fz n k<k:=by unfold Fz;have h1:=Int.tmod_lt_of_pos (n.tmod k+k) (show(0:Int)<(k:Int) by omega);have h2:=Int.lt_tmod_of_pos n (show(0:Int)<(k:Int) by omega);have h3:=Int.tmod_nonneg (a:=n.tmod k+k) (k:Int) om;omega
theorem ak5(c:CfM)(s:PlM):enF c s (c.W+3)=(II c s).map λx:Nat=>(x:Int):=rfl
theorem acm{c:CfM}{s:PlM}{n:Int}(h:EZ c s n=O):II c s=[]:=by
 unfold EZ at h;rw[List.getElem?_eq_none_iff]at h
 cases Z:II c s with
 |nil=>rfl
 |cons y t=>
  rw[Z]at h;have:=akS n (k:=(y::t).length) sm;omega
theorem aaO{c:CfM}{s:PlM}{n:Int}{t:Nat}(h:EZ c s n=E t):t<c.W+3/\Bj c s t=G:=by unfold EZ at h;have:=AX h;unfold II at this;have h2:=List.mem_filter.1 this;exact⟨List.mem_range.1 h2.1,h2.2⟩
theorem ahi{A:PAd}{c:CfM}{s:PlM}{o:Nat->Nat}(w W:Wa)(h:AE A c o s w W)(Z:OkC c)(ok:OkM c s)(n:Int) :Calls ZP 17 #[L (E ⟨A.P,0,O⟩),R K n] W λe w'=>e=ra (ta (match EZ c s n with|none=>#[R K 0,i6 M]|some t=>#[R K (t:Int),i6 G]))/\AE A c o (Fi c s n) w w':=by
 obtain⟨k,hk⟩:∃k,(II c s).length=k:=⟨_,rfl⟩;have Y:(enF c s (c.W+3)).length=k:=by rw[ak5,BP];exact hk
 have D:k<=1000000:=by have:=akl c s (c.W+3);have:=Z.W;omega
 have HE:Hid (Calls ZP 29 #[L (E ⟨A.P,0,O⟩)] W λe w'=>∃a X,e=ra (T a k X)/\Sl1 (R K) w' a k (enF c s (c.W+3))/\AE A c o s w w'):=h.low λo1 h1=>(adu W h1 Z ok).mono λe w' ⟨v,h2,h3,h4⟩=>by obtain⟨a,X,rfl,_,U⟩:=Co (enc:=R K) h3;rw[Y]at h2 U;exact⟨a,X,h2,U,h.bel h4⟩
 have a2:=AA (Va Z ok);unfold Fi
 cases J:EZ c s n with
 |none=>
  have hz:=acm J;have I:k=0:=by rw[<-hk,hz];rfl
  subst I;clear h Z ok hk Y J hz D;go_enter func17,ntmps17
  go_wp2_with (first|(go_at_call 29;refine HE.out.mono ?_;rintro e w1 ⟨a,X,rfl,U,N⟩;have HG:=AA N;have B:=AA U;clear N U)|(go_at_call 43;refine(acE n a 0 X (enF c s (c.W+3)) _ B.out om).mono ?_;rintro e w2 ⟨rfl,rfl⟩))
  go_ret2;exact⟨rfl,HG.out⟩
 |some t=>
  obtain⟨ht,hr⟩:=aaO J;have I:k≠0:=by intro e;unfold EZ at J;have:=(AP.1 J).1;omega
  have H:(enF c s (c.W+3)).getD (Fz n k) 0=(t:Int):=by
   unfold EZ at J;rw[hk]at J;rw[ak5,DZ,BU,J]
   rfl
  have j:Hid (∀(a:Option Addr)(X:Nat) V,Sl1 (R K) V a k (enF c s (c.W+3))->Calls ZP 43 #[R K n,T a k X] V λe w'=>e=ra (ta #[R K (t:Int),i6 G])/\w'=V):=λa X V U=>by have:=acE n a k X (enF c s (c.W+3)) V U D;rw[Lc I,H]at this;exact this
  have C:Hid (∀V,AE A c o s w V->Calls ZP 44 #[L (E ⟨A.P,0,O⟩),R K (t:Int)] V λe w'=>e=ra (i6 G)/\AE A c o (Bi c s t) w w'):=λV N=>ahX w V N Z ok t ht hr;clear h Z ok hk Y J D I H ht hr;go_enter func17,ntmps17;go_upto_region 4 with(first|(go_at_call 29;refine HE.out.mono ?_;rintro e w1 ⟨a,X,rfl,U,N⟩;have HG:=AA N;have B:=AA U;clear N U)|(go_at_call 43;refine(j.out a X _ B.out).mono ?_;rintro e w2 ⟨rfl,rfl⟩))
  go_wp2_with (go_at_call 44;refine(C.out _ HG.out).mono ?_;rintro e w2 ⟨rfl,N⟩;have a1:=AA N;clear N)
  go_ret2;exact⟨rfl,a1.out⟩
def GY(c:CfM)(s:PlM)(t:Nat):Bool:=if t=0 then decide (s.rd.ph=5) else if t<=c.W then decide (phW s (t-1)=4) else if t=c.W+1 then decide (s.mph=3) else decide (s.eph=2)
theorem ajP{c:CfM}{s:PlM}(U:lc s.wk=c.W):Fd s=G↔∀t,t<c.W+3->GY c s t=G:=by
 unfold Fd;simp only[Bq,decide_eq_true_eq,List.all_eq_true]
 constructor
 ·rintro⟨⟨⟨h1,h2⟩,h3⟩,h4⟩ t V;unfold GY
  split
  ·simpa using h1
  ·split
   ·have Z:t-1<lc s.wk:=by omega
    have:=h2 _ (List.getElem_mem Z);rw[IZ (Ar Z)]
    simpa using this
   ·split
    ·simpa using h3
    ·simpa using h4
 ·intro h;refine⟨⟨⟨?_,λx X=>?_⟩,?_⟩,?_⟩
  ·have:=h 0 om;simpa[GY]using this
  ·obtain⟨i,Y⟩:=List.mem_iff_getElem?.1 X;have Z:i<lc s.wk:=(AP.1 Y).1;have:=h (i+1) om;unfold GY at this;rw[Lc om,Lq om,Jl,IZ Y]at this;exact Kf this
  ·have:=h (c.W+1) om;unfold GY at this;rw[Lc om,Lc om,Lq rfl]at this;exact Kf this
  ·have:=h (c.W+2) om;unfold GY at this;rw[Lc om,Lc om,Lc om]at this;exact Kf this
theorem ake{A:PAd}{c:CfM}{s:PlM}{o:Nat->Nat}(w:Wa)(h:AI A c o s w)(Y:OkC c)(U:lc s.wk=c.W)(t:Nat)(V:t<c.W+3):Calls ZP 319 #[L (E ⟨adT A c t,0,O⟩)] w λe w'=>e=ra (i6 (GY c s t))/\La w w':=by
 have go:∀{Ta a l mp:Nat}{sc sd:Vk},GL A.P Ta a l mp sc sd w->Calls ZP 319 #[L (E ⟨Ta,0,O⟩)] w λe w'=>e=ra (i6 (decide (a=l)))/\La w w':=λ{Ta a l mp sc sd} X=>by
  have:=NS Ta a l w X.c1 X.c2;have e:decide ((a:Int)=(l:Int))=decide (a=l):=by rw[Db];simp;omega
  rwa[e]at this
 unfold GY adT
 split
 ·exact go h.tcR
 ·split
  ·have Z:t-1<lc s.wk:=by omega
   rw[IZ (Ar Z)];exact go (h.tcW (Ar Z) (by have:=Y.W;omega))
  ·split
   ·exact go h.tcM
   ·exact go h.tcE
theorem ag2(ty:TypeId)(Z:Ky ty)(Ta:Nat)(b:Bool)(w:Wa)(h:Calls ZP 319 #[L (E ⟨Ta,0,O⟩)] w λe w'=>e=ra (i6 b)/\La w w') :Calls ZP 58 #[.iface ty (L (E ⟨Ta,0,O⟩))] w λe w'=>e=ra (i6 (!b))/\La w w':=by
 have V:=AA h;have X:∀n Ta w,Sem.run ZP (method (n+1) ty (L (E ⟨Ta,0,O⟩)) "teasel/pool.over") w=.ok (319,L (E ⟨Ta,0,O⟩)) w:=λn Ta w=>NY _ Z n Ta w;clear h Z;go_enter func58,ntmps58
 go_wp2_with (go_at_call 319;refine V.out.mono ?_;rintro e N ⟨rfl,Y⟩;have U:=AA Y;clear Y)
 go_ret;exact⟨rfl,U.out⟩
theorem adJ{A:PAd}{c:CfM}{s:PlM}{o:Nat->Nat}(w:Wa)(h:AI A c o s w)(U:OkC c)(j:lc s.wk=c.W) :Calls ZP 107 #[T (E ⟨A.TT,0,O⟩) (c.W+3) A.tc,.func (.func 58) #[] #[]] w λe w'=>∃r:Int,e=ra (R K r)/\decide (0<=r)=!Fd s/\La w w':=by
 obtain⟨N,hN⟩:∃N,c.W+3=N:=⟨_,rfl⟩;have hT:∀V,La w V->∀t,t<N->V.cell? ⟨A.TT,t,O⟩=E (.iface (tyT c t) (L (E ⟨adT A c t,0,O⟩)))/\Calls ZP 58 #[.iface (tyT c t) (L (E ⟨adT A c t,0,O⟩))] V λe w'=>e=ra (i6 (!GY c s t))/\La V w':=λV hV t ht=>⟨(h.bel hV).task t om,ag2 _ (Jv c t) _ _ V (ake V (h.bel hV) U j t om)⟩;have HT:=AA hT;have a7:N<=11:=by have:=U.W;omega
 have H:Fd s=G↔∀t,t<N->GY c s t=G:=by rw[<-hN];exact ajP j
 have v:=AA H;have eg:=Vj func58 kr rfl;rw[hN];clear h U hT hN H j;go_enter func107,ntmps107;go_upto_region 2 with fail
 go_loopw[8] (λs8 wr=>∃(i:Nat),i<=N/\s8=R K i/\(∀t,t<i->GY c s t=G)/\La w wr) (λs _=>N-(intOf s).toNat)
 case atStart=>exact⟨0,AR _,rfl,λt ht=>by omega,Jj _ _⟩
 case round=>
  obtain⟨i,a6,rfl,Z,X⟩:=hrel
  by_cases D:i<N
  ·have hd:decide ((i:Int)<N)=G:=by simp;omega
   obtain⟨I,Y⟩:=HT.out wr X i D;have HA:=AA Z;have a2:=AA D;obtain⟨ty,J⟩:∃ty,tyT c i=ty:=⟨_,rfl⟩;obtain⟨Ta,C⟩:∃Ta,adT A c i=Ta:=⟨_,rfl⟩;rw[J,C]at I Y;obtain⟨b,hb⟩:∃b,GY c s i=b:=⟨_,rfl⟩;rw[hb]at Y;have HQ:=AA Y;have HB:=AA hb;have i1:(0:Int)<=(i:Int):=by omega
   have i2:(i:Int)<(N:Int):=by omega
   clear Y hb C J Z;go_upto_region 4 with fail
   go_wp2_with fail
   refine HQ.out.mono ?_;rintro e w2 ⟨rfl,a1⟩;have B:=X.trans (a1.mono X.size);clear I HQ
   cases b with
   |false=>
    go_wp2;go_ret;refine⟨(i:Int),rfl,?_,B⟩;have:Fd s=M:=by
     cases ho:Fd s with
     |false=>rfl
     |true=>have:=v.out.1 ho i a2.out;rw[HB.out]at this;cases this
    rw[this];simp
   |true=>
    go_wp2
    go_roundw
    case rel=>exact⟨i+1,by omega,by go_num,λt ht=>by
     by_cases e:t=i
     ·rw[e];exact HB.out
     ·exact HA.out t om,B⟩
    case measure=>simp[intOf];omega
  ·obtain rfl:i=N:=by omega
   have hd:decide ((i:Int)<i)=M:=by simp
   have HA:=AA Z;clear Z;go_wp2;go_ret;refine⟨-1,rfl,?_,X⟩;rw[v.out.2 HA.out]
   rfl
theorem acf{A:PAd}{c:CfM}{s:PlM}{o:Nat->Nat}(w:Wa)(h:AI A c o s w)(Y:OkC c)(U:lc s.wk=c.W) :Calls ZP 59 #[T (E ⟨A.TT,0,O⟩) (c.W+3) A.tc,.func (.func 58) #[] #[]] w λe w'=>e=ra (i6 (!Fd s))/\La w w':=by
 have J:=AA (adJ w h Y U);obtain⟨b,Z⟩:∃b,Fd s=b:=⟨_,rfl⟩;obtain⟨N,X⟩:∃N,c.W+3=N:=⟨_,rfl⟩;rw[Z,X]at J;rw[Z,X];clear h Y U Z X;go_enter func59,ntmps59
 go_wp2_with (go_at_call 107;refine J.out.mono ?_;rintro e D ⟨r,rfl,V,Z⟩;have H:=AA Z;have I:=AA V;clear Z V)
 go_ret;refine⟨?_,H.out⟩;rw[<-I.out];rfl
theorem ahx{A:PAd}{c:CfM}{s:PlM}{o:Nat->Nat}(w:Wa)(h:AI A c o s w)(Y:OkC c)(U:lc s.wk=c.W) :Calls ZP 16 #[L (E ⟨A.P,0,O⟩)] w λe w'=>e=ra (i6 (Fd s))/\La w w':=by
 have J:=AA (acf w h Y U);have X:=h.g.ceP 15 (T (E ⟨A.TT,0,O⟩) (c.W+3) A.tc) λ_=>rfl;obtain⟨b,Z⟩:∃b,Fd s=b:=⟨_,rfl⟩;obtain⟨N,V⟩:∃N,c.W+3=N:=⟨_,rfl⟩;rw[Z,V]at J;rw[V]at X;rw[Z];clear h Y U Z V;go_enter func16,ntmps16
 go_wp2_with (go_at_call 59;refine J.out.mono ?_;rintro e H ⟨rfl,Z⟩;have I:=AA Z;clear Z)
 go_ret;refine⟨?_,I.out⟩;simp
theorem apX{A:PAd}{c:CfM}{s:PlM}{o:Nat->Nat}(w W:Wa)(h:AE A c o s w W)(Z:OkC c)(J:lc s.wk=c.W) :Calls ZP 21 #[L (E ⟨A.P,0,O⟩)] W λe w'=>e=ra (i6 (!(s.cancelled || Fd s)))/\AE A c o (LN s) w w':=by
 have V:=h.ceP 19 (i6 s.cancelled) λ_=>rfl;have I:Hid (Calls ZP 16 #[L (E ⟨A.P,0,O⟩)] W λe w'=>e=ra (i6 (Fd s))/\AE A c o s w w'):=h.low λj h1=>(ahx W h1 Z J).mono λe w' ⟨h2,h3⟩=>⟨h2,h.bel h3⟩;have N:=AA h
 cases Y:s.cancelled with
 |true=>
  rw[Y]at V;have X:LN s=s:=by unfold LN;rw[Y];rfl
  rw[X];clear h J Z Y X;go_enter func21,ntmps21;go_wp2;go_ret;exact⟨by simp,N.out⟩
 |false=>
  rw[Y]at V
  cases ho:Fd s with
  |true=>
   have X:LN s=s:=by unfold LN;rw[Y,ho];rfl
   rw[X];rw[ho]at I;clear h J Z Y X ho N;go_enter func21,ntmps21
   go_wp2_with (go_at_call 16;refine I.out.mono ?_;rintro e D ⟨rfl,U⟩;have N:=AA U;clear U)
   go_ret;exact⟨by simp,N.out⟩
  |false=>
   have X:LN s={s with cancelled:=G}:=by unfold LN;rw[Y,ho];rfl
   rw[X];rw[ho]at I;have v:=AA Y;clear h J Z X ho N Y;go_enter func21,ntmps21;go_upto_region 3 with(go_at_call 16;refine I.out.mono ?_;rintro e D ⟨rfl,U⟩)
   have B:=U.ceP 19 (i6 s.cancelled) λ_=>rfl;have C:=U.frP 19;have H:=AA (U.setP 19 (i6 G) {s with cancelled:=G} (λ_=>rfl) rfl (Ai.congr 1));clear U V;go_wp2;go_ret;exact⟨by simp,H.out⟩
section
variable {c:CfM}{s t:PlM}{i:Nat}{x:WkM}
theorem Ly(Z:s.wk[i]?=E x):leaveW s i=setW (Bv s x.blk.buf) i λ_=>wk0 1:=by unfold leaveW;rw[Z]
end
section
variable {c:CfM}{s t:PlM}{i k:Nat}{x:WkM}
theorem aaV:(takeW s i).cancelled=s.cancelled:=by unfold takeW;split<;>rfl
theorem aaz:(leaveW s i).cancelled=s.cancelled:=by unfold leaveW;split<;>rfl
theorem ae3(k:Nat):(Bi c s k).cancelled=s.cancelled:=by
 unfold Bi
 split
 ·unfold stepR
  split
  ·unfold stopR shutR backR
   split<;>rfl
  ·split
   ·rfl
   ·split
    ·unfold readR;dsimp only
     split
     ·split<;>rfl
     ·rfl
    ·split<;>rfl
 ·split
  ·unfold stepW
   split
   ·unfold stopW;dsimp only
    repeat' split
    all_goals first|rfl|exact aaV|exact aaz|exact aaz.trans aaV
   ·split
    ·exact aaV
    ·split
     ·rfl
     ·unfold putWM
      split
      ·rfl
      ·rw[aaz]
  ·split
   ·unfold stepMg takeM flushM Hr
    repeat' split
    all_goals rfl
   ·unfold stepE offerE Fr
    repeat' split
    all_goals rfl
structure MP(c:CfM)(s:PlM):Prop where
 r:Az s
 f:CD c s
theorem JH(Z:Er s i=G):∃x,s.wk[i]?=E x/\x.ph≠4:=by
 unfold Er at Z
 cases Y:s.wk[i]? with
 |none=>rw[Y]at Z;cases Z
 |some x=>
  rw[Y]at Z;exact⟨x,rfl,λe=>by dsimp only at Z;rw[Lq e]at Z;cases Z⟩
theorem MP.step(h:MP c s)(Z:Bj c s k=G):MP c (Bi c s k):=by
 unfold Bj at Z;unfold Bi
 split at Z
 ·rw[Lq (by assumption)];exact⟨h.r.stepR,h.f.stepR Z⟩
 ·rw[Lc (by assumption)]
  split at Z
  ·rw[Lq (by assumption)];obtain⟨x,Y,_⟩:=JH Z;exact⟨h.r.stepW Y,h.f.stepW⟩
  ·rw[Lc (by assumption)]
   split at Z
   ·rw[Lq (by assumption)];exact⟨h.r.stepMg,h.f.stepMg h.r Z⟩
   ·rw[Lc (by assumption)];exact⟨h.r.stepE,h.f.stepE⟩
theorem MP.cancel(h:MP c s):MP c (LN s):=by
 unfold LN
 split
 ·exact h
 ·exact⟨⟨h.r.ph,h.r.ho,h.r.wp,h.r.mp,h.r.ep⟩,⟨h.f.shu,h.f.en,h.f.ml,h.f.wl,h.f.gl,h.f.ql,h.f.ol⟩⟩
theorem ajE(Y:1<=c.W)(rs:Lb):MP c (Bn c rs):=by refine⟨⟨⟨AC _,by show 1<=5;decide⟩,by show M=G↔(1=2∨1=3);simp,λi x Z=>?_,⟨AC _,by show 1<=3;decide⟩,⟨AC _,by show 1<=2;decide⟩⟩,⟨rfl,rfl,λe=>by have e:(1:Nat)=2:=e;omega,CS,CS,AR _,AR _⟩⟩;have:=Ho (AX (show(List.replicate c.W (wk0 1))[i]?=E x from Z));rw[this];exact⟨AC _,by show 1<=4;decide⟩
def PJ(c:CfM)(s:PlM):List Int->PlM
 |[]=>s
 |n::l=>PJ c (Fi c s n) l
end
def Cj:Nat->List (Option (List AF))->List Nat
 |_,[]=>[]
 |n,O::t=>Cj (n+1) t
 |n,E _::t=>n::Cj (n+1) t
def GA(s:PlM):List Nat:=(If s).map Bc.num++Cj s.next s.rg
theorem abo:∀(n:Nat)(l:List (Option (List AF))),Cj n (l++[O])=Cj n l
 |n,[]=>rfl
 |n,O::t=>abo (n+1) t
 |n,E h::t=>congrArg (n::·) (abo (n+1) t)
theorem Ib(n y:Nat)(l:List Nat):(n::l).count y=l.count y+if y=n then 1 else 0:=by
 rw[List.count_cons]
 by_cases h:y=n
 ·subst h;simp
 ·have:¬n=y:=λe=>h e.symm;simp[h,this]
theorem abZ:∀(n j:Nat)(l:List (Option (List AF))) (h:List AF) (y:Nat),l[j]?=E O->(Cj n (l.set j (E h))).count y=(Cj n l).count y+if y=n+j then 1 else 0
 |n,j,[],h,y,hj=>by simp at hj
 |n,0,a::t,h,y,hj=>by
  cases AK hj
  show(n::Cj (n+1) t).count y=_;rw[Ib]
  rfl
 |n,j+1,O::t,h,y,hj=>by have:=abZ (n+1) j t h y hj;show(Cj (n+1) (t.set j (E h))).count y=(Cj (n+1) t).count y+_;rw[this,show n+1+j=n+(j+1) by omega]
 |n,j+1,E a::t,h,y,hj=>by have:=abZ (n+1) j t h y hj;show(n::Cj (n+1) (t.set j (E h))).count y=(n::Cj (n+1) t).count y+_;rw[Ib,Ib,this,show n+1+j=n+(j+1) by omega];omega
theorem ND:∀(n j:Nat)(l:List (Option (List AF))) (h:List AF),l[j]?=E (E h)->0<(Cj n l).count (n+j)
 |n,j,[],h,hj=>by simp at hj
 |n,0,a::t,h,hj=>by
  cases AK hj
  show 0<(n::Cj (n+1) t).count (n+0);rw[Ib,Lq om];omega
 |n,j+1,O::t,h,hj=>by have:=ND (n+1) j t h hj;show 0<(Cj (n+1) t).count (n+(j+1));rw[show n+(j+1)=n+1+j by omega];exact this
 |n,j+1,E a::t,h,hj=>by have:=ND (n+1) j t h hj;show 0<(n::Cj (n+1) t).count (n+(j+1));rw[Ib,show n+(j+1)=n+1+j by omega];omega
structure Ba(c:CfM)(s:PlM):Prop where
 le:s.next<=s.number/\s.number-s.next<=c.R
 cnt:∀y,(GA s).count y=if s.next<=y/\y<s.number then 1 else 0
 slot:s.rd.ph=2∨s.rd.ph=3->s.number-s.next<c.R
section
variable {c:CfM}{s t:PlM}{i:Nat}{x:WkM}
theorem Ea(s:PlM)(y:Nat):(GA s).count y=(s.q.map Bc.num).count y+((s.wk.flatMap hW).map Bc.num).count y+(Cj s.next s.rg).count y:=by unfold GA If;rw[En,Aj,En]
theorem Ba.same(h:Ba c s)(h1:t.next=s.next)(h2:t.number=s.number)(h3:∀y,(GA t).count y=(GA s).count y)(h4:t.rd.ph=2∨t.rd.ph=3->s.number-s.next<c.R):Ba c t:=⟨by rw[h1,h2];exact h.le,λy=>by rw[h3,h1,h2];exact h.cnt y,λe=>by rw[h1,h2];exact h4 e⟩
theorem Ba.takeW(h:Ba c s)(Z:s.wk[i]?=E x)(X:x.ph=1):Ba c (takeW s i):=by
 have h1:hW x=[]:=by unfold hW;rw[Lc om]
 unfold Proofs.YtaamacoicojhnaaGreat.takeW
 cases Y:s.q with
 |nil=>
  refine h.same rfl rfl (λy=>?_) h.slot;rw[Ea,Ea];have:=Ii Bc.num Z (λw=>{w with ph:=4}) y;rw[h1]at this;have h2:hW {x with ph:=4}=[]:=rfl;rw[h2]at this;simp only[setW];simp at this⊢;omega
 |cons b q=>
  refine h.same rfl rfl (λy=>?_) h.slot;rw[Ea,Ea,Y];have:=Ii Bc.num Z (λw=>{w with ph:=2,blk:=b}) y;rw[h1]at this;have h2:hW {x with ph:=2,blk:=b}=[b]:=rfl;rw[h2]at this;simp only[setW,BO,DE,Iw,List.count_cons]at this⊢;omega
theorem Ba.scanW(h:Ba c s)(X:s.wk[i]?=E x)(Y:x.ph=2):Ba c (scanW c s i):=by
 unfold Proofs.YtaamacoicojhnaaGreat.scanW;refine h.same rfl rfl (λy=>?_) h.slot;rw[Ea,Ea];have:=Ii Bc.num X (λw=>{w with node:=(c.scan w.blk.start w.blk.warm w.blk.data w.node w.done).1,done:=(c.scan w.blk.start w.blk.warm w.blk.data w.node w.done).2.1,hits:=w.hits++(c.scan w.blk.start w.blk.warm w.blk.data w.node w.done).2.2.1,ph:=if(c.scan w.blk.start w.blk.warm w.blk.data w.node w.done).2.2.2 then 3 else w.ph}) y;have h1:hW x=[x.blk]:=by unfold hW;rw[Lq (.inl Y)]
 have h2:∀(n d:Nat)(Z:List AF)(b:Bool),hW {x with node:=n,done:=d,hits:=Z,ph:=if b then 3 else x.ph}=[x.blk]:=λn d Z b=>by unfold hW;rw[Lq (by cases b<;>simp[Y])]
 rw[h1,h2]at this;simp only[setW];omega
theorem Ba.place(h:Ba c s)(D:lc s.rg=c.R)(N:s.wk[i]?=E x)(J:x.ph=2∨x.ph=3):s.next<=x.blk.num/\x.blk.num<s.number/\x.blk.num-s.next<c.R/\s.rg[x.blk.num-s.next]?=E O:=by
 have h1:hW x=[x.blk]:=by unfold hW;rw[Lq J]
 have V:=h.cnt x.blk.num;rw[Ea]at V;have I:0<((s.wk.flatMap hW).map Bc.num).count x.blk.num:=Iv.2 (Be.2 ⟨x.blk,Ir.2 ⟨x,AX N,by rw[h1];simp⟩,rfl⟩);have Z:s.next<=x.blk.num/\x.blk.num<s.number:=Md λY=>by rw[Lc Y]at V;omega
 rw[Lq Z]at V;have H:=h.le;refine⟨Z.1,Z.2,by omega,?_⟩;have X:x.blk.num-s.next<lc s.rg:=by omega
 have e:s.rg[x.blk.num-s.next]?=E s.rg[x.blk.num-s.next]:=Ar X
 cases U:s.rg[x.blk.num-s.next]with
 |none=>rw[e,U]
 |some r=>
  have:=ND s.next _ s.rg r (by rw[e,U]);rw[show s.next+(x.blk.num-s.next)=x.blk.num by omega]at this;omega
theorem Ba.putWM(h:Ba c s)(X:lc s.rg=c.R)(Z:s.wk[i]?=E x)(Y:x.ph=2∨x.ph=3):Ba c (putWM s i):=by
 obtain⟨p1,p2,p3,p4⟩:=h.place X Z Y;have h1:hW x=[x.blk]:=by unfold hW;rw[Lq Y]
 unfold Proofs.YtaamacoicojhnaaGreat.putWM;rw[Z];dsimp only;rw[Ly (s:={s with rg:=s.rg.set (x.blk.num-s.next) (E x.hits)}) Z];refine h.same rfl rfl (λy=>?_) h.slot;rw[Ea,Ea];have h3:=Ii Bc.num Z (λ_=>wk0 1) y;have h2:hW (wk0 1)=[]:=rfl;rw[h1,h2,BO,DE,KO]at h3;have h4:=abZ s.next _ s.rg x.hits y p4;rw[show s.next+(x.blk.num-s.next)=x.blk.num by omega]at h4;simp only[setW,Bv,DE,Iw]at h3⊢;omega
end
section
variable {c:CfM}{s t:PlM}{i k:Nat}{x:WkM}
theorem Ha{s t:PlM}(h1:t.q=s.q)(h2:t.wk=s.wk)(h3:t.next=s.next)(h4:t.rg=s.rg)(y:Nat):(GA t).count y=(GA s).count y:=by rw[Ea,Ea,h1,h2,h3,h4]
theorem Ba.stepR(h:Ba c s)(N:s.cancelled=M)(Z:Ck c s=G):Ba c (stepR c s):=by
 have h5:s.rd.ph≠5:=λe=>by unfold Ck at Z;rw[Lq e]at Z;cases Z
 have Y:¬s.cancelled=G:=by rw[N];decide
 unfold Proofs.YtaamacoicojhnaaGreat.stepR;rw[Lc Y]
 split
 ·rename_i h1
  have ha:Du s.next c.R s.number=G:=by unfold Ck at Z;rw[Lc h5,Lc Y,Lq h1]at Z;exact Z
  unfold Du at ha;have J:=Kf (Bool.and_eq_true_iff.1 ha).2;exact h.same rfl rfl (Ha rfl rfl rfl rfl) λ_=>J
 ·split
  ·rename_i U h2
   have V:=h.slot (.inl h2);unfold readR;dsimp only
   split
   ·split
    ·exact h.same rfl rfl (Ha rfl rfl rfl rfl) λ_=>V
    ·exact h.same rfl rfl (Ha rfl rfl rfl rfl) λ_=>V
   ·exact h.same rfl rfl (Ha rfl rfl rfl rfl) λ_=>V
  ·split
   ·rename_i U I h3
    have V:=h.slot (.inr h3);have H:=h.le;unfold putR;refine⟨⟨by show s.next<=s.number+1;omega,by show s.number+1-s.next<=c.R;omega⟩,λy=>?_,λe=>?_⟩
    ·have X:=h.cnt y;rw[Ea]at X⊢;simp only[Aj,BO,DE,En,KO]
     by_cases e:y=s.number
     ·subst e;rw[Lc om]at X;rw[Lq rfl,Lq om];omega
     ·rw[Lc e]
      by_cases e2:s.next<=y/\y<s.number
      ·rw[Lq e2]at X;rw[Lq om];omega
      ·rw[Lc e2]at X;rw[Lc om];omega
    ·have e:(if s.rd.ended then 4 else 1)=2∨(if s.rd.ended then 4 else 1)=3:=e
     split at e<;>omega
   ·exact h.same rfl rfl (Ha rfl rfl rfl rfl) λe=>by
     have e:(5:Nat)=2∨(5:Nat)=3:=e;omega
theorem Ba.takeM(h:Ba c s):Ba c (takeM s):=by
 unfold Proofs.YtaamacoicojhnaaGreat.takeM
 split
 ·rename_i X r J
  have N:=h.cnt s.next;have h0:0<(Cj s.next s.rg).count s.next:=by rw[J];exact ND s.next 0 (E X::r) X rfl
  rw[Ea]at N;have H:s.next<s.number:=Md λI=>by rw[Lc om]at N;omega
  have v:=h.le;have Y:∀t:PlM,t.q=s.q->t.wk=s.wk->t.next=s.next+1->t.rg=r++[O]->t.number=s.number->t.rd=s.rd->Ba c t:=λt A e2 U B V C=>by
   refine⟨by rw[U,V];omega,λy=>?_,λe=>?_⟩
   ·have Z:=h.cnt y;rw[Ea,J]at Z;rw[Ea,A,e2,U,B,V,abo];have D:(Cj s.next (E X::r)).count y=(Cj (s.next+1) r).count y+if y=s.next then 1 else 0:=Ib _ _ _
    rw[D]at Z
    by_cases e:y=s.next
    ·subst e;rw[Lq rfl,Lq om]at Z;rw[Lc om];omega
    ·rw[Lc e]at Z
     by_cases e2:s.next<=y/\y<s.number
     ·rw[Lq e2]at Z;rw[Lq om];omega
     ·rw[Lc e2]at Z;rw[Lc om];omega
   ·rw[C]at e;have:=h.slot e;rw[U,V];omega
  split
  ·exact Y _ rfl rfl rfl rfl rfl rfl
  ·exact Y _ rfl rfl rfl rfl rfl rfl
 ·exact h.same rfl rfl (Ha rfl rfl rfl rfl) h.slot
theorem Ba.flushM(h:Ba c s):Ba c (flushM s):=by
 unfold Proofs.YtaamacoicojhnaaGreat.flushM
 split
 ·exact h
 ·exact h.same rfl rfl (Ha rfl rfl rfl rfl) h.slot
theorem Ba.offerE(h:Ba c s):Ba c (offerE c s):=by
 unfold Proofs.YtaamacoicojhnaaGreat.offerE
 split
 ·exact h.same rfl rfl (Ha rfl rfl rfl rfl) h.slot
 ·split
  ·exact h.same rfl rfl (Ha rfl rfl rfl rfl) h.slot
  ·exact h.same rfl rfl (Ha rfl rfl rfl rfl) h.slot
theorem Ba.step(h:Ba c s)(N:CD c s)(U:Az s)(V:s.cancelled=M)(Y:Bj c s k=G):Ba c (Bi c s k):=by
 have Z:¬s.cancelled=G:=by rw[V];decide
 unfold Bj at Y;unfold Bi
 split at Y
 ·rw[Lq (by assumption)];exact h.stepR V Y
 ·rw[Lc (by assumption)]
  split at Y
  ·rw[Lq (by assumption)];obtain⟨x,X,h4⟩:=JH Y;have J:=U.wp _ x X;unfold stepW;rw[Lc Z,Fc X]
   split
   ·exact h.takeW X (by assumption)
   ·split
    ·exact h.scanW X (by assumption)
    ·exact h.putWM N.gl X om
  ·rw[Lc (by assumption)]
   split at Y
   ·rw[Lq (by assumption)];unfold stepMg;rw[Lc Z]
    split
    ·exact h.takeM
    ·exact h.flushM
   ·rw[Lc (by assumption)];unfold stepE;rw[Lc Z];exact h.offerE
end
theorem aaF:∀(k n y:Nat),(List.range' n k).count y=if n<=y/\y<n+k then 1 else 0
 |0,n,y=>by rw[Lc om];rfl
 |k+1,n,y=>by
  rw[List.range'_succ,Ib,aaF k (n+1) y]
  by_cases e:y=n
  ·rw[Lq e,Lc om,Lq om]
  ·rw[Lc e]
   by_cases e2:n+1<=y/\y<n+1+k
   ·rw[Lq e2,Lq om]
   ·rw[Lc e2,Lc om]
theorem acz:∀(n k:Nat),Cj n (List.replicate k O)=[]
 |n,0=>rfl
 |n,k+1=>by rw[Ip];exact acz (n+1) k
section
variable {c:CfM}{s t:PlM}{i k:Nat}{x:WkM}
theorem Ba.len(h:Ba c s):(GA s).length=s.number-s.next:=by
 have Y:=h.le;have Z:(GA s).Perm (List.range' s.next (s.number-s.next)):=OI.2 λy=>by rw[h.cnt y,aaF,show s.next+(s.number-s.next)=s.number by omega]
 rw[Z.length_eq,List.length_range']
theorem AW.free(hB:AW c s)(V:Ba c s)(X:Az s)(U:s.rd.ph=1)(ha:Du s.next c.R s.number=G):s.fr≠[]:=λY=>by have h1:=hB.perm.length_eq;rw[Y,Av,List.length_range]at h1;have h2:rdB s.rd=[]:=NK (by cases Z:s.rd.holds with|false=>rfl|true=>have:=X.ho.1 Z;omega);have h3:=V.len;unfold Cu at h1;unfold GA at h3;rw[h2,Av,BP]at h1;rw[List.length_append,BP]at h3;unfold Du at ha;have Z:=Kf (Bool.and_eq_true_iff.1 ha).2;omega
structure EE(c:CfM)(s:PlM):Prop where
 a:MP c s
 b:AW c s
 n:s.cancelled=false->Ba c s
theorem EE.step(h:EE c s)(Z:Bj c s k=G):EE c (Bi c s k):=by
 refine⟨h.a.step Z,?_,λY=>?_⟩
 ·have N:=Z;unfold Bj at Z;unfold Bi
  split at Z
  ·rw[Lq (by assumption)];have h5:s.rd.ph≠5:=λe=>by unfold Ck at Z;rw[Lq e]at Z;cases Z
   refine h.b.stepR h.a.r h5 λY X=>h.b.free (h.n Y) h.a.r X ?_;have V:¬s.cancelled=G:=by rw[Y];decide
   unfold Ck at Z;rw[Lc h5,Lc V,Lq X]at Z;exact Z
  ·rw[Lc (by assumption)]
   split at Z
   ·rw[Lq (by assumption)];obtain⟨x,U,h4⟩:=JH Z;have X:=h.a.r.wp _ x U;exact h.b.stepW U om
   ·rw[Lc (by assumption)]
    split at Z
    ·rw[Lq (by assumption)];exact h.b.stepMg
    ·rw[Lc (by assumption)];exact h.b.stepE
 ·rw[ae3]at Y;exact(h.n Y).step h.a.f h.a.r Y Z
theorem EE.cancel(h:EE c s):EE c (LN s):=by
 refine⟨h.a.cancel,?_,?_⟩
 ·unfold LN
  split
  ·exact h.b
  ·exact h.b.rdO rfl rfl rfl rfl rfl rfl rfl
 ·unfold LN
  split
  ·exact h.n
  ·intro e;cases e
theorem ajp(Y:1<=c.W)(rs:Lb):EE c (Bn c rs):=by
 have U:(List.replicate c.W (wk0 1)).flatMap Proofs.YtaamacoicojhnaaGreat.hW=[]:=by
  rw[List.flatMap_eq_nil_iff];intro x Z;rw[Ho Z]
  rfl
 have X:If (Bn c rs)=[]:=by show []++(List.replicate c.W (wk0 1)).flatMap Proofs.YtaamacoicojhnaaGreat.hW=[];rw[U];rfl
 have V:Cu (Bn c rs)=[]:=by unfold Cu;rw[X];rfl
 refine⟨ajE Y rs,⟨?_,CS,CS,λx Z=>?_,λx Z=>?_⟩,λ_=>⟨⟨AC _,AR _⟩,λy=>?_,λe=>?_⟩⟩
 ·rw[V,Cx];exact List.reverse_perm _
 ·have Z:x∈(List.range c.R).reverse:=Z;rw[List.mem_reverse,List.mem_range]at Z;exact List.getElem?_replicate_of_lt Z
 ·rw[V]at Z;cases Z
 ·have e:GA (Bn c rs)=[]:=by unfold GA;rw[X];exact acz 0 c.R
  rw[e,Lc (by show ¬(0<=y/\y<0);omega)]
  rfl
 ·have e:(1:Nat)=2∨(1:Nat)=3:=e;omega
end
theorem ah3(KB own:Nat)(rs:Lb):(BR ((KB:Int)-own) rs).length<=KB:=by
 cases rs with
 |nil=>exact AR _
 |cons x t=>
  show(if(KB:Int)-own<1 then [] else Dg ((KB:Int)-own) x).length<=KB
  by_cases h:(KB:Int)-own<1
  ·rw[Lq h];exact AR _
  ·rw[Lc h];unfold Dg
   by_cases h2:(lc x:Int)<=(KB:Int)-own
   ·rw[Lq h2];omega
   ·rw[Lc h2,Ag];omega
structure BJ(c:CfM)(H D n:Nat)(s:PlM):Prop where
 num:s.number<=n
 nxt:s.next<=n
 rea:s.read<=256*n
 tol:s.told<=256*n
 off:s.off<=n
 tk:s.tk.length<=n
 took:s.took.length<=n
 ahe:s.rd.ahead<=256*n
 hit:∀(i:Nat)(x:WkM),s.wk[i]?=some x->x.hits.length<=H*x.done/\x.done<=D
section
variable {c:CfM}{s t:PlM}{i k H D n:Nat}{x:WkM}
theorem BJ.up(h:BJ c H D n s):BJ c H D (n+1) s:=by obtain⟨V,a2,a3,a4,a5,X,Y,Z,a9⟩:=h;exact⟨by omega,by omega,by omega,by omega,by omega,by omega,by omega,by omega,a9⟩
theorem BJ.wk(h:BJ c H D n s)(B:t.number=s.number)(e2:t.next=s.next)(C:t.read=s.read)(I:t.told=s.told)(J:t.off=s.off)(N:t.tk=s.tk)(U:t.took=s.took)(V:t.rd.ahead=s.rd.ahead){f:WkM->WkM}(X:t.wk=s.wk.modify i f)(Z:s.wk[i]?=E x)(Y:(f x).hits.length<=H*(f x).done/\(f x).done<=D):BJ c H D n t:=by obtain⟨e,a2,a3,a4,a5,j,v,A,a9⟩:=h;exact⟨by rw[B];exact e,by rw[e2];exact a2,by rw[C];exact a3,by rw[I];exact a4,by rw[J];exact a5,by rw[N];exact j,by rw[U];exact v,by rw[V];exact A,by rw[X];exact Ju (p:=λy=>lc y.hits<=H*y.done/\y.done<=D) a9 Z Y⟩
theorem BJ.takeW(h:BJ c H D n s)(Z:s.wk[i]?=E x):BJ c H D n (takeW s i):=by
 have Y:=h.hit i x Z;unfold Proofs.YtaamacoicojhnaaGreat.takeW
 split
 ·exact h.wk (f:=λw=>{w with ph:=4}) rfl rfl rfl rfl rfl rfl rfl rfl rfl Z Y
 ·exact h.wk (f:=λw=>{w with ph:=2,blk:=_}) rfl rfl rfl rfl rfl rfl rfl rfl rfl Z Y
theorem BJ.leaveW(h:BJ c H D n s)(Z:s.wk[i]?=E x):BJ c H D n (leaveW s i):=by rw[Ly Z];exact h.wk (f:=λ_=>wk0 1) rfl rfl rfl rfl rfl rfl rfl rfl rfl Z ⟨AR _,AR _⟩
theorem BJ.putWM(h:BJ c H D n s)(Z:s.wk[i]?=E x):BJ c H D n (putWM s i):=by unfold Proofs.YtaamacoicojhnaaGreat.putWM;rw[Z];exact BJ.leaveW (s:={s with rg:=s.rg.set (x.blk.num-s.next) (E x.hits)}) ⟨h.num,h.nxt,h.rea,h.tol,h.off,h.tk,h.took,h.ahe,h.hit⟩ Z
theorem BJ.scanW(h:BJ c H D n s)(Z:s.wk[i]?=E x)(Y:x.done<=(c.scan x.blk.start x.blk.warm x.blk.data x.node x.done).2.1/\(c.scan x.blk.start x.blk.warm x.blk.data x.node x.done).2.1<=D/\(c.scan x.blk.start x.blk.warm x.blk.data x.node x.done).2.2.1.length<=H*((c.scan x.blk.start x.blk.warm x.blk.data x.node x.done).2.1-x.done)):BJ c H D (n+1) (scanW c s i):=by
 have X:=h.hit i x Z;unfold Proofs.YtaamacoicojhnaaGreat.scanW;refine h.up.wk (f:=λw=>{w with node:=(c.scan w.blk.start w.blk.warm w.blk.data w.node w.done).1,done:=(c.scan w.blk.start w.blk.warm w.blk.data w.node w.done).2.1,hits:=w.hits++(c.scan w.blk.start w.blk.warm w.blk.data w.node w.done).2.2.1,ph:=if(c.scan w.blk.start w.blk.warm w.blk.data w.node w.done).2.2.2 then 3 else w.ph}) rfl rfl rfl rfl rfl rfl rfl rfl rfl Z ?_;dsimp only;refine⟨?_,Y.2.1⟩;rw[List.length_append];have e:H*x.done+H*((c.scan x.blk.start x.blk.warm x.blk.data x.node x.done).2.1-x.done)=H*(c.scan x.blk.start x.blk.warm x.blk.data x.node x.done).2.1:=by rw[<-Nat.mul_add];congr 1;omega
 omega
theorem BJ.stopW(h:BJ c H D n s)(Z:s.wk[i]?=E x):BJ c H D n (stopW s i):=by
 unfold Proofs.YtaamacoicojhnaaGreat.stopW;dsimp only;have Y:=h.takeW Z;obtain⟨y,X⟩:=agA Z
 repeat' split
 all_goals first|exact Y|exact h|exact Y.leaveW X|exact h.leaveW Z
theorem BJ.stepR(h:BJ c H D n s)(X:c.K<=256):BJ c H D (n+1) (stepR c s):=by
 have Z:=h.up;have h3:=h.rea;have h4:=h.tol;have h1:=h.num;unfold Proofs.YtaamacoicojhnaaGreat.stepR
 split
 ·unfold stopR shutR backR
  split
  ·exact⟨Z.num,Z.nxt,Z.rea,Z.tol,Z.off,Z.tk,Z.took,Z.ahe,Z.hit⟩
  ·exact⟨Z.num,Z.nxt,Z.rea,Z.tol,Z.off,Z.tk,Z.took,Z.ahe,Z.hit⟩
 ·split
  ·exact⟨Z.num,Z.nxt,Z.rea,Z.tol,Z.off,Z.tk,Z.took,by show s.read<=_;exact Z.rea,Z.hit⟩
  ·split
   ·have Y:=ah3 c.K s.rd.own s.rs;unfold readR;dsimp only
    split
    ·split
     ·exact⟨Z.num,Z.nxt,Z.rea,Z.tol,Z.off,Z.tk,Z.took,Z.ahe,Z.hit⟩
     ·exact⟨Z.num,Z.nxt,Z.rea,Z.tol,Z.off,Z.tk,Z.took,Z.ahe,Z.hit⟩
    ·exact⟨Z.num,Z.nxt,by dsimp only;omega,by dsimp only;omega,Z.off,Z.tk,Z.took,Z.ahe,Z.hit⟩
   ·split
    ·exact⟨by show s.number+1<=n+1;omega,Z.nxt,Z.rea,Z.tol,Z.off,Z.tk,Z.took,Z.ahe,Z.hit⟩
    ·exact⟨Z.num,Z.nxt,Z.rea,Z.tol,Z.off,Z.tk,Z.took,Z.ahe,Z.hit⟩
theorem BJ.stepMg(h:BJ c H D n s):BJ c H D (n+1) (stepMg s):=by
 have Z:=h.up;have h2:=h.nxt;unfold Proofs.YtaamacoicojhnaaGreat.stepMg takeM flushM Hr
 repeat' split
 all_goals first
  |exact⟨Z.num,Z.nxt,Z.rea,Z.tol,Z.off,Z.tk,Z.took,Z.ahe,Z.hit⟩
  |exact⟨Z.num,by show s.next+1<=n+1;omega,Z.rea,Z.tol,Z.off,Z.tk,Z.took,Z.ahe,Z.hit⟩
theorem BJ.stepE(h:BJ c H D n s):BJ c H D (n+1) (stepE c s):=by
 have Z:=h.up;have h5:=h.off;have h6:=h.tk;have h7:=h.took;unfold Proofs.YtaamacoicojhnaaGreat.stepE offerE Fr
 repeat' split
 all_goals first
  |exact⟨Z.num,Z.nxt,Z.rea,Z.tol,Z.off,Z.tk,Z.took,Z.ahe,Z.hit⟩
  |exact⟨Z.num,Z.nxt,Z.rea,Z.tol,by show s.off+1<=n+1;omega,by show(s.tk++[_]).length<=n+1;rw[List.length_append];simp;omega,by show(s.took++[_]).length<=n+1;rw[List.length_append];simp;omega,Z.ahe,Z.hit⟩
  |exact⟨Z.num,Z.nxt,Z.rea,Z.tol,by show s.off+1<=n+1;omega,Z.tk,Z.took,Z.ahe,Z.hit⟩
theorem BJ.step(h:BJ c H D n s)(X:c.K<=256)(V:∀(i:Nat)(x:WkM),s.wk[i]?=E x->x.done<=(c.scan x.blk.start x.blk.warm x.blk.data x.node x.done).2.1/\(c.scan x.blk.start x.blk.warm x.blk.data x.node x.done).2.1<=D/\(c.scan x.blk.start x.blk.warm x.blk.data x.node x.done).2.2.1.length<=H*((c.scan x.blk.start x.blk.warm x.blk.data x.node x.done).2.1-x.done))(Y:Bj c s k=G):BJ c H D (n+1) (Bi c s k):=by
 unfold Bj at Y;unfold Bi
 split at Y
 ·rw[Lq (by assumption)];exact h.stepR X
 ·rw[Lc (by assumption)]
  split at Y
  ·rw[Lq (by assumption)];obtain⟨x,Z,h4⟩:=JH Y;unfold stepW
   repeat' split
   all_goals first
    |exact(h.stopW Z).up
    |exact(h.takeW Z).up
    |exact h.scanW Z (V _ x Z)
    |exact(h.putWM Z).up
  ·rw[Lc (by assumption)]
   split at Y
   ·rw[Lq (by assumption)];exact h.stepMg
   ·rw[Lc (by assumption)];exact h.stepE
end
def FS(l:List Int):Prop:=∀x∈l,0<=x/\x<=255
theorem alg(m:Int)(rs:Lb)(h:∀r∈rs,FS r):FS (BR m rs):=by
 cases rs with
 |nil=>intro x Z;cases Z
 |cons r t=>
  have Y:=h r sm;show FS (if m<1 then [] else Dg m r)
  split
  ·intro x Z;cases Z
  ·unfold Dg
   split
   ·exact Y
   ·intro x Z;exact Y x (EG Z)
theorem alu(m:Int)(rs:Lb)(LO:Nat)(h:∀r∈rs,FS r/\lc r<=LO):∀r∈EB m rs,FS r/\lc r<=LO:=by
 cases rs with
 |nil=>intro x Y;cases Y
 |cons r t=>
  have V:=h r sm;have X:∀q∈t,FS q/\lc q<=LO:=λq Z=>h q (by simp[Z]);show ∀q∈(if m<1 then r::t else GX m r t),FS q/\lc q<=LO
  split
  ·exact h
  ·unfold GX
   split
   ·exact X
   ·intro q Z
    rcases CR.1 Z with rfl|Z
    ·exact⟨λx Y=>V.1 x (Iq Y),by rw[List.length_drop];omega⟩
    ·exact X q Z
theorem ai1(KB own:Nat)(rs:Lb)(h:own<=KB):own+(BR ((KB:Int)-own) rs).length<=KB:=by
 cases rs with
 |nil=>exact h
 |cons x t=>
  show own+(if(KB:Int)-own<1 then [] else Dg ((KB:Int)-own) x).length<=KB
  by_cases h1:(KB:Int)-own<1
  ·rw[Lq h1];exact h
  ·rw[Lc h1];unfold Dg
   by_cases h2:(lc x:Int)<=(KB:Int)-own
   ·rw[Lq h2];omega
   ·rw[Lc h2,Ag];omega
structure Aq(c:CfM)(L:Nat)(s:PlM):Prop where
 tal:s.rd.tail.length<=c.wm/\FS s.rd.tail
 rsb:∀r∈s.rs,FS r/\r.length<=L
 buf:(s.rd.ph=2∨s.rd.ph=3)->∃x0,s.ds[s.rd.buf]?=some x0/\x0.length=s.rd.warm+s.rd.own/\s.rd.own<=c.K/\s.rd.warm<=c.wm/\FS x0
 q:∀b∈s.q,b.data.length<=c.K+c.wm
 wd:∀(i:Nat)(x:WkM),s.wk[i]?=some x->x.blk.data.length<=c.K+c.wm
section
variable {c:CfM}{s t:PlM}{i k LO:Nat}{x:WkM}
theorem Aq.same(h:Aq c LO s)(Z:t.rd=s.rd)(e2:t.rs=s.rs)(U:t.ds=s.ds)(V:∀b∈t.q,b∈s.q)(X:t.wk=s.wk):Aq c LO t:=⟨by rw[Z];exact h.tal,by rw[e2];exact h.rsb,by rw[Z,U];exact h.buf,λb Y=>h.q b (V b Y),by rw[X];exact h.wd⟩
theorem Aq.wk(h:Aq c LO s)(Z:t.rd=s.rd)(e2:t.rs=s.rs)(J:t.ds=s.ds)(N:∀b∈t.q,b∈s.q){f:WkM->WkM}(U:t.wk=s.wk.modify i f)(Y:s.wk[i]?=E x)(X:(f x).blk.data.length<=c.K+c.wm):Aq c LO t:=⟨by rw[Z];exact h.tal,by rw[e2];exact h.rsb,by rw[Z,J];exact h.buf,λb V=>h.q b (N b V),by rw[U];exact Ju (p:=λy=>lc y.blk.data<=c.K+c.wm) h.wd Y X⟩
theorem Aq.takeW(h:Aq c LO s)(Z:s.wk[i]?=E x):Aq c LO (takeW s i):=by
 have V:=h.wd i x Z;unfold Proofs.YtaamacoicojhnaaGreat.takeW
 split
 ·exact h.wk (f:=λw=>{w with ph:=4}) rfl rfl rfl (λb U=>U) rfl Z V
 ·rename_i b q Y
  exact h.wk (f:=λw=>{w with ph:=2,blk:=b}) rfl rfl rfl (λy X=>by rw[Y];exact MT _ X) rfl Z (h.q b (by rw[Y];simp))
theorem Aq.scanW(h:Aq c LO s)(Z:s.wk[i]?=E x):Aq c LO (scanW c s i):=by have Y:=h.wd i x Z;unfold Proofs.YtaamacoicojhnaaGreat.scanW;exact h.wk (f:=λw=>{w with node:=(c.scan w.blk.start w.blk.warm w.blk.data w.node w.done).1,done:=(c.scan w.blk.start w.blk.warm w.blk.data w.node w.done).2.1,hits:=w.hits++(c.scan w.blk.start w.blk.warm w.blk.data w.node w.done).2.2.1,ph:=if(c.scan w.blk.start w.blk.warm w.blk.data w.node w.done).2.2.2 then 3 else w.ph}) rfl rfl rfl (λb X=>X) rfl Z Y
theorem AW.other(h:AW c s)(U:Az s)(Y:s.wk[i]?=E x)(V:x.ph=2∨x.ph=3)(X:s.rd.ph=2∨s.rd.ph=3):x.blk.buf≠s.rd.buf:=λe=>by
 have h1:hW x=[x.blk]:=by unfold hW;rw[Lq V]
 have Z:=h.cnt x.blk.buf;rw[EQ,KG (U.ho.2 X),KO,Lq e]at Z;have N:0<((s.wk.flatMap hW).map Bc.buf).count x.blk.buf:=Iv.2 (Be.2 ⟨x.blk,Ir.2 ⟨x,AX Y,by rw[h1];simp⟩,rfl⟩)
 split at Z<;>omega
theorem Aq.leaveW(h:Aq c LO s)(hB:AW c s)(N:Az s)(Z:s.wk[i]?=E x)(U:x.ph=2∨x.ph=3):Aq c LO (leaveW s i):=by
 rw[Ly Z];refine⟨h.tal,h.rsb,λX=>?_,h.q,Ju (p:=λy=>lc y.blk.data<=c.K+c.wm) h.wd Z (AR _)⟩;obtain⟨Y,V,J⟩:=h.buf X;refine⟨Y,?_,J⟩;show(if Cr s.us x.blk.buf then s.ds.set x.blk.buf [] else s.ds)[s.rd.buf]?=E Y
 split
 ·rw[Gr,Lc (hB.other N Z U X)];exact V
 ·exact V
theorem Aq.putWM(h:Aq c LO s)(hB:AW c s)(Z:Az s)(Y:s.wk[i]?=E x)(X:x.ph=2∨x.ph=3):Aq c LO (putWM s i):=by unfold Proofs.YtaamacoicojhnaaGreat.putWM;rw[Y];exact Aq.leaveW (s:={s with rg:=s.rg.set (x.blk.num-s.next) (E x.hits)}) (h.same rfl rfl rfl (λb V=>V) rfl) (hB.ring _) ⟨Z.ph,Z.ho,Z.wp,Z.mp,Z.ep⟩ Y X
end
section
variable {c:CfM}{s t:PlM}{i k LO:Nat}{x:WkM}
theorem Aq.stopW(h:Aq c LO s)(hB:AW c s)(V:Az s)(Z:s.wk[i]?=E x)(J:1<=x.ph/\x.ph<=3):Aq c LO (stopW s i):=by
 unfold Proofs.YtaamacoicojhnaaGreat.stopW;rw[Fc Z]
 by_cases h1:x.ph=1
 ·dsimp only;rw[Lq h1];have Y:=h.takeW Z;have N:=hB.takeW Z h1;have U:=V.takeW Z
  cases X:s.q with
  |nil=>
   have e:(Proofs.YtaamacoicojhnaaGreat.takeW s i).wk[i]?=E {x with ph:=4}:=by unfold Proofs.YtaamacoicojhnaaGreat.takeW;rw[X];exact KW Z _
   rw[Fc e,Lq rfl];exact Y
  |cons b q=>
   have e:(Proofs.YtaamacoicojhnaaGreat.takeW s i).wk[i]?=E {x with ph:=2,blk:=b}:=by unfold Proofs.YtaamacoicojhnaaGreat.takeW;rw[X];exact KW Z _
   rw[Fc e,Lc (show ¬(2=4) by decide)];exact Y.leaveW N U e (.inl rfl)
 ·dsimp only;rw[Lc h1,Fc Z,Lc om];exact h.leaveW hB V Z om
theorem Aq.stepW(h:Aq c LO s)(hB:AW c s)(Y:Az s)(Z:s.wk[i]?=E x)(X:1<=x.ph/\x.ph<=3):Aq c LO (stepW c s i):=by
 unfold Proofs.YtaamacoicojhnaaGreat.stepW;rw[Fc Z]
 split
 ·exact h.stopW hB Y Z X
 ·split
  ·exact h.takeW Z
  ·split
   ·exact h.scanW Z
   ·exact h.putWM hB Y Z om
theorem Aq.rdN(h:Aq c LO s)(V:t.rd.tail=s.rd.tail)(e2:t.rs=s.rs)(X:¬(t.rd.ph=2∨t.rd.ph=3))(Y:t.q=s.q)(Z:t.wk=s.wk):Aq c LO t:=⟨by rw[V];exact h.tal,by rw[e2];exact h.rsb,λe=>absurd e X,by rw[Y];exact h.q,by rw[Z];exact h.wd⟩
theorem Aq.takeR(h:Aq c LO s)(hB:AW c s)(U:s.fr≠[]):Aq c LO (takeR s):=by
 obtain⟨n,Y⟩:∃n,s.fr.getLast?=E n:=⟨_,MV U⟩;have V:n∈s.fr:=by obtain⟨l,e⟩:=List.getLast?_eq_some_iff.1 Y;rw[e];simp
 have X:=hB.uf n V;have Z:n<lc s.ds:=by have:=(AP.1 X).1;rw[hB.ul]at this;rw[hB.dl];exact this
 unfold Proofs.YtaamacoicojhnaaGreat.takeR;rw[Y];refine⟨h.tal,h.rsb,λ_=>⟨s.rd.tail,?_,rfl,AR _,h.tal.1,h.tal.2⟩,h.q,h.wd⟩;show((s.ds.set n []).set n s.rd.tail)[n]?=E s.rd.tail;rw[Gr,Lq rfl,Lq (by rw[BG];exact Z)]
theorem Aq.readR(h:Aq c LO s)(D:s.rd.ph=2):Aq c LO (readR c s):=by
 obtain⟨V,X,B,I,J,N⟩:=h.buf (.inl D);have Y:=(AP.1 X).1;unfold Proofs.YtaamacoicojhnaaGreat.readR;dsimp only
 split
 ·split
  ·exact⟨h.tal,h.rsb,λ_=>⟨V,X,B,I,J,N⟩,h.q,h.wd⟩
  ·exact h.rdN rfl rfl (by show ¬((4:Nat)=2∨(4:Nat)=3);omega) rfl rfl
 ·have U:=alg ((c.K:Int)-s.rd.own) s.rs λr H=>(h.rsb r H).1;have C:=ai1 c.K s.rd.own s.rs I;refine⟨⟨by dsimp only;rw[List.length_drop];omega,λy Z=>?_⟩,alu _ _ _ h.rsb,λ_=>⟨V++BR ((c.K:Int)-s.rd.own) s.rs,?_,?_,?_,J,λy Z=>?_⟩,h.q,h.wd⟩
  ·rcases Bf.1 (Iq Z)with h1|h1
   ·exact h.tal.2 y h1
   ·exact U y h1
  ·dsimp only;rw[Gr,Lq rfl,Lq Y,DZ,X]
   rfl
  ·dsimp only;rw[List.length_append];omega
  ·dsimp only;exact C
  ·rcases Bf.1 Z with h1|h1
   ·exact N y h1
   ·exact U y h1
theorem Aq.putR(h:Aq c LO s)(Z:s.rd.ph=3):Aq c LO (putR c s):=by
 obtain⟨V,X,I,J,N,U⟩:=h.buf (.inr Z);unfold Proofs.YtaamacoicojhnaaGreat.putR;refine⟨h.tal,h.rsb,λe=>?_,λb Y=>?_,h.wd⟩
 ·have e:(if s.rd.ended then 4 else 1)=2∨(if s.rd.ended then 4 else 1)=3:=e
  split at e<;>omega
 ·rcases Bf.1 Y with h1|h1
  ·exact h.q b h1
  ·rw[Fq.1 h1];dsimp only;rw[DZ,X,CG];omega
theorem Aq.stepR(h:Aq c LO s)(hB:AW c s)(V:Az s)(h5:s.rd.ph≠5)(X:s.cancelled=M->s.rd.ph=1->s.fr≠[]):Aq c LO (stepR c s):=by
 have Z:¬((5:Nat)=2∨(5:Nat)=3):=by omega
 unfold Proofs.YtaamacoicojhnaaGreat.stepR
 split
 ·unfold stopR shutR backR
  split
  ·exact h.rdN rfl rfl Z rfl rfl
  ·exact h.rdN rfl rfl Z rfl rfl
 ·rename_i Y
  split
  ·exact h.takeR hB (X (by simpa using Y) (by assumption))
  ·split
   ·exact h.readR (by assumption)
   ·split
    ·exact h.putR (by assumption)
    ·exact h.rdN rfl rfl Z rfl rfl
theorem Aq.stepMg(h:Aq c LO s):Aq c LO (stepMg s):=by
 unfold Proofs.YtaamacoicojhnaaGreat.stepMg takeM flushM Hr
 repeat' split
 all_goals exact h.same rfl rfl rfl (λb Z=>Z) rfl
theorem Aq.stepE(h:Aq c LO s):Aq c LO (stepE c s):=by
 unfold Proofs.YtaamacoicojhnaaGreat.stepE offerE Fr
 repeat' split
 all_goals exact h.same rfl rfl rfl (λb Z=>Z) rfl
theorem Aq.step(h:Aq c LO s)(Y:EE c s)(Z:Bj c s k=G):Aq c LO (Bi c s k):=by
 unfold Bj at Z;unfold Bi
 split at Z
 ·rw[Lq (by assumption)];have h5:s.rd.ph≠5:=λe=>by unfold Ck at Z;rw[Lq e]at Z;cases Z
  refine h.stepR Y.b Y.a.r h5 λN X=>Y.b.free (Y.n N) Y.a.r X ?_;have V:¬s.cancelled=G:=by rw[N];decide
  unfold Ck at Z;rw[Lc h5,Lc V,Lq X]at Z;exact Z
 ·rw[Lc (by assumption)]
  split at Z
  ·rw[Lq (by assumption)];obtain⟨x,U,h4⟩:=JH Z;have X:=Y.a.r.wp _ x U;exact h.stepW Y.b Y.a.r U om
  ·rw[Lc (by assumption)]
   split at Z
   ·rw[Lq (by assumption)];exact h.stepMg
   ·rw[Lc (by assumption)];exact h.stepE
end
theorem aos{c:CfM}{s:PlM}{H D n LO:Nat}(V:OkC c)(J:EE c s)(Z:BJ c H D n s)(C:Aq c LO s)(hn:n<=3900)(a2:H*D<=1000000)(hL:LO<=1000000)(hH:∀(i:Nat)(x:WkM),s.wk[i]?=E x->x.done<=(c.scan x.blk.start x.blk.warm x.blk.data x.node x.done).2.1/\(c.scan x.blk.start x.blk.warm x.blk.data x.node x.done).2.1<=D/\(c.scan x.blk.start x.blk.warm x.blk.data x.node x.done).2.2.1.length<=H*((c.scan x.blk.start x.blk.warm x.blk.data x.node x.done).2.1-x.done)):OkM c s:=by
 have U:=J.a.r;have X:=J.a.f;have hB:=J.b;have w1:=V.W;have w2:=V.K;have w3:=V.R;have w4:=V.O;have w5:=V.F;have w6:=V.wm;have g1:=Z.num;have g2:=Z.nxt;have g3:=Z.rea;have g4:=Z.tol;have g5:=Z.off;have g6:=Z.tk;have g7:=Z.took;have g8:=Z.ahe;have N:=hB.perm.length_eq;rw[List.length_append,List.length_range]at N;have a1:=X.ol;refine⟨X.wl,X.gl,by omega,λx Y=>(AP.1 (hB.uf x Y)).1,by rw[hB.dl,hB.ul],by omega,by omega,by omega,by omega,λr hr=>AS (C.rsb r hr).2 hL,C.tal.1,by omega,by omega,by omega,by omega,U.ph,by omega,λh1 h2 h3=>hB.free (J.n h2) U h1 h3,λI=>?_,λh5=>by rw[X.shu,decide_eq_false h5],λi x Y=>?_,λi x Y I B=>?_,U.mp,λh1 _=>X.ml h1,λh3=>by rw[X.en,decide_eq_false h3],U.ep⟩
 ·obtain⟨A,q1,q2,q3,j,v⟩:=C.buf I;refine⟨A,hB.ut _ ?_,q1,q2,q3,j,v⟩;unfold Cu;rw[KG (U.ho.2 I)];simp
 ·have h1:=U.wp i x Y;have h2:=C.wd i x Y;have h3:=Z.hit i x Y;have h4:=hH i x Y;have e:H*x.done+H*((c.scan x.blk.start x.blk.warm x.blk.data x.node x.done).2.1-x.done)=H*(c.scan x.blk.start x.blk.warm x.blk.data x.node x.done).2.1:=by rw[<-Nat.mul_add];congr 1;omega
  have e2:=Nat.mul_le_mul_left H h4.2.1;exact⟨h1.1,h1.2,by omega,λ_=>by omega⟩
 ·obtain⟨p1,p2,p3,p4⟩:=(J.n B).place X.gl Y (.inr I);exact⟨p1,p3,p4,by omega⟩
theorem ajM{c:CfM}{H D:Nat}(rs:Lb):BJ c H D 0 (Bn c rs):=by refine⟨AC _,AC _,AC _,AC _,AC _,AC _,AC _,AC _,λi x Z=>?_⟩;have:=Ho (AX (show(List.replicate c.W (wk0 1))[i]?=E x from Z));rw[this];exact⟨AR _,AR _⟩
theorem ak3{c:CfM}{LO:Nat}(rs:Lb)(h:∀r∈rs,FS r/\lc r<=LO):Aq c LO (Bn c rs):=by
 refine⟨⟨AR _,λx Z=>by cases Z⟩,h,λe=>?_,λb Y=>(by cases Y),λi x Z=>?_⟩
 ·have e:(1:Nat)=2∨(1:Nat)=3:=e;omega
 ·have:=Ho (AX (show(List.replicate c.W (wk0 1))[i]?=E x from Z));rw[this];exact AR _
def ML(c:CfM)(H D:Nat):Prop:=∀(st wm:Nat)(bs:List Int)(z d:Nat),lc bs<=c.K+c.wm->d<=D->d<=(c.scan st wm bs z d).2.1/\(c.scan st wm bs z d).2.1<=D/\(c.scan st wm bs z d).2.2.1.length<=H*((c.scan st wm bs z d).2.1-d)
structure FC(c:CfM)(H D L n:Nat)(s:PlM):Prop where
 p:EE c s
 g:BJ c H D n s
 d:Aq c L s
section
variable {c:CfM}{s:PlM}{H D LO n k:Nat}
theorem FC.step(h:FC c H D LO n s)(X:c.K<=256)(V:ML c H D)(Z:Bj c s k=G):FC c H D LO (n+1) (Bi c s k):=⟨h.p.step Z,h.g.step X (λi x Y=>V _ _ _ _ _ (h.d.wd i x Y) (h.g.hit i x Y).2) Z,h.d.step h.p Z⟩
theorem FC.up(h:FC c H D LO n s):FC c H D LO (n+1) s:=⟨h.p,h.g.up,h.d⟩
theorem FC.pick(h:FC c H D LO n s)(Y:c.K<=256)(X:ML c H D)(m:Int):FC c H D LO (n+1) (Fi c s m):=by
 unfold Fi
 cases Z:EZ c s m with
 |none=>exact h.up
 |some k=>exact h.step Y X (aaO Z).2
theorem FC.cancel(h:FC c H D LO n s):FC c H D LO n (LN s):=by
 refine⟨h.p.cancel,?_,?_⟩
 ·unfold LN
  split
  ·exact h.g
  ·exact⟨h.g.num,h.g.nxt,h.g.rea,h.g.tol,h.g.off,h.g.tk,h.g.took,h.g.ahe,h.g.hit⟩
 ·unfold LN
  split
  ·exact h.d
  ·exact h.d.same rfl rfl rfl (λb Z=>Z) rfl
theorem FC.new(hW:1<=c.W)(rs:Lb)(h:∀r∈rs,FS r/\lc r<=LO):FC c H D LO 0 (Bn c rs):=⟨ajp hW rs,ajM rs,ak3 rs h⟩
theorem FC.ok(h:FC c H D LO n s)(V:OkC c)(X:n<=3900)(Z:H*D<=1000000)(U:LO<=1000000)(N:ML c H D):OkM c s:=aos V h.p h.g h.d X Z U λi x Y=>N _ _ _ _ _ (h.d.wd i x Y) (h.g.hit i x Y).2
end
abbrev blV(nu st wm:Int)(a:Option Addr)(n c:Nat):Array Vk:=#[R K nu,R K st,R K wm,T a n c]
def Dh(LO st wm:Int)(n:Nat):Bool:=decide (0<=st/\st<=4611686020574871551/\0<=wm/\wm<=LO-1/\wm<=st/\1<=(n:Int)-wm/\(n:Int)-wm<=256)
theorem agK{wss:Lb}(h:∀x∈wss,lc x<=1000000):0<=Au wss/\Au wss<=1000000:=by obtain⟨N,h1,_,h3⟩:=acs wss;have:=h3 1000000 h;omega
theorem adj{W0:Wa}{B:Nat}{fold:Bool}{wss:Lb}(nu st wm:Int)(a:Option Addr)(n c:Nat)(w:Wa)(h:ET W0 B fold wss w)(hn:n<=1000000) :Calls ZP 268 #[L (E ⟨B,0,O⟩),i8 (blV nu st wm a n c)] w λe w'=>e=ra (i6 (Dh (Au wss) st wm n))/\La w w':=by
 obtain⟨W,hW⟩:∃W,W=w.alloc (i7 (blV nu st wm a n c) 120):=⟨_,rfl⟩;have hB:La w W:=by rw[hW];exact AL _ _
 have hz:W.heap[w.heap.size]?=E (i7 (blV nu st wm a n c) 120 (0,0)):=by rw[hW];exact AT _ _
 have Z:Hid (∀V,La W V->V.cell? ⟨w.heap.size,0,O⟩=E (R K nu)/\V.cell? ⟨w.heap.size,1,O⟩=E (R K st)/\V.cell? ⟨w.heap.size,2,O⟩=E (R K wm)/\V.cell? ⟨w.heap.size,3,O⟩=E (T a n c)/\w.heap.size<V.heap.size):=λV hV=>by have h:=(hV.block _ (AD.1 hz).1).trans hz;exact⟨by simp[cell?,h],by simp[cell?,h],by simp[cell?,h],by simp[cell?,h],(AD.1 h).1⟩
 obtain⟨m0,m1⟩:=agK h.len;obtain⟨LO,hL⟩:∃n,Au wss=n:=⟨_,rfl⟩;have HU:=AA (h.below hB);have KS:Hid (∀V,La W V->Calls ZP 95 #[L (E ⟨B,0,O⟩)] V λe w'=>e=ra (R K LO)/\V=w'):=λV hV=>by have h:=(HU.out.below hV).longest;rw[hL]at h;exact h
 rw[hL]at m0 m1⊢;have I:=AA hB;obtain⟨q0,j,s,v,A⟩:=Z.out W (AH _ _);clear hz h hB hL HU;go_enter func268,ntmps268;go_upto_region 1 with fail
 rw[<-hW];clear hW
 by_cases h0:st<0
 ·have d0:decide (st<(0:Int))=G:=by simpa using h0
  have e:Dh LO st wm n=M:=by unfold Dh;simp;omega
  have J:=AA e;clear e h0;go_wp2;go_ret;exact⟨by rw[J.out];rfl,I.out⟩
 have d0:decide (st<(0:Int))=M:=by simpa using h0
 by_cases h1:4611686020574871551<st
 ·have d1:decide ((4611686020574871551:Int)<st)=G:=by simpa using h1
  have e:Dh LO st wm n=M:=by unfold Dh;simp;omega
  have J:=AA e;clear e h0 h1;go_wp2;go_ret;exact⟨by rw[J.out];rfl,I.out⟩
 have d1:decide ((4611686020574871551:Int)<st)=M:=by simpa using h1
 go_upto_region 3 with fail
 clear d0 d1
 by_cases h2:wm<0
 ·have d2:decide (wm<(0:Int))=G:=by simpa using h2
  have e:Dh LO st wm n=M:=by unfold Dh;simp;omega
  have J:=AA e;clear e h0 h1 h2;refine Ve ?_;refine Vd (S:=La W) kr (AN W 1) (λN=>?_);obtain⟨C,Y⟩:∃X,X=W.drew:=⟨_,rfl⟩;rw[<-Y]at N⊢;clear Y q0 j s v A;refine tkB 0 Z.out ?_;refine tkB 1 Z.out ?_;refine tkB 2 Z.out ?_;refine tkB 3 Z.out ?_;refine tkN 4 ?_
  try simp only[pq]
  refine tkN 5 ?_
  try simp only[pq]
  refine tkN 6 ?_
  try simp only[pq]
  refine tkN 7 ?_
  try simp only[pq]
  refine tkN 8 ?_
  try simp only[pq]
  refine tkN 9 ?_
  try simp only[pq]
  refine tkA 10 ?_;refine tkA 11 ?_;refine tkN 12 ?_
  try simp only[pq]
  refine tkN 13 ?_
  try simp only[pq]
  refine tkN 14 ?_
  try simp only[pq]
  refine tkN 15 ?_
  try simp only[pq]
  refine tkN 16 ?_
  try simp only[pq]
  refine tkA 17 ?_;refine Vg kr ?_ _;refine At ?_;have D:=AA N;go_wp2;go_ret;exact⟨by rw[J.out];rfl,I.out.trans (D.out.mono I.out.size)⟩
 have d2:decide (wm<(0:Int))=M:=by simpa using h2
 have a1:0<=wm:=by omega
 have kw:IntKind.i64.wrap (LO-1)=LO-1:=by rw[BK];omega
 by_cases h3:LO-1<wm
 ·have d3:decide (LO-1<wm)=G:=by simpa using h3
  have e:Dh LO st wm n=M:=by unfold Dh;simp;omega
  have J:=AA e;clear e h0 h1 h2 h3;refine Ve ?_;refine Vd (S:=La W) kr (AN W 1) (λN=>?_);obtain⟨C,Y⟩:∃X,X=W.drew:=⟨_,rfl⟩;rw[<-Y]at N⊢;clear Y q0 j s v A;refine tkB 0 Z.out ?_;refine tkB 1 Z.out ?_;refine tkB 2 Z.out ?_;refine tkB 3 Z.out ?_;refine tkB 4 Z.out ?_;refine tkB 5 Z.out ?_;refine tkB 6 Z.out ?_;refine rdy 7 (λKB H=>?_);go_simp
  go_at_call 95;refine(KS.out C N).mono ?_;rintro e w2 ⟨rfl,rfl⟩
  refine H.out _ _ (N) (λU=>?_);clear H KB
  try simp only[pq]
  refine tkA 8 ?_;refine tkA 9 ?_;refine tkA 10 ?_;refine tkA 11 ?_;refine tkN 12 ?_
  try simp only[pq]
  refine tkN 13 ?_
  try simp only[pq]
  refine tkN 14 ?_
  try simp only[pq]
  refine tkN 15 ?_
  try simp only[pq]
  refine tkN 16 ?_
  try simp only[pq]
  refine tkA 17 ?_;refine Vg kr ?_ _;refine At ?_;have D:=AA U;go_wp2;go_ret;exact⟨by rw[J.out];rfl,I.out.trans (D.out.mono I.out.size)⟩
 have d3:decide (LO-1<wm)=M:=by simp;omega
 by_cases h4:st<wm
 ·have d4:decide (st<wm)=G:=by simpa using h4
  have e:Dh LO st wm n=M:=by unfold Dh;simp;omega
  have J:=AA e;clear e h0 h1 h2 h3 h4;refine Ve ?_;refine Vd (S:=La W) kr (AN W 1) (λN=>?_);obtain⟨C,Y⟩:∃X,X=W.drew:=⟨_,rfl⟩;rw[<-Y]at N⊢;clear Y q0 j s v A;refine tkB 0 Z.out ?_;refine tkB 1 Z.out ?_;refine tkB 2 Z.out ?_;refine tkB 3 Z.out ?_;refine tkB 4 Z.out ?_;refine tkB 5 Z.out ?_;refine tkB 6 Z.out ?_;refine rdy 7 (λKB H=>?_);go_simp
  go_at_call 95;refine(KS.out C N).mono ?_;rintro e w2 ⟨rfl,rfl⟩
  refine H.out _ _ (N) (λU=>?_);clear H KB
  try simp only[pq]
  refine tkB 8 Z.out ?_;refine tkB 9 Z.out ?_;refine tkB 10 Z.out ?_;refine tkB 11 Z.out ?_;refine tkB 12 Z.out ?_;refine tkB 13 Z.out ?_;refine tkB 14 Z.out ?_;refine tkB 15 Z.out ?_;refine tkB 16 Z.out ?_;refine tkB 17 Z.out ?_;refine Vg kr ?_ _;refine At ?_;have D:=AA U;go_wp2;go_ret;exact⟨by rw[J.out];rfl,I.out.trans (D.out.mono I.out.size)⟩
 have d4:decide (st<wm)=M:=by simp;omega
 have a2:wm<=1000000:=by omega
 have e:Dh LO st wm n=(decide (1<=(n:Int)-wm)&&decide ((n:Int)-wm<=256)):=by unfold Dh;rw[Db];simp;omega
 have J:=AA e;clear e h0 h1 h2 h3 h4;refine Ve ?_;refine Vd (S:=La W) kr (AN W 1) (λN=>?_);obtain⟨C,Y⟩:∃X,X=W.drew:=⟨_,rfl⟩;rw[<-Y]at N⊢;clear Y q0 j s v A;refine tkB 0 Z.out ?_;refine tkB 1 Z.out ?_;refine tkB 2 Z.out ?_;refine tkB 3 Z.out ?_;refine tkB 4 Z.out ?_;refine tkB 5 Z.out ?_;refine tkB 6 Z.out ?_;refine rdy 7 (λKB H=>?_);go_simp
 go_at_call 95;refine(KS.out C N).mono ?_;rintro e w2 ⟨rfl,rfl⟩
 refine H.out _ _ (N) (λU=>?_);clear H KB
 try simp only[pq]
 refine tkB 8 Z.out ?_;refine tkB 9 Z.out ?_;refine tkB 10 Z.out ?_;refine tkB 11 Z.out ?_;refine tkB 12 Z.out ?_;refine tkB 13 Z.out ?_;refine tkB 14 Z.out ?_;refine tkB 15 Z.out ?_;refine tkB 16 Z.out ?_;refine tkB 17 Z.out ?_;refine Vg kr ?_ _;refine At ?_;have D:=AA U;obtain⟨q0,j,s,v,A⟩:=Z.out C U;clear N U d2 d3 d4
 by_cases h5:1<=(n:Int)-wm
 ·have d5:decide (1<=(n:Int)-wm)=G:=by simpa using h5
  rw[d5,FJ]at J;clear h5;go_wp2;go_ret;exact⟨by rw[J.out];rfl,I.out.trans (D.out.mono I.out.size)⟩
 ·have d5:decide (1<=(n:Int)-wm)=M:=by simpa using h5
  rw[d5,Bool.false_and]at J;clear h5;go_wp2;go_ret;exact⟨by rw[J.out];rfl,I.out.trans (D.out.mono I.out.size)⟩
abbrev prV(z d:Int):Vk:=i8 #[R K z,R K d]
def KK(N:Nat)(LO st wm:Int)(n:Nat)(z d:Int):Bool:=Dh LO st wm n&&decide ((0<=z/\z<(N:Int))/\0<=d/\d<=(n:Int))
theorem aao{W0:Wa}{B:Nat}{fold:Bool}{wss:Lb}(nu st wm:Int)(a:Option Addr)(n c:Nat)(z d:Int)(w:Wa)(h:ET W0 B fold wss w)(hn:n<=1000000) :Calls ZP 241 #[L (E ⟨B,0,O⟩),i8 (blV nu st wm a n c),prV z d] w λe w'=>e=ra (i6 (KK (AB wss).length (Au wss) st wm n z d))/\La w w':=by
 obtain⟨W,hW⟩:∃W,W=(w.alloc (i7 (blV nu st wm a n c) 120)).alloc (i7 #[R K z,R K d] 247):=⟨_,rfl⟩;have hB:La w W:=by rw[hW];exact((AH _ _).alloc (AC _) _).alloc sm _
 have hO:Bx w.heap.size [i7 (blV nu st wm a n c) 120,i7 #[R K z,R K d] 247] W:=by rw[hW];exact((Bx.nil _ w).snoc _ rfl).snoc _ sm
 have Z:Hid (∀V,La W V->V.cell? ⟨w.heap.size,0,O⟩=E (R K nu)/\V.cell? ⟨w.heap.size,1,O⟩=E (R K st)/\V.cell? ⟨w.heap.size,2,O⟩=E (R K wm)/\V.cell? ⟨w.heap.size,3,O⟩=E (T a n c)/\V.cell? ⟨w.heap.size+1,0,O⟩=E (R K z)/\V.cell? ⟨w.heap.size+1,1,O⟩=E (R K d)):=λV hV=>by have h:=hO.below hV;exact⟨h.cell (i:=0) rfl rfl,h.cell (i:=0) rfl rfl,h.cell (i:=0) rfl rfl,h.cell (i:=0) rfl rfl,h.cell (i:=1) rfl rfl,h.cell (i:=1) rfl rfl⟩
 have HU:=AA (h.below hB);obtain⟨N,hN⟩:∃k,(AB wss).length=k:=⟨_,rfl⟩;obtain⟨S,a1⟩:∃k,Dh (Au wss) st wm n=k:=⟨_,rfl⟩;have KS:Hid (∀V,La W V->Calls ZP 269 #[L (E ⟨B,0,O⟩)] V λe w'=>e=ra (R K (N:Int))/\V=w'):=λV hV=>by have h:=(HU.out.below hV).states;rw[hN]at h;exact h
 have KN:Hid (∀V,La W V->Calls ZP 268 #[L (E ⟨B,0,O⟩),i8 (blV nu st wm a n c)] V λe w'=>e=ra (i6 S)/\La V w'):=λV hV=>by have h:=adj nu st wm a n c V (HU.out.below hV) hn;rw[a1]at h;exact h
 unfold KK;rw[hN,a1];have A:=AA hB;clear hO h hB hN a1 HU
 cases S with
 |false=>
  have j:Hid ((M&&decide ((0<=z/\z<(N:Int))/\0<=d/\d<=(n:Int)))=M):=rfl;go_enter func241,ntmps241;go_upto_region 1 with fail
  rw[<-hW];clear hW;refine Ve ?_;refine Vd (S:=La W) kr (AN W 1) (λJ=>?_);obtain⟨v,Y⟩:∃X,X=W.drew:=⟨_,rfl⟩;rw[<-Y]at J⊢;clear Y;refine tkB 0 Z.out ?_;refine tkB 1 Z.out ?_;refine rdy 2 (λKB I=>?_);go_simp
  go_at_call 268;refine(KN.out v J).mono ?_;rintro e w2 ⟨rfl,H⟩
  refine I.out _ _ (J.trans (H.mono J.size)) (λU=>?_);clear I KB
  try simp only[pq]
  refine tkA 3 ?_;refine tkN 4 ?_
  try simp only[pq]
  refine tkN 5 ?_
  try simp only[pq]
  refine tkN 6 ?_
  try simp only[pq]
  refine tkA 7 ?_;refine tkA 8 ?_;refine tkN 9 ?_
  try simp only[pq]
  refine tkN 10 ?_
  try simp only[pq]
  refine tkN 11 ?_
  try simp only[pq]
  refine tkN 12 ?_
  try simp only[pq]
  refine tkN 13 ?_
  try simp only[pq]
  refine tkA 14 ?_;refine tkA 15 ?_;refine tkN 16 ?_
  try simp only[pq]
  refine tkN 17 ?_
  try simp only[pq]
  refine tkN 18 ?_
  try simp only[pq]
  refine tkA 19 ?_;refine tkA 20 ?_;refine tkN 21 ?_
  try simp only[pq]
  refine tkN 22 ?_
  try simp only[pq]
  refine tkN 23 ?_
  try simp only[pq]
  refine tkN 24 ?_
  try simp only[pq]
  refine tkN 25 ?_
  try simp only[pq]
  refine tkN 26 ?_
  try simp only[pq]
  refine tkA 27 ?_;refine tkA 28 ?_;refine Vg kr ?_ _;refine At ?_;have s:=AA U;go_wp2;go_ret;exact⟨by rw[j.out];rfl,A.out.trans (s.out.mono A.out.size)⟩
 |true=>
  by_cases h0:0<=z
  case neg=>
   have d0:decide ((0:Int)<=z)=M:=by simpa using h0
   have e:(G&&decide ((0<=z/\z<(N:Int))/\0<=d/\d<=(n:Int)))=M:=by
    rw[FJ]
    first|exact decide_eq_false om|exact Vb om
   have j:=AA e;clear e h0;go_enter func241,ntmps241;go_upto_region 1 with fail
   rw[<-hW];clear hW;refine Ve ?_;refine Vd (S:=La W) kr (AN W 1) (λJ=>?_);obtain⟨v,Y⟩:∃X,X=W.drew:=⟨_,rfl⟩;rw[<-Y]at J⊢;clear Y;refine tkB 0 Z.out ?_;refine tkB 1 Z.out ?_;refine rdy 2 (λKB I=>?_);go_simp
   go_at_call 268;refine(KN.out v J).mono ?_;rintro e w2 ⟨rfl,H⟩
   refine I.out _ _ (J.trans (H.mono J.size)) (λU=>?_);clear I KB
   try simp only[pq]
   refine tkB 3 Z.out ?_;refine tkB 4 Z.out ?_;refine tkB 5 Z.out ?_;refine tkB 6 Z.out ?_;refine tkB 7 Z.out ?_;refine tkB 8 Z.out ?_;refine tkN 9 ?_
   try simp only[pq]
   refine tkN 10 ?_
   try simp only[pq]
   refine tkN 11 ?_
   try simp only[pq]
   refine tkN 12 ?_
   try simp only[pq]
   refine tkN 13 ?_
   try simp only[pq]
   refine tkA 14 ?_;refine tkA 15 ?_;refine tkN 16 ?_
   try simp only[pq]
   refine tkN 17 ?_
   try simp only[pq]
   refine tkN 18 ?_
   try simp only[pq]
   refine tkA 19 ?_;refine tkA 20 ?_;refine tkN 21 ?_
   try simp only[pq]
   refine tkN 22 ?_
   try simp only[pq]
   refine tkN 23 ?_
   try simp only[pq]
   refine tkN 24 ?_
   try simp only[pq]
   refine tkN 25 ?_
   try simp only[pq]
   refine tkN 26 ?_
   try simp only[pq]
   refine tkA 27 ?_;refine tkA 28 ?_;refine Vg kr ?_ _;refine At ?_;have s:=AA U;go_wp2;go_ret;exact⟨by rw[j.out];rfl,A.out.trans (s.out.mono A.out.size)⟩
  have d0:decide ((0:Int)<=z)=G:=by simpa using h0
  by_cases h1:z<(N:Int)
  case neg=>
   have d1:decide (z<(N:Int))=M:=by simpa using h1
   have e:(G&&decide ((0<=z/\z<(N:Int))/\0<=d/\d<=(n:Int)))=M:=by
    rw[FJ]
    first|exact decide_eq_false om|exact Vb om
   have j:=AA e;clear e h0 h1;go_enter func241,ntmps241;go_upto_region 1 with fail
   rw[<-hW];clear hW;refine Ve ?_;refine Vd (S:=La W) kr (AN W 1) (λJ=>?_);obtain⟨v,Y⟩:∃X,X=W.drew:=⟨_,rfl⟩;rw[<-Y]at J⊢;clear Y;refine tkB 0 Z.out ?_;refine tkB 1 Z.out ?_;refine rdy 2 (λKB I=>?_);go_simp
   go_at_call 268;refine(KN.out v J).mono ?_;rintro e w2 ⟨rfl,H⟩
   refine I.out _ _ (J.trans (H.mono J.size)) (λU=>?_);clear I KB
   try simp only[pq]
   refine tkB 3 Z.out ?_;refine tkB 4 Z.out ?_;refine tkB 5 Z.out ?_;refine tkB 6 Z.out ?_;refine tkB 7 Z.out ?_;refine tkB 8 Z.out ?_;refine tkB 9 Z.out ?_;refine tkB 10 Z.out ?_;refine tkB 11 Z.out ?_;refine rdy 12 (λKB I=>?_);go_simp
   go_at_call 269;refine(KS.out w2 U).mono ?_;rintro e w3 ⟨rfl,rfl⟩
   refine I.out _ _ (U) (λC=>?_);clear I KB
   try simp only[pq]
   refine tkA 13 ?_;refine tkA 14 ?_;refine tkA 15 ?_;refine tkN 16 ?_
   try simp only[pq]
   refine tkN 17 ?_
   try simp only[pq]
   refine tkN 18 ?_
   try simp only[pq]
   refine tkA 19 ?_;refine tkA 20 ?_;refine tkN 21 ?_
   try simp only[pq]
   refine tkN 22 ?_
   try simp only[pq]
   refine tkN 23 ?_
   try simp only[pq]
   refine tkN 24 ?_
   try simp only[pq]
   refine tkN 25 ?_
   try simp only[pq]
   refine tkN 26 ?_
   try simp only[pq]
   refine tkA 27 ?_;refine tkA 28 ?_;refine Vg kr ?_ _;refine At ?_;have s:=AA C;go_wp2;go_ret;exact⟨by rw[j.out];rfl,A.out.trans (s.out.mono A.out.size)⟩
  have d1:decide (z<(N:Int))=G:=by simpa using h1
  by_cases h2:0<=d
  case neg=>
   have d2:decide ((0:Int)<=d)=M:=by simpa using h2
   have e:(G&&decide ((0<=z/\z<(N:Int))/\0<=d/\d<=(n:Int)))=M:=by
    rw[FJ]
    first|exact decide_eq_false om|exact Vb om
   have j:=AA e;clear e h0 h1 h2;go_enter func241,ntmps241;go_upto_region 1 with fail
   rw[<-hW];clear hW;refine Ve ?_;refine Vd (S:=La W) kr (AN W 1) (λJ=>?_);obtain⟨v,Y⟩:∃X,X=W.drew:=⟨_,rfl⟩;rw[<-Y]at J⊢;clear Y;refine tkB 0 Z.out ?_;refine tkB 1 Z.out ?_;refine rdy 2 (λKB I=>?_);go_simp
   go_at_call 268;refine(KN.out v J).mono ?_;rintro e w2 ⟨rfl,H⟩
   refine I.out _ _ (J.trans (H.mono J.size)) (λU=>?_);clear I KB
   try simp only[pq]
   refine tkB 3 Z.out ?_;refine tkB 4 Z.out ?_;refine tkB 5 Z.out ?_;refine tkB 6 Z.out ?_;refine tkB 7 Z.out ?_;refine tkB 8 Z.out ?_;refine tkB 9 Z.out ?_;refine tkB 10 Z.out ?_;refine tkB 11 Z.out ?_;refine rdy 12 (λKB I=>?_);go_simp
   go_at_call 269;refine(KS.out w2 U).mono ?_;rintro e w3 ⟨rfl,rfl⟩
   refine I.out _ _ (U) (λC=>?_);clear I KB
   try simp only[pq]
   refine tkB 13 Z.out ?_;refine tkB 14 Z.out ?_;refine tkB 15 Z.out ?_;refine tkB 16 Z.out ?_;refine tkB 17 Z.out ?_;refine tkB 18 Z.out ?_;refine tkB 19 Z.out ?_;refine tkB 20 Z.out ?_;refine tkN 21 ?_
   try simp only[pq]
   refine tkN 22 ?_
   try simp only[pq]
   refine tkN 23 ?_
   try simp only[pq]
   refine tkN 24 ?_
   try simp only[pq]
   refine tkN 25 ?_
   try simp only[pq]
   refine tkN 26 ?_
   try simp only[pq]
   refine tkA 27 ?_;refine tkA 28 ?_;refine Vg kr ?_ _;refine At ?_;have s:=AA C;go_wp2;go_ret;exact⟨by rw[j.out];rfl,A.out.trans (s.out.mono A.out.size)⟩
  have d2:decide ((0:Int)<=d)=G:=by simpa using h2
  obtain⟨D,hD⟩:∃D,decide (d<=(n:Int))=D:=⟨_,rfl⟩;have e:(G&&decide ((0<=z/\z<(N:Int))/\0<=d/\d<=(n:Int)))=D:=by rw[FJ,<-hD];simp[h0,h1,h2]
  have j:=AA e;clear e h0 h1 h2;go_enter func241,ntmps241;go_upto_region 1 with fail
  rw[<-hW];clear hW;refine Ve ?_;refine Vd (S:=La W) kr (AN W 1) (λJ=>?_);obtain⟨v,Y⟩:∃X,X=W.drew:=⟨_,rfl⟩;rw[<-Y]at J⊢;clear Y;refine tkB 0 Z.out ?_;refine tkB 1 Z.out ?_;refine rdy 2 (λKB I=>?_);go_simp
  go_at_call 268;refine(KN.out v J).mono ?_;rintro e w2 ⟨rfl,H⟩
  refine I.out _ _ (J.trans (H.mono J.size)) (λU=>?_);clear I KB
  try simp only[pq]
  refine tkB 3 Z.out ?_;refine tkB 4 Z.out ?_;refine tkB 5 Z.out ?_;refine tkB 6 Z.out ?_;refine tkB 7 Z.out ?_;refine tkB 8 Z.out ?_;refine tkB 9 Z.out ?_;refine tkB 10 Z.out ?_;refine tkB 11 Z.out ?_;refine rdy 12 (λKB I=>?_);go_simp
  go_at_call 269;refine(KS.out w2 U).mono ?_;rintro e w3 ⟨rfl,rfl⟩
  refine I.out _ _ (U) (λC=>?_);clear I KB
  try simp only[pq]
  refine tkB 13 Z.out ?_;refine tkB 14 Z.out ?_;refine tkB 15 Z.out ?_;refine tkB 16 Z.out ?_;refine tkB 17 Z.out ?_;refine tkB 18 Z.out ?_;refine tkB 19 Z.out ?_;refine tkB 20 Z.out ?_;refine tkB 21 Z.out ?_;refine tkB 22 Z.out ?_;refine tkB 23 Z.out ?_;refine tkB 24 Z.out ?_;refine tkB 25 Z.out ?_;refine tkB 26 Z.out ?_;refine tkB 27 Z.out ?_;refine tkB 28 Z.out ?_;refine Vg kr ?_ _;refine At ?_;have s:=AA C;go_wp2;go_ret;exact⟨by rw[j.out];rfl,A.out.trans (s.out.mono A.out.size)⟩
def DI(fold:Bool)(wss:Lb)(st wm:Int)(n:Nat)(z d:Int):Bool:=(An fold wss&&KA (AB wss).length z 0)&&Dh (Au wss) st wm n&&decide (0<=d/\d<=(n:Int))
def Dj(st:Int)(l:List AF):List AF:=l.filter λh=>decide (st<h.1)
theorem aa5(st:Int)(l m:List AF):Dj st (l++m)=Dj st l++Dj st m:=by unfold Dj;rw[List.filter_append]
def Am(n:Nat)(d m:Int):Nat:=(min (max m 0) ((n:Int)-d)).toNat
theorem Jw{n:Nat}{d m:Int}(h0:0<=d)(h1:d<=(n:Int)):d.toNat+Am n d m<=n:=by unfold Am;omega
def CU(bs:List Int)(d m:Int):List Int:=(bs.drop d.toNat).take (Am (lc bs) d m)
def Fs(fold:Bool)(ws:Lb)(st wm:Int)(bs:List Int)(z d m:Int):List AF:=Dj st (BQ fold ws z.toNat (st-wm+d) (CU bs d m))
def byN(F:List Int)(j:Nat):Int:=(F[j]?).getD 0
def enN(p:Int)(F:List Int)(j:Nat):Int:=p+((min j (lc F):Nat):Int)+1
def ndN(fold:Bool)(ws:Lb)(z:Nat)(F:List Int)(Z:List Nat):Nat:=Bp fold ws z (Z.map (byN F))
def hsN(fold:Bool)(ws:Lb)(st p:Int)(F:List Int):Nat->List Nat->List AF
 |_,[]=>[]
 |z,j::r=>(if st<enN p F j then(CA ws (EN fold ws z (byN F j))).map (λv=>((enN p F j,v):AF)) else [])++hsN fold ws st p F (EN fold ws z (byN F j)) r
section
variable {fold:Bool}{ws:Lb}{F:List Int}
theorem alM(Z:∀x∈F,0<=x/\x<256)(j:Nat):0<=byN F j/\byN F j<256:=by
 unfold byN
 cases h:F[j]? with
 |none=>simp
 |some x=>exact Z x (AX h)
theorem aor(p:Int)(j:Nat):p+1<=enN p F j/\enN p F j<=p+lc F+1:=by unfold enN;omega
theorem agY(z j:Nat)(Z:List Nat):ndN fold ws z F (Z++[j])=EN fold ws (ndN fold ws z F Z) (byN F j):=by
 unfold ndN;rw[Aj,No]
 rfl
theorem aoR{z:Nat}(Y:z<(AB ws).length)(Z:List Nat):ndN fold ws z F Z<(AB ws).length:=JY Y _
theorem acW(st p:Int)(j:Nat):∀(Z:List Nat)(z:Nat),hsN fold ws st p F z (Z++[j])=hsN fold ws st p F z Z++(if st<enN p F j then(CA ws (EN fold ws (ndN fold ws z F Z) (byN F j))).map (λv=>((enN p F j,v):AF)) else [])
 |[],z=>by simp[hsN,ndN,Bp]
 |i::Z,z=>by
  rw[CT];simp only[hsN];rw[acW st p j Z,CE]
  rfl
theorem aj7(st p:Int):∀(Z:List Nat)(z:Nat),z<(AB ws).length->(hsN fold ws st p F z Z).length<=(AB ws).length*lc Z
 |[],z,_=>by simp[hsN]
 |j::Z,z,hz=>by
  have Y:(AB ws)[z]?=E (AB ws)[z]:=Ar hz;have X:=(AP.1 (KU (fold:=fold) Y (byN F j)).1).1;have V:=aj7 st p Z (EN fold ws z (byN F j)) X;have h9:=LL ws (EN fold ws z (byN F j));simp only[hsN,List.length_append,Ao];rw[Nat.mul_succ]
  split
  ·rw[BP];omega
  ·simp;omega
theorem abB(z:Nat):∀k,k<=lc F->ndN fold ws z F (List.range k)=Bp fold ws z (F.take k)
 |0,_=>by simp[ndN]
 |k+1,h=>by
  have hk:F[k]?=E F[k]:=Ar om;rw[El,agY,abB z k om,LH,hk,No];unfold byN;rw[hk]
  rfl
theorem aeT(st p:Int)(z:Nat):∀k,k<=lc F->hsN fold ws st p F z (List.range k)=Dj st (BQ fold ws z p (F.take k))
 |0,_=>by simp[hsN,BQ,Dj]
 |k+1,h=>by
  have hk:F[k]?=E F[k]:=Ar om;rw[El,acW,aeT st p z k om,abB z k om,LH,hk,JE,aa5];congr 1;have Y:byN F k=F[k]:=by unfold byN;rw[hk];rfl
  have e2:enN p F k=p+((F.take k).length:Int)+1:=by unfold enN;rw[Ag]
  rw[Y,e2];show _=Dj st ((CA ws (EN fold ws (Bp fold ws z (F.take k)) F[k])).map (λv=>((p+((F.take k).length:Int)+1,v):AF))++[]);rw[Cx];unfold Dj
  split
  ·rename_i h1
   rw[List.filter_eq_self.2];intro x Z;obtain⟨v,_,rfl⟩:=Be.1 Z;exact Vb h1
  ·rename_i h1
   rw[List.filter_eq_nil_iff.2];intro x Z;obtain⟨v,_,rfl⟩:=Be.1 Z
   simpa using h1
end
theorem ahZ{n:Nat}{d k:Int}{j:Nat}(Y:d<=(n:Int))(Z:j<Am n d k):0<k-(j:Int)/\d+(j:Int)<(n:Int):=by unfold Am at Z;omega
theorem ai4{n:Nat}{d k:Int}(Z:d<=(n:Int)):¬0<k-(Am n d k:Int)∨¬d+(Am n d k:Int)<(n:Int):=by unfold Am;omega
theorem agu(bs:List Int)(d:Nat)(k:Int)(Z:d<=lc bs):(CU bs (d:Int) k).length=Am (lc bs) d k:=by unfold CU;rw[Ag,List.length_drop,Aa];have:=Jw (n:=lc bs) (d:=(d:Int)) (m:=k) om om;rw[Aa]at this;omega
theorem anR{bs:List Int}{d j:Nat}{k:Int}(Y:j<(CU bs (d:Int) k).length):bs[d+j]?=E (byN (CU bs (d:Int) k) j):=by
 unfold byN;have h:(CU bs (d:Int) k)[j]?=E (CU bs (d:Int) k)[j]:=Ar Y;obtain⟨y,Z⟩:∃y,(CU bs (d:Int) k)[j]=y:=⟨_,rfl⟩;rw[Z]at h;rw[h];unfold CU at h;rw[FT,Aa]at h
 split at h
 ·rw[Hm]at h;exact h
 ·cases h
theorem ann{N:Lb}{MH:Nat}(h0:[]∈N)(Z:∀y∈N,lc y<=MH)(p x:List Int)(Y:MH<=lc x):lsf N (p++x)=lsf N x:=by rw[<-agl h0 Z (p++x),<-agl h0 Z x,List.length_append,List.drop_append,List.drop_eq_nil_of_le om,Av];congr 2;omega
theorem agj{ws:Lb}{MH:Nat}(Z:∀y∈ws,lc y<=MH)(x:List Int)(Y:MH<=lc x):∀p,DF ws (p++x)=DF ws x
 |[]=>rfl
 |d::p=>by rw[CT,Od,Lc,Av,agj Z x Y p];intro X;have:=Z _ X;simp only[Ao,List.length_append]at this;omega
theorem aeU{ws:Lb}{MH:Nat}(Z:∀y∈ws,lc y<=MH)(p:List Int):∀(b x:List Int)(at_:Int),(p=[]∨MH<=lc x+1)->Cd ws (p++x) at_ b=Cd ws x at_ b
 |[],_,_,_=>rfl
 |c::b,x,at_,h=>by
  rcases h with rfl|h
  ·rfl
  ·show(DF ws (p++x++[c])).map _++Cd ws (p++x++[c]) (at_+1) b=(DF ws (x++[c])).map _++Cd ws (x++[c]) (at_+1) b;rw[CE,agj Z (x++[c]) (by simp;omega) p,aeU Z p b (x++[c]) (at_+1) (.inr (by simp;omega))]
theorem aaU{ws:Lb}:∀(b x:List Int)(at_:Int),∀h∈Cd ws x at_ b,at_<h.1/\h.1<=at_+lc b
 |[],_,_,h,hh=>by cases hh
 |c::b,x,at_,h,hh=>by
  rcases Bf.1 hh with h1|h1
  ·obtain⟨v,_,rfl⟩:=Be.1 h1;simp only[Ao];omega
  ·have:=aaU b _ _ h h1;simp only[Ao];omega
theorem adI{ws:Lb}(frm:Int)(A B:List Int):Gj (frm+lc A) (frm+lc A+lc B) (Cd ws [] frm (A++B))=Cd ws A (frm+lc A) B:=by
 rw[aa8,Av];unfold Gj;rw[List.filter_append,List.filter_eq_nil_iff.2,List.filter_eq_self.2,Av]
 ·intro h Z;have:=aaU B A _ h Z;simp;omega
 ·intro h Z;have:=aaU A [] frm h Z;simp;omega
theorem aaJ{fold:Bool}{wss:Lb}(Y:An fold wss=G)(frm:Int)(F:List Int):BQ fold wss 0 frm F=Cd wss [] frm (AO fold F):=ahP (λy Z=>((EI Y).2.2.1 y Z).1) F frm (CM wss)
theorem Nn(fold:Bool)(A B:List Int):AO fold (A++B)=AO fold A++AO fold B:=by simp only[Fg,Aj]
theorem amm(fold:Bool)(A:List Int)(k:Nat):AO fold (A.drop k)=(AO fold A).drop k:=by simp only[Fg,List.map_drop]
theorem al8{fold:Bool}{wss:Lb}(H:An fold wss=G){MH:Nat}(D:∀y∈wss,lc y<=MH)(frm:Int)(A B:List Int)(k:Nat)(hk:k<=lc A)(Y:k=0∨MH<=lc A-k+1) :Gj (frm+lc A) (frm+lc A+lc B) (BQ fold wss 0 frm (A++B))=Gj (frm+lc A) (frm+lc A+lc B) (BQ fold wss 0 (frm+k) (A.drop k++B))/\
  (lc B≠0->Bp fold wss 0 (A.drop k++B)=Bp fold wss 0 (A++B)):=by
 have Z:∀X:List Int,(AO fold X).length=lc X:=λX=>by simp[Fg]
 have s:AO fold A=(AO fold A).take k++AO fold (A.drop k):=by rw[amm,Dx]
 have N:(A.drop k).length=lc A-k:=by simp
 have V:(AO fold A).take k=[]∨MH<=(AO fold (A.drop k)).length+1:=by
  rcases Y with rfl|h
  ·exact .inl rfl
  ·right;rw[Z,N];exact h
 constructor
 ·have C:=adI (ws:=wss) frm (AO fold A) (AO fold B);have J:=adI (ws:=wss) (frm+k) (AO fold (A.drop k)) (AO fold B);rw[Z,Z]at C J;rw[N,show frm+(k:Int)+((lc A-k:Nat):Int)=frm+lc A by omega]at J;rw[aaJ H,aaJ H,Nn,Nn,C,J]
  conv=>lhs;rw[s]
  exact aeU D _ _ _ _ V
 ·intro hb;have U:=CM wss;have I:=adr (fold:=fold) U (A.drop k++B);have v:=adr (fold:=fold) U (A++B);have h0:[]∈AB wss:=AX U;have hN:∀y∈AB wss,lc y<=MH:=λy j=>by
   rcases(DT wss).1 j with rfl|⟨w,e,n,_,hn,rfl⟩
   ·simp
   ·rw[Ag];have:=D w e;omega
  have e2:lsf (AB wss) (AO fold (A++B))=lsf (AB wss) (AO fold (A.drop k++B)):=by
   rw[Nn,Nn]
   conv=>lhs;rw[s]
   rcases Y with rfl|h
   ·rfl
   ·rw[CE];exact ann h0 hN _ _ (by rw[List.length_append,Z,Z,N];omega)
  rw[Av]at I v;rw[<-e2]at I;exact Ln (CL wss).nodup I v
section
variable {V0:Wa}{fold:Bool}{wss:Lb}{z:Nat}{at0:Int}{x12 x13 base:Nat}{V V':Wa}{p q v':Vk}{F Gf F':List Int}{P Q:List AF}
theorem apy{x:Nat}{c0 c1 u0 u1:Vk}{t:TypeId}(h:V.heap[x]?=E (i7 #[c0,c1] t (0,0))):((V.setCell ⟨x,0,O⟩ u0).setCell ⟨x,1,O⟩ u1).heap[x]?=E (i7 #[u0,u1] t (0,0))/\
  V.grownBy ((V.setCell ⟨x,0,O⟩ u0).setCell ⟨x,1,O⟩ u1) (E x):=by
 have g:∀(W:Wa)(o:Nat)(u:Vk),W.grownBy (W.setCell ⟨x,o,O⟩ u) (E x):=λW o u=>⟨rfl,rfl,rfl,(KeepsWalks.setCell W _ u).size,λk _ hk=>AQ _ _ _ k (λe=>hk (by rw[e]))⟩;have Y:=g V 0 u0;have X:=g (V.setCell ⟨x,0,O⟩ u0) 1 u1;refine⟨?_,⟨rfl,rfl,rfl,AS Y.size X.size,λk hk Z=>(X.block k (Af hk Y.size) Z).trans (Y.block k hk Z)⟩⟩;have h:=AJ (i:=1) (AJ (i:=0) h u0) u1
 simpa using h
end
theorem aid(g:Nat)(n:Int)(w:Wa) :Calls ZP 242 #[.pointer (E ⟨g,0,O⟩),.int .i64 n] w λe w'=>e=ra (.func (.func 270) #[] #[.pointer (E ⟨w.heap.size+1,0,O⟩),.pointer (E ⟨w.heap.size,0,O⟩)])/\
   w'=(w.alloc (i7 #[L (E ⟨g,0,O⟩)] 368)).alloc (i7 #[R K n] 3):=by
 go_enter func242,ntmps242;go_wp2;go_ret;exact⟨rfl,rfl⟩
section
attribute[local go_sem] Oper.semAt_some
attribute[local simp] Ak Al
attribute[local go_sem] Ak Al
abbrev sbQ(nu st wm:Int)(b:Option Addr)(n c:Nat)(z d:Int):Array Vk:=#[R K nu,R K st,R K wm,T b n c,R K z,R K d]
def SbX(g:Nat)(nu st wm:Int)(b:Option Addr)(n c:Nat)(z d:Int)(W:Wa):Prop:=W.heap[g]?=E (i7 (sbQ nu st wm b n c z d) 329 (0,0))
section
variable {g:Nat}{nu st wm:Int}{b:Option Addr}{n c:Nat}{z d:Int}{W V:Wa}
theorem SbX.lt(h:SbX g nu st wm b n c z d W):g<W.heap.size:=(AD.1 h).1
theorem SbX.cells(h:SbX g nu st wm b n c z d W):(W.cell? ⟨g,0,O⟩=E (R K nu)/\W.cell? ⟨g,1,O⟩=E (R K st)/\W.cell? ⟨g,2,O⟩=E (R K wm)/\W.cell? ⟨g,3,O⟩=E (T b n c)/\W.cell? ⟨g,4,O⟩=E (R K z)/\W.cell? ⟨g,5,O⟩=E (R K d))/\W.frozen? ⟨g,4,O⟩=M/\W.frozen? ⟨g,5,O⟩=M:=by unfold SbX at h;exact⟨⟨by simp[cell?,h],by simp[cell?,h],by simp[cell?,h],by simp[cell?,h],by simp[cell?,h],by simp[cell?,h]⟩,by simp[frozen?,h],by simp[frozen?,h]⟩
theorem SbX.node(h:SbX g nu st wm b n c z d W)(y:Int):SbX g nu st wm b n c y d (W.setCell ⟨g,4,O⟩ (R K y)):=by
 unfold SbX at h⊢;have:=AJ (i:=4) h (R K y)
 simpa using this
theorem SbX.done(h:SbX g nu st wm b n c z d W)(y:Int):SbX g nu st wm b n c z y (W.setCell ⟨g,5,O⟩ (R K y)):=by
 unfold SbX at h⊢;have:=AJ (i:=5) h (R K y)
 simpa using this
theorem SbX.below(h:SbX g nu st wm b n c z d W)(Z:La W V):SbX g nu st wm b n c z d V:=(Z.block g h.lt).trans h
theorem SbX.same{Y X:Int}(h:SbX g nu st wm b n c z d W)(U:SbX g nu st wm b n c Y X W):z=Y/\d=X:=by have a:=h.cells.1;have Z:=U.cells.1;rw[a.2.2.2.2.1,DC,Value.int.injEq]at Z;rw[a.2.2.2.2.2,DC,Value.int.injEq]at Z;exact⟨Z.2.2.2.2.1.2,Z.2.2.2.2.2.2⟩
end
def KpN(bl g:Nat)(W Z:Wa):Prop:=
 W.heap.size<=Z.heap.size/\(∀k cs t f,W.heap[k]?=E (i7 cs t f)->k≠bl->k≠g->Cb bl W≠E k->Z.heap[k]?=E (i7 cs t f))/\(Cb bl Z=Cb bl W∨∃r,Cb bl Z=E r/\W.heap.size<=r/\r<Z.heap.size)/\
  (∀nu st wm b n c z d,SbX g nu st wm b n c z d W->∃Y,SbX g nu st wm b n c Y d Z)
theorem KpN.t{bl g:Nat}{A B C:Wa}(h:KpN bl g A B)(k:KpN bl g B C):KpN bl g A C:=by
 obtain⟨h1,h2,h3,h4⟩:=h;obtain⟨k1,j,s,v⟩:=k;refine⟨AS h1 k1,λi cs t f J H I N=>?_,?_,λnu st wm b n c z d hs=>?_⟩
 ·refine j i cs t f (h2 i cs t f J H I N) H I ?_
  rcases h3 with e|⟨r,e,Z,_⟩
  ·rw[e];exact N
  ·rw[e];intro e2;have:=KpL.lt (bl:=bl) J
   cases e2
   omega
 ·rcases s with e|⟨r,e,Z,Y⟩
  ·rw[e]
   rcases h3 with U|⟨r,U,Z,Y⟩
   ·exact .inl U
   ·exact .inr ⟨r,U,Z,by omega⟩
  ·exact .inr ⟨r,e,by omega,Y⟩
 ·obtain⟨D,X⟩:=h4 nu st wm b n c z d hs;exact v nu st wm b n c D d X
theorem KpN.b{bl g:Nat}{w:Wa}(Z:bl<w.heap.size)(I:g<w.heap.size)(W:Wa)(l:Nat)(o o':Obj)(N:w.heap.size<=l)(h:W.heap[l]?=E o)(J:o.isCells=M)(X:o.isWalk=M):KpN bl g W (W.putObj l o'):=by obtain⟨h1,h2,h3⟩:=KpL.b (bl:=bl) Z W l o o' N h J X;refine⟨h1,λk cs t f hk Z _ U=>h2 k cs t f hk Z U,h3,λnu st wm b n c z d Y=>⟨z,?_⟩⟩;unfold SbX at Y⊢;rw[Cm om];exact Y
theorem KpN.of_below{bl g:Nat}{W V:Wa}(Z:La W V)(U:bl<W.heap.size):KpN bl g W V:=by obtain⟨h1,h2,h3⟩:=KpL.of_below (bl:=bl) Z U;exact⟨h1,λk cs t f hk Z _ X=>h2 k cs t f hk Z X,h3,λnu st wm b n c z d Y=>⟨z,Y.below Z⟩⟩
def PbN(g q:Nat)(r:Nat)(W Y:Wa):Prop:=r=q∨r=g/\∀nu st wm b n c z d,SbX g nu st wm b n c z d W->∃Z,SbX g nu st wm b n c z Z Y
structure EU(bl g q:Nat)(w W:World):Prop where
 size:w.heap.size<=W.heap.size
 cells:∀k cs t f,w.heap[k]?=some (.cells cs t f)->k≠bl->k≠g->k≠q->W.heap[k]?=some (.cells cs t f)
 row:∀r,Cb bl W=some r->w.heap.size<=r/\r<W.heap.size
section
variable {bl g q:Nat}{w W V:Wa}
theorem EU.body(h:EU bl g q w W)(hk:KpN bl g W V):EU bl g q w V:=by
 obtain⟨I,J,N,_⟩:=hk;refine⟨AS h.size I,λk cs t f X U Y H=>J k cs t f (h.cells k cs t f X U Y H) U Y (λe=>?_),λr Z=>?_⟩
 ·have h1:=KpL.lt (bl:=bl) X;have h2:=(h.row k e).1;omega
 ·rcases N with e|⟨D,e,h1,h2⟩
  ·rw[e]at Z;have:=h.row r Z;omega
  ·rw[e]at Z
   cases Z
   have:=h.size;omega
theorem EU.own{p:Nat}(h:EU bl g q w W)(hk:W.grownBy V (E p))(H:p=g∨p=q)(Z:bl≠p)(Y:bl<W.heap.size):EU bl g q w V:=by
 have e:Cb bl V=Cb bl W:=by unfold Cb;rw[BC (a:=⟨bl,0,O⟩) (hk.block bl Y (λe=>Z (AK e)))]
 refine⟨AS h.size hk.size,λk cs t f J I N U=>?_,λr X=>?_⟩
 ·have h1:=h.cells k cs t f J I N U;exact(hk.block k (KpL.lt (bl:=bl) h1) (λe=>by have:=AK e;omega)).trans h1
 ·rw[e]at X;have:=h.row r X;have:=hk.size;omega
theorem KpN.box{b:Nat}{t:TypeId}{v:Vk}(h:KpN bl g W V)(Z:Boxed W b t v)(h1:b≠bl)(h2:b≠g)(h3:Cb bl W≠E b):Boxed V b t v:=h.2.1 b _ _ _ Z h1 h2 h3
end
def an4(p:Int)(F:List Int)(j:Nat):Array Vk:=#[R K (enN p F j),.int .u8 (byN F j)]
theorem PbN.lt{g q k:Nat}(X:g<k)(Y:q<k):∀r W Z,PbN g q r W Z->r<k:=λr W Z h=>by rcases h with rfl|⟨rfl,_⟩<;>assumption
theorem aew{g q p2 bl:Nat}(nu st wm z0:Int)(b:Option Addr)(n c:Nat)(d:Nat)(k:Int)(bs:List Int)(mm:Nat)(w0 w:Wa)(hD:Bys w0 b n bs)(ax:Jh w0 w)
  (bv:w0.heap.size<=g) (bp:w0.heap.size<=q) (bA:w0.heap.size<=bl) (b7:(bl≠g/\bl≠q/\g≠q)/\p2≠g/\p2≠q/\p2≠bl) (aM:bl<w.heap.size)
  (h3:Boxed w q 3 (R K k)) (h2:Boxed w p2 368 (L (E ⟨g,0,O⟩))) (hg:SbX g nu st wm b n c z0 d w)
  (ag:∀r,Cb bl w≠E r) (hd:d<=n) (hn:n<=1000000) (bo:0<=st/\st<=4611686020574871551) (bm:0<=wm/\wm<=1000000) (hk:-9223372036854775808<=k/\k<=9223372036854775807) :
  Hi Fence.wide mm ZP 270 #[L (E ⟨q,0,O⟩),L (E ⟨p2,0,O⟩)] (an4 (st-wm+d) (CU bs d k)) (KpN bl g) (PbN g q) (λjs W=>js=List.range (CU bs d k).length/\∃z',SbX g nu st wm b n c z' (d+((CU bs d k).length:Nat)) W) (λ_=>True) ((CU bs d k).length+1) w:=by
 intro l J Jx W D hJ bB hY h0;have aZ:lc bs=n:=hD.len;have a8:(CU bs (d:Int) k).length=Am n d k:=by rw[agu bs d k om,aZ]
 obtain⟨⟨n1,n2,n3⟩,n4,n5,n6⟩:=b7;have av:EU bl g q w W:=⟨D.size,λk cs t f hc _ _ _=>(D.block k (KpL.lt (bl:=bl) hc)).trans hc,λr hr=>absurd hr (by unfold Cb;rw[BC (a:=⟨bl,0,O⟩) (D.block bl aM)];exact ag r)⟩
 have ao:=hg.lt;have ab:=h3.lt;have bg:=AA ab;have be:Hid (∀V,EU bl g q w V->Jh w0 V):=λV hV=>⟨AS ax.1 hV.size,λk cs t f hc=>hV.cells k cs t f (ax.2 k cs t f hc) (by have:=KpL.lt (bl:=bl) hc;omega) (by have:=KpL.lt (bl:=bl) hc;omega) (by have:=KpL.lt (bl:=bl) hc;omega)⟩;have HP:Hid (∀V,EU bl g q w V->V.cell? ⟨p2,0,O⟩=E (L (E ⟨g,0,O⟩))/\bl<V.heap.size/\g<V.heap.size/\q<V.heap.size):=λV hV=>by have e2:=hV.cells p2 _ _ _ h2 n6 n4 n5;exact⟨by simp[cell?,e2],Af aM hV.size,Af ao hV.size,Af ab hV.size⟩
 have HD:Hid (∀V,EU bl g q w V->Bys V b n bs):=λV hV=>⟨(be.out V hV).sl1 hD.1,hD.2⟩;have b6:Hid (SbX g nu st wm b n c z0 d W):=(D.block g ao).trans hg;have b1:Hid (Boxed W q 3 (R K k)):=(D.block q ab).trans h3;have ay:Hid (∀j,j<Am n d k->bs[d+j]?=E (byN (CU bs (d:Int) k) j)):=λj hj=>anR (by rw[a8];exact hj);have az:Hid (∀j,j<Am n d k->enN (st-wm+d) (CU bs (d:Int) k) j=st-wm+((d:Int)+(j:Int)+1)):=λj hj=>by unfold enN;rw[a8];omega
 have aa:Hid (¬0<k-(Am n d k:Int)∨¬(d:Int)+(Am n d k:Int)<(n:Int)):=ai4 om;have b0:Hid (∀j:Nat,j<Am n d k->0<k-(j:Int)/\(d:Int)+(j:Int)<(n:Int)):=λj hj=>ahZ om hj;have b9:d+Am n d k<=n:=by have:=Jw (n:=n) (d:=(d:Int)) (m:=k) om om;rwa[Aa]at this
 have bf:Hid ((Am n d k:Int)<=max k 0):=by rw[Hid];unfold Am;omega
 rw[a8]at hY;rw[a8];obtain⟨F,hF⟩:∃F,CU bs (d:Int) k=F:=⟨_,rfl⟩;obtain⟨Ta,hT⟩:∃Ta,Am n (d:Int) k=Ta:=⟨_,rfl⟩;rw[hF,hT]at hY;rw[hF]at ay az;rw[hT]at ay az aa b0 bf b9;rw[hT];have HN:=AA (Va n1 (Va n2 n3));clear hD ax h3 h2 hg ag D a8 aZ hF hT n1 n2 n3 n4 n5 n6 ao ab;obtain⟨c2,_⟩:=HP.out W av;refine callsIn_of_wp func270 rfl trivial ?_ rfl;simp only[ntmps270,Cw,Ao,Bw,Nat.reduceAdd,Nat.reduceSub,Dd,Dc,DX,Da,Av,CT]
 gi_wp2
 clear c2
 gi_loopw[4] (λs4 wr=>∃j:Nat,j<=Ta/\J (List.range j) wr/\Hid (Boxed wr q 3 (R K (k-(j:Int))))/\Hid (∃z',SbX g nu st wm b n c z' ((d:Int)+(j:Int)) wr)/\Hid (EU bl g q w wr)) (λ_ wr=>Ic q wr)
 case atStart=>exact⟨0,AR _,h0,by simpa[Hid]using b1.out,⟨z0,by simpa using b6.out⟩,av⟩
 case round=>
  clear b6 b1 av h0;obtain⟨j,bu,hj,B,HG,A⟩:=hrel;obtain⟨n1,n2,n3⟩:=HN.out;obtain⟨c2,cb,cg,cq⟩:=HP.out wr A.out;obtain⟨z,hz⟩:=HG.out;obtain⟨Y,ae⟩:∃x:Int,k-(j:Int)=x:=⟨_,rfl⟩;obtain⟨dj,s⟩:∃x:Int,(d:Int)+(j:Int)=x:=⟨_,rfl⟩
  by_cases am:j<Ta
  ·obtain⟨a1,a2⟩:=b0.out j am;have aw:=az.out j am;obtain⟨b3,o3,cI,e3,bq,cc,af⟩:=DG (HD.out wr A.out).1 (show d+j<n by omega);subst e3;have bz:=(HD.out wr A.out).2 cI (AX af);have aK:byN F j=cI:=by have h:=ay.out j am;rw[af]at h;exact(AK h).symm
   rw[ae]at B a1;rw[s]at hz a2 aw;have e1:Hid (k-((j+1:Nat):Int)=Y-1):=by rw[Hid];omega
   have e2:Hid ((d:Int)+((j+1:Nat):Int)=dj+1):=by rw[Hid];omega
   have bx:0<=dj:=by omega
   have bw:dj<=1000000:=by omega
   have bt:Y<=9223372036854775807:=by omega
   have bh:Hid (Ic q wr=Y.toNat):=by rw[Hid];unfold Ic;rw[B.out.cell];rfl
   have ac:o3+(d+j)=o3+dj.toNat:=by omega
   rw[ac]at cc;obtain⟨⟨g0,g1,g2,g3,g4,g5⟩,f4,f5⟩:=hz.cells;have q0:=B.out.cell;have d1:decide (0<Y)=G:=by simpa using a1
   have d2:decide (dj<(n:Int))=G:=by simpa using a2
   have v:=AA hz;have HJ:=AA hj;have HC:=AA (Va aK (Va aw af));have ac:=AA ac;have bk:=AA a1;clear hz hj ae s af aK aw HG
   gi_wp2
   refine KF (FL _ _) mixed kr kr ?_
   repeat (go_big_quiet_step (fail))
   refine wpQuiet_nil ?_;rintro _ ⟨nq,rfl⟩;have Z:La wr (wr.drewN nq):=⟨rfl,rfl,rfl,AC _,λ_ _=>rfl⟩;obtain⟨W1,aP⟩:∃X,X=wr.drewN nq:=⟨_,rfl⟩;rw[<-aP]at Z⊢;clear aP;have N:=Jf hJ HJ.out Z;have au:EU bl g q w W1:=A.out.body (KpN.of_below Z cb);have aV:Boxed W1 q 3 (R K Y):=(Z.block q cq).trans B.out;have U:=v.out.below Z;clear c2 cb cg cq g0 g1 g2 g3 g4 g5 f4 f5 q0 d1 d2 cc Z HJ A B v;obtain⟨c2,cb,cg,cq⟩:=HP.out W1 au;obtain⟨⟨g0,g1,g2,g3,g4,g5⟩,f4,f5⟩:=U.cells;have HJ:=AA N;have A:=AA au;have B:=AA aV;have v:=AA U;obtain⟨b4,o4,bb,e4,_,cc,ai⟩:=DG (HD.out W1 A.out).1 (show d+j<n by omega)
   cases e4
   have b8:bb=cI:=by have h:=HC.out.2.2;rw[ai]at h;exact AK h
   subst b8;rw[ac.out]at cc;clear N au aV U ai
   gi_wp2
   refine KF (FL _ _) mixed kr kr ?_
   repeat (go_big_quiet_step (fail))
   refine wpQuiet_nil ?_;rintro _ ⟨aB,rfl⟩;have H:La W1 (W1.drewN aB):=⟨rfl,rfl,rfl,AC _,λ_ _=>rfl⟩;obtain⟨W2,aO⟩:∃X,X=W1.drewN aB:=⟨_,rfl⟩;rw[<-aO]at H⊢;clear aO;have aJ:=Jf hJ HJ.out H;have ar:EU bl g q w W2:=A.out.body (KpN.of_below H cb);have aU:Boxed W2 q 3 (R K Y):=(H.block q cq).trans B.out;have aj:=v.out.below H;clear c2 cb cg cq g0 g1 g2 g3 g4 g5 f4 f5 cc H HJ A B v;obtain⟨c2,cb,cg,cq⟩:=HP.out W2 ar;obtain⟨⟨g0,g1,g2,g3,g4,g5⟩,f4,f5⟩:=aj.cells;have B:=AA aU;obtain⟨W3,C⟩:∃X,X=W2.setCell ⟨g,5,O⟩ (R K (dj+1)):=⟨_,rfl⟩;have aI:J (List.range j) W3:=by rw[C];exact aet hJ aJ 5 _ (.inr ⟨rfl,λnu st wm b n c z d h=>⟨_,h.done _⟩⟩)
   have aX:EU bl g q w W3:=by rw[C];exact ar.own (BH W2 g 5 _) (.inl rfl) n1 cb
   have aT:Boxed W3 q 3 (R K Y):=by rw[C];exact(AQ W2 ⟨g,5,O⟩ _ q (Ne.symm n3)).trans B.out
   have aF:SbX g nu st wm (E ⟨b3,o3,O⟩) n c z (dj+1) W3:=by rw[C];exact aj.done _
   have HJ:=AA aI;have A:=AA aX;have v:=AA aF;have b5:=AA aT;clear aJ ar aU aj aI aX aT aF
   gi_wp2
   rw[<-C];clear c2 cb cg cq g0 g1 g2 g3 g4 g5 f4 f5 C B;obtain⟨c2,cb,cg,cq⟩:=HP.out W3 A.out;obtain⟨⟨g0,g1,g2,g3,g4,g5⟩,f4,f5⟩:=v.out.cells;refine Ld (FL _ _) 19 mixed kr kr ?_;dsimp only[List.take_succ_cons,List.take_zero,List.drop_succ_cons,List.drop_zero]
   repeat (go_big_quiet_step (fail))
   refine wpQuiet_nil ?_;rintro _ ⟨aA,rfl⟩;have I:La W3 (W3.drewN aA):=⟨rfl,rfl,rfl,AC _,λ_ _=>rfl⟩;obtain⟨W4,aN⟩:∃X,X=W3.drewN aA:=⟨_,rfl⟩;rw[<-aN]at I⊢;clear aN;have aH:=Jf hJ HJ.out I;have aq:Hid (EU bl g q w W4):=A.out.body (KpN.of_below I cb);have aS:Hid (Boxed W4 q 3 (R K Y)):=(I.block q cq).trans b5.out;have aE:Hid (SbX g nu st wm (E ⟨b3,o3,O⟩) n c z (dj+1) W4):=v.out.below I;obtain⟨fn,tmps,assign,body,ak,aQ⟩:=hY (List.range j) j W4 aH (by rw[List.length_range];omega);dsimp only[an4]at ak;rw[HC.out.1,HC.out.2.1]at ak;clear c2 cb cg cq g0 g1 g2 g3 g4 g5 f4 f5 I HJ A b5 v aH
   gi_wp2
   refine aQ.mono ?_;rintro e W5 (⟨rfl,hJ5,hk5⟩|⟨rfl,hJx5⟩)
   ·have al:Cb bl W4≠E q:=λe=>by
     have h1:=(aq.out.row q e).1;have h2:=bg.out;omega
    have a7:Boxed W5 q 3 (R K Y):=hk5.box aS.out (Ne.symm n2) (Ne.symm n3) al;obtain⟨z5,aD⟩:=hk5.2.2.2 _ _ _ _ _ _ _ _ aE.out;have ap:EU bl g q w W5:=aq.out.body hk5;have aL:=(HP.out W5 ap).2.1;rw[<-El]at hJ5;have q0:=a7.cell;have q1:=a7.frozen;have q2:=a7.lt;obtain⟨W6,a6⟩:∃X,X=W5.setCell ⟨q,0,O⟩ (R K (Y-1)):=⟨_,rfl⟩;have aY:J (List.range (j+1)) W6:=by rw[a6];exact aet hJ hJ5 0 _ (.inl rfl)
    have aW:EU bl g q w W6:=by rw[a6];exact ap.own (BH W5 q 0 _) (.inr rfl) n2 aL
    have aR:Boxed W6 q 3 (R K (Y-1)):=by rw[a6];exact a7.set _
    have aC:SbX g nu st wm (E ⟨b3,o3,O⟩) n c z5 (dj+1) W6:=by rw[a6];exact(AQ W5 ⟨q,0,O⟩ _ g n3).trans aD
    have bi:=AA aW;have b2:=AA aR;have bd:=AA aC;have bj:=AA aY;clear aq aS aE aQ ak a7 aD ap hJ5 hk5 aW aR aC aY
    gi_wp2
    rw[<-a6]
    go_roundw
    case rel=>exact⟨j+1,by omega,bj.out,by rw[Hid,e1.out];exact b2.out,⟨z5,by rw[e2.out];exact bd.out⟩,bi⟩
    case measure=>
     rw[bh.out];unfold Ic;rw[b2.out.cell];show(Y-1).toNat<Y.toNat;have h1:=bk.out;omega
   ·gi_wp2
    refine Vi (results_none rfl _ _ _) rfl ?_;exact⟨⟨_,rfl⟩,.inr ⟨_,trivial,hJx5⟩⟩
  ·obtain rfl:Ta=j:=by omega
   rw[ae]at B aa;rw[s]at hz aa;have e2:Hid ((d:Int)+(Ta:Int)=dj):=s;have q0:=B.out.cell;obtain⟨⟨g0,g1,g2,g3,g4,g5⟩,f4,f5⟩:=hz.cells;have v:=AA hz;have HJ:=AA hj;have aG:=aa.out;clear hz hj ae s HG aa
   by_cases a1:0<Y
   ·have a2:¬dj<(n:Int):=by omega
    have d1:decide (0<Y)=G:=by simpa using a1
    have d2:decide (dj<(n:Int))=M:=by simpa using a2
    clear aG a1 a2
    gi_wp2
    refine KF (FL _ _) mixed kr kr ?_
    repeat (go_big_quiet_step (fail))
    refine wpQuiet_nil ?_;rintro _ ⟨nq,rfl⟩;have Z:La wr (wr.drewN nq):=⟨rfl,rfl,rfl,AC _,λ_ _=>rfl⟩;have N:=Jf hJ HJ.out Z;have U:=v.out.below Z
    gi_wp2
    go_end0
    exact⟨⟨_,rfl⟩,.inl ⟨_,⟨rfl,z,by rw[e2.out];exact U⟩,N⟩⟩
   ·have d1:decide (0<Y)=M:=by simpa using a1
    clear aG a1
    gi_wp2
    refine KF (FL _ _) mixed kr kr ?_
    repeat (go_big_quiet_step (fail))
    refine wpQuiet_nil ?_;rintro _ ⟨nq,rfl⟩;have Z:La wr (wr.drewN nq):=⟨rfl,rfl,rfl,AC _,λ_ _=>rfl⟩;have N:=Jf hJ HJ.out Z;have U:=v.out.below Z
    gi_wp2
    go_end0
    exact⟨⟨_,rfl⟩,.inl ⟨_,⟨rfl,z,by rw[e2.out];exact U⟩,N⟩⟩
end
theorem aah{fn:Func}{p u v:Tmp}{tmps:Array Vk}{W:Wa}{B C:Nat}{x y l:Vk}(h:fn.results=#[.cell p 247,.cell u 69,.tmp v])(V:tmps.getD p undef=L (E ⟨B,0,O⟩))(X:tmps.getD u undef=L (E ⟨C,0,O⟩))(hB:W.heap[B]?=E (i7 #[x,y] 247 (0,0)))(J:W.cell? ⟨C,0,O⟩=E l) :(results fn tmps).run ZP W=.ok (ta #[i8 #[x,y],l,tmps.getD v undef]) W:=by
 have N:(loadVar 247 ⟨B,0,O⟩).run ZP W=.ok (i8 #[x,y]) W:=run_loadVar_row W B 247 247 #[x,y] (0,0) _ hB underlying247 rfl kr;have U:(loadVar 69 ⟨C,0,O⟩).run ZP W=.ok l W:=by go_simp
 have Y:tmps[p]?.getD undef=L (E ⟨B,0,O⟩):=by simpa using V
 have Z:tmps[u]?.getD undef=L (E ⟨C,0,O⟩):=by simpa using X
 simp[results,h,Y,Z,asAddr,N,U,Result.andThen]
theorem aio(p:Option Addr)(nu st wm:Int)(b:Option Addr)(n c:Nat)(z d m:Int)(w:Wa)
  (hR:∀V,La w V->Calls ZP 241 #[L p,i8 (blV nu st wm b n c),prV z d] V λe w'=>e=ra (i6 M)/\La V w') :
  Calls ZP 200 #[L p,i8 (blV nu st wm b n c),prV z d,R K m] w λe w'=>e=ra (ta #[prV z d,T O 0 0,i6 M])/\La w w':=by
 obtain⟨W,hW⟩:∃W,W=((((w.alloc (i7 #[L p] 88)).alloc (i7 (blV nu st wm b n c) 120)).alloc (i7 #[R K z,R K d] 247)).alloc (i7 #[R K 0,R K 0] 247)).alloc (i7 #[T O 0 0] 69):=⟨_,rfl⟩;have hB:La w W:=by rw[hW];exact(((((AH _ _).alloc (AC _) _).alloc sm _).alloc (by simp;omega) _).alloc (by simp;omega) _).alloc (by simp;omega) _
 have hO:Bx w.heap.size [i7 #[L p] 88,i7 (blV nu st wm b n c) 120,i7 #[R K z,R K d] 247,i7 #[R K 0,R K 0] 247,i7 #[T O 0 0] 69] W:=by rw[hW];exact(((((Bx.nil _ w).snoc _ rfl).snoc _ sm).snoc _ sm).snoc _ sm).snoc _ sm
 have HC:Hid (∀V,RowKit.Below W.heap.size W V->V.cell? ⟨w.heap.size,0,O⟩=E (.pointer p)/\(V.cell? ⟨w.heap.size+1,0,O⟩=E (.int .i64 nu)/\V.cell? ⟨w.heap.size+1,1,O⟩=E (.int .i64 st)/\V.cell? ⟨w.heap.size+1,2,O⟩=E (.int .i64 wm)/\V.cell? ⟨w.heap.size+1,3,O⟩=E (.slice b n c))/\(V.cell? ⟨w.heap.size+1+1,0,O⟩=E (.int .i64 z)/\V.cell? ⟨w.heap.size+1+1,1,O⟩=E (.int .i64 d))/\
   V.heap[w.heap.size+1+1+1]?=E (i7 #[R K 0,R K 0] 247 (0,0))/\V.heap[w.heap.size+1+1+1+1]?=E (i7 #[T O 0 0] 69 (0,0))/\La w V):=λV hV=>by
  have h:=hO.below hV;exact⟨h.cell (i:=0) rfl rfl,⟨h.cell (i:=1) rfl rfl,h.cell (i:=1) rfl rfl,h.cell (i:=1) rfl rfl,h.cell (i:=1) rfl rfl⟩,⟨h.cell (i:=2) rfl rfl,h.cell (i:=2) rfl rfl⟩,h 3 _ rfl,h 4 _ rfl,hB.trans (hV.mono hB.size)⟩
 have HR:=AA (hR W hB);obtain⟨q1,⟨j,s,v,A⟩,⟨B,C⟩,_⟩:=HC.out W (AH _ _);clear hB hO hR;go_enter func200,ntmps200;go_upto_region 1 with fail
 rw[<-hW];clear hW;go_upto_region 2 with(go_at_call 241;refine HR.out.mono ?_;rintro e Z ⟨rfl,H⟩)
 clear q1 j s v A B C HR;obtain⟨q1,⟨j,s,v,A⟩,⟨B,C⟩,Y,N,X⟩:=HC.out Z H;obtain⟨z0,z1,z2,z3⟩:Z.cell? ⟨w.heap.size+1+1+1,0,O⟩=E (R K 0)/\Z.cell? ⟨w.heap.size+1+1+1,1,O⟩=E (R K 0)/\Z.frozen? ⟨w.heap.size+1+1+1,0,O⟩=M/\Z.frozen? ⟨w.heap.size+1+1+1,1,O⟩=M:=⟨by simp[cell?,Y],by simp[cell?,Y],by simp[frozen?,Y],by simp[frozen?,Y]⟩;obtain⟨y0,y1⟩:Z.cell? ⟨w.heap.size+1+1+1+1,0,O⟩=E (T O 0 0)/\Z.frozen? ⟨w.heap.size+1+1+1+1,0,O⟩=M:=⟨by simp[cell?,N],by simp[frozen?,N]⟩;have J:=AA N;have I:=AA Y;have U:=AA X;clear Y N X;go_wp2;have h1:=AJ (i:=1) (AJ (i:=0) I.out (R K z)) (R K d);have D:((Z.setCell ⟨w.heap.size+1+1+1,0,O⟩ (R K z)).setCell ⟨w.heap.size+1+1+1,1,O⟩ (R K d)).heap[w.heap.size+1+1+1]?=E (i7 #[R K z,R K d] 247 (0,0)):=by simpa using h1
 have h2:((Z.setCell ⟨w.heap.size+1+1+1,0,O⟩ (R K z)).setCell ⟨w.heap.size+1+1+1,1,O⟩ (R K d)).heap[w.heap.size+1+1+1+1]?=E (i7 #[T O 0 0] 69 (0,0)):=
  (AQ _ _ _ _ (by show w.heap.size+1+1+1+1≠w.heap.size+1+1+1;omega)).trans ((AQ _ _ _ _ (by show w.heap.size+1+1+1+1≠w.heap.size+1+1+1;omega)).trans J.out)
 have h3:=AJ (i:=0) h2 (T O 0 0);have h4:=(AQ _ ⟨w.heap.size+1+1+1+1,0,O⟩ (T O 0 0) (w.heap.size+1+1+1) (by show w.heap.size+1+1+1≠w.heap.size+1+1+1+1;omega)).trans D;refine Vi (aah (l:=T O 0 0) rfl rfl rfl h4 (by simp[cell?,h3])) rfl ?_;exact⟨rfl,((U.out.setCell (by show w.heap.size<=w.heap.size+1+1+1;omega) _).setCell (by show w.heap.size<=w.heap.size+1+1+1;omega) _).setCell (by show w.heap.size<=w.heap.size+1+1+1+1;omega) _⟩
end Go.Proofs.YtaamacoicojhnaaGreat
