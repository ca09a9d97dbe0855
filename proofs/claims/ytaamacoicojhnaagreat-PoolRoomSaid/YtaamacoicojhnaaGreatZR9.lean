/- Proofs over the given program, part 9. -/
import Derived.Test.YtaamacoicojhnaaGreatZR8
set_option linter.unusedVariables false
set_option linter.unusedSimpArgs false
set_option maxRecDepth 100000
set_option maxHeartbeats 16000000
open Go.Proofs.Tryz
open Go.Proofs.Tryz renaming prog→ZP
open Go.World(cell? frozen?)
open Go.Value(int slice pointer bool)
open Go.IntKind(i64)
namespace Go.Proofs.YtaamacoicojhnaaGreat
open Go.RowKit Go.Sort
structure Oq(P:Program)(ops:Array Oper)(Q:Exit->Act->World->Prop)(S:World->Prop)(k:Nat)(ok:Oper)(Rk:Value->World->Prop)(G:Act->Prop)(u0:World):Prop where
 hk:ops[k]?=some ok
 kp:∀v (w w':World),Rk v w->Bt w w'->Rk v w'
 yk:∀(f:Act) w,G f->S w->Bt u0 w->∀K:Act->World->Prop,(∀v w',S w'->Rk v w'->Bt w w'->K (f.put ok.dst v) w')->if Region.wanted ok (yielded ops f.tmps)=true then Oper.wp P ok f w K Q else K (f.put ok.dst undef) w
structure Flt(P:Program)(md:Region.Mode)(ops:Array Oper)(Q:Exit->Act->World->Prop)(S:World->Prop)(k:Nat)(dk:Option Tmp)(Rk:Value->World->Prop)(fuel:Nat)(listed:Array Bool)(a:Act)(u u0:World):Prop where
 pend:∀w,S w->Bt u w->Bt u0 w->wpAnyH P md ops Q S (fuel+1) listed a w
 did:∀vk w,S w->Bt u w->Bt u0 w->Rk vk w->wpAnyH P md ops Q S fuel (listed.setIfInBounds k true) (a.put dk vk) w
section
variable {P:Program}{md:Region.Mode}{ops:Array Oper}{Q:Exit->Act->World->Prop}{S:World->Prop}{k:Nat}{Rk:Value->World->Prop}{fuel:Nat}{listed:Array Bool}{a:Act}{u u0:World}{ok:Oper}{G:Act->Prop}
theorem arh(k:Nat)(Rk:Value->World->Prop)(G:Act->Prop){ok:Oper}{w:World}(mk:∀v (w w':World),Rk v w->Bt w w'->Rk v w')(yk:∀(f:Act) V,G f->S V->Bt w V->∀K:Act->World->Prop,(∀v w',S w'->Rk v w'->Bt V w'->K (f.put ok.dst v) w')->if Region.wanted ok (yielded ops f.tmps)=true then Oper.wp P ok f V K Q else K (f.put ok.dst undef) V)(h:Oq P ops Q S k ok Rk G w->Flt P md ops Q S k ok.dst Rk fuel listed a w w)
  (hk:ops[k]?=some ok:=by(simp only[pD,pE,pF];rfl)) (Z:S w:=by assumption):wpAnyH P md ops Q S (fuel+1) listed a w:=(h ⟨hk,mk,yk⟩).pend w Z (AH _ _) (AH _ _)
theorem apJ(k:Nat)(Rk:Value->World->Prop){ok:Oper}{w:World}(mk:∀v (w w':World),Rk v w->Bt w w'->Rk v w')(yk:∀(f:Act) V,S V->Bt w V->∀K:Act->World->Prop,(∀v w',S w'->Rk v w'->Bt V w'->K (f.put ok.dst v) w')->if Region.wanted ok (yielded ops f.tmps)=true then Oper.wp P ok f V K Q else K (f.put ok.dst undef) V)(h:Oq P ops Q S k ok Rk (λ_=>True) w->Flt P md ops Q S k ok.dst Rk fuel listed a w w)
  (hk:ops[k]?=some ok:=by(simp only[pD,pE,pF];rfl)) (Z:S w:=by assumption):wpAnyH P md ops Q S (fuel+1) listed a w:=(h ⟨hk,mk,λf V _=>yk f V⟩).pend w Z (AH _ _) (AH _ _)
theorem Oo(D:Oq P ops Q S k ok Rk G u0)(i:Nat)(Ri:Value->World->Prop){I:Oper}
  (y:∀f,(f=a∨∃v,f=a.put ok.dst v)->∀w,S w->Bt u w->∀K:Act->World->Prop,(∀v w',S w'->Ri v w'->Bt w w'->K (f.put I.dst v) w')->if Region.wanted I (yielded ops f.tmps)=true then Oper.wp P I f w K Q else K (f.put I.dst undef) w)
  (H:∀N z,S z->Bt u z->Ri N z->Flt P md ops Q S k ok.dst Rk fuel (listed.setIfInBounds i true) (a.put I.dst N) z u0)
  (e:ops[i]?=some I:=by(simp only[pD,pE,pF];rfl)) (x:Region.ready md ops listed=(if k<i then [k,i] else [i,k]):=by as_aux_lemma=>kernel_rfl) (s:Region.ready md ops (listed.setIfInBounds k true)=[i]:=by as_aux_lemma=>kernel_rfl) (j:i≠k:=by decide) (hn:I.dst≠ok.dst:=by decide) (hG:G a:=by first|trivial|rfl):Flt P md ops Q S k ok.dst Rk (fuel+1) listed a u u0:=by
 have hd:∀d,ok.dst=some d->I.dst≠some d:=λd h1 h2=>hn (h2.trans h1.symm);have did:∀U w,S w->Bt u w->Bt u0 w->Rk U w->wpAnyH P md ops Q S (fuel+1) (listed.setIfInBounds k true) (a.put ok.dst U) w:=λU w C X h0 A=>by refine wpAnyH_ready s sm (Aw e (λK J=>y _ (.inr ⟨U,rfl⟩) w C X K (λN w' Z V Y=>J.out _ _ Z (λ_=>?_))) Ci);have h:=(H N w' Z (X.trans (Y.mono X.size)) V).did U w' Z (AH _ _) (h0.trans (Y.mono h0.size)) (D.kp _ _ _ A Y);rw[OO _ _ j,<-Act.put_comm a U N hd]at h;exact h
 refine⟨λw C X h0=>?_,did⟩
 by_cases B:k<i
 ·rw[Lc B]at x;refine wpAnyH_ready x sm (Aw D.hk (λK J=>D.yk _ w hG C h0 K (λU w' Z A Y=>J.out _ _ Z (λ_=>?_))) (Aw e (λK J=>y _ (.inl rfl) w C X K (λN w' Z V Y=>J.out _ _ Z (λ_=>?_))) Ci))
  ·exact did U w' Z (X.trans (Y.mono X.size)) (h0.trans (Y.mono h0.size)) A
  ·exact(H N w' Z (X.trans (Y.mono X.size)) V).pend w' Z (AH _ _) (h0.trans (Y.mono h0.size))
 ·rw[Lb B]at x;refine wpAnyH_ready x sm (Aw e (λK J=>y _ (.inl rfl) w C X K (λN w' Z V Y=>J.out _ _ Z (λ_=>?_))) (Aw D.hk (λK J=>D.yk _ w hG C h0 K (λU w' Z A Y=>J.out _ _ Z (λ_=>?_))) Ci))
  ·exact(H N w' Z (X.trans (Y.mono X.size)) V).pend w' Z (AH _ _) (h0.trans (Y.mono h0.size))
  ·exact did U w' Z (X.trans (Y.mono X.size)) (h0.trans (Y.mono h0.size)) A
theorem apH(D:Oq P ops Q S k ok Rk G u0)(i:Nat){Z:Oper}{v:Value}(y:∀f,(f=a∨∃v,f=a.put ok.dst v)->YieldsIf P ops S Z v f)
  (H:Flt P md ops Q S k ok.dst Rk fuel (listed.setIfInBounds i true) (a.put Z.dst v) u u0)
  (C:ops[i]?=some Z:=by(simp only[pD,pE,pF];rfl)) (I:Region.noSelect ops=true:=by as_aux_lemma=>kernel_rfl) (x:Region.free md ops listed i=true:=by as_aux_lemma=>kernel_rfl) (A:(Region.ready md ops listed).contains i=true:=by as_aux_lemma=>kernel_rfl)
  (N:Region.free md ops (listed.setIfInBounds k true) i=true:=by as_aux_lemma=>kernel_rfl) (V:(Region.ready md ops (listed.setIfInBounds k true)).contains i=true:=by as_aux_lemma=>kernel_rfl) (U:i≠k:=by decide) (z:Z.dst≠ok.dst:=by decide)
  (B:∀c b w,Q (.panic c) (Act.put b Z.dst v) w->Q (.panic c) b w:=by exact λ_ _ _ h=>h):Flt P md ops Q S k ok.dst Rk (fuel+1) listed a u u0:=by
 have s:∀d,ok.dst=some d->Z.dst≠some d:=λd h1 h2=>z (h2.trans h1.symm);refine⟨λw Y J h0=>wpAnyH_take C I x A (λc=>B c) (y _ (.inl rfl)) Y (H.pend w Y J h0),λX w Y J h0 j=>?_⟩;refine wpAnyH_take C I N V (λc=>B c) (y _ (.inr ⟨X,rfl⟩)) Y ?_;have h:=H.did X w Y J h0 j;rw[OO _ _ U,<-Act.put_comm a X v s]at h;exact h
theorem apI(D:Oq P ops Q S k ok Rk G u0)(H:∀Y w,S w->Bt u w->Bt u0 w->Rk Y w->wpAnyH P md ops Q S fuel (listed.setIfInBounds k true) (a.put ok.dst Y) w)(U:Region.ready md ops listed=[k]:=by as_aux_lemma=>kernel_rfl)(C:G a:=by first|trivial|rfl):Flt P md ops Q S k ok.dst Rk fuel listed a u u0:=⟨λw N V h0=>wpAnyH_ready U sm (Aw D.hk (λK I=>D.yk _ w C N h0 K (λY w' Z J X=>I.out _ _ Z (λ_=>H Y w' Z (V.trans (X.mono V.size)) (h0.trans (X.mono h0.size)) J))) Ci),H⟩
end
section
attribute[local go_sem] Oper.semAt_some
attribute[local simp] Ak Al
attribute[local go_sem] Ak Al
theorem alk:(ZP.info? 30).map (λi=>(i.zero,i.size,i.bytes))=some (some (slice none 0 0),1,24):=by kernel_rfl
theorem Mc.frozen{W:World}{B:Nat}{L:List Int}{m n:Int}{row:Value}{fold:Bool}{Z:Value}{lo Y:Int}{wd:Value}(h:Mc W B L m n row fold Z lo Y wd)(i:Nat):W.frozen? ⟨B,i,none⟩=false:=by have h2:=h.box;simp[frozen?,h2]
theorem aj0{W:World}{G:Nat}{cs:Array Value}{t:TypeId}(h:W.heap[G]?=some (.cells cs t (0,0)))(i:Nat):W.frozen? ⟨G,i,none⟩=false:=by simp[frozen?,h]
theorem ad6(fold:Bool)(a:Option Addr)(z ca:Nat)(wss:La)(w:World)(hA:Wds w a z wss)(bm:z<=1000000)(hM:∀x∈wss,x.length<=1000000)(hT:(Ad fold wss).length<=1000000)(hr:An fold wss=true) :Calls ZP 52 #[.agg (AM fold a z ca)] w λe w'=>∃(B R et wc:Nat)(a' wa:Option Addr),e=.returned (.tuple #[pointer (some ⟨B,0,none⟩),int i64 0])/\MOK w' B fold wss (Au wss) ((Dm wss (AB wss).length:Nat):Int) R a' z et wa wc/\Bt w w'/\Il w.heap.size w' B R a' z et wss wa:=by
 have hB:=AL w (.cells (AM fold a z ca) 24);obtain⟨W0,bq⟩:∃W,W=w.alloc (.cells (AM fold a z ca) 24):=⟨_,rfl⟩;have aC:W0.heap[w.heap.size]?=some (.cells (AM fold a z ca) 24 (0,0)):=by rw[bq];exact AT _ _
 rw[<-bq]at hB;have c0:W0.cell? ⟨w.heap.size,0,none⟩=some (bool fold):=by simp[cell?,aC]
 have c1:W0.cell? ⟨w.heap.size,1,none⟩=some (slice a z ca):=by simp[cell?,aC]
 have bl:CI (AG wss)=some (AB wss,wss):=Fy.2 ⟨IY hr,rfl,rfl⟩;have aN:(AB wss).length<=400:=Hx bl;have f4:1<=Ah fold wss/\Ah fold wss<=257:=Hb _ _ _;have bt:=okT hr (λx hx c hc=>hA.bytes x hx c hc);have ec:=Oi bt;have d7:=OZ bt;have bB:=AA hA.len;have HD:=AA (λV (I:Bt w V)=>aha fold a z ca wss V (hA.below I) bm hM hT hr);have eA:=AA (λV (I:Bt w V)=>abH fold a z ca wss V (hA.below I) bm hM hT hr);have eE:=AA (λV (I:Bt w V)=>alD fold a z ca wss V (hA.below I) bm hM);have eF:=AA (λV (I:Bt w V)=>aev fold a z ca wss V (hA.below I) bm);have eL:=AA (λ(t:TV) V (hT:Tri V t (AG wss)) (hb:t.un<=140737488351232)=>ak6 t (AG wss) (AB wss) wss V hT hb bl);have dd:=AA (λ(t:TV) V (hT:Tri V t (AG wss)) (hb:t.un<=140737488351232)=>akF t (AG wss) (AB wss) wss V hT hb bl);obtain⟨L,hL⟩:∃L,BF fold wss=L:=⟨_,rfl⟩;have a8:L.length=256:=by rw[<-hL];exact Jc _ _
 have db:Hid ((AB wss).length<=400):=aN;have fQ:=AA d7;have fP:=AA bt;obtain⟨n,hn⟩:∃n,(AB wss).length=n:=⟨_,rfl⟩;obtain⟨m,hm⟩:∃m,Ah fold wss=m:=⟨_,rfl⟩;obtain⟨k,hk⟩:∃k,m*n=k:=⟨_,rfl⟩;have az:k<=257*400:=by rw[<-hk];exact GR om om
 have fi:=AA hL;have HN:=AA hn;have HM:=AA hm;have fj:=AA hk;rw[hL,hm,hn,hk]at HD;rw[hn]at eL dd;have eB:Hid (Hu (m:Int) k=(n:Int)):=by rw[Hid,<-hk,<-hm,<-hn,<-d7];exact ec
 clear hA hr bl bt hL hn hm hk aN d7 ec;refine Hc func52 rfl ?_;simp only[ntmps52,Cw,Ao,Bw,Nat.reduceAdd,Nat.reduceSub,Dd,Dc,DX,Da,Av,CT];go_upto_region 1 with fail
 rw [<-bq];clear bq;have fo:=AA (HD.out W0 hB);go_upto_region 2 with (first
  |(refine wpList_store_row rfl 146 _ _ rfl _ _ rfl rfl 146 _ (heap_alloc_new _ _) (anq a8 _ _) (aoH a8 _ _) (afb _ _ _ rfl) ?_)
  |(go_at_call 86;refine fo.out.mono ?_;rintro e w3 ⟨R,rfl,aJ,f7,bo⟩))
 rw[World.setRow_alloc_new];have aF:=hB.trans (bo.mono hB.size);have fd:Hid (w.heap.size<=R):=AS hB.size f7;obtain⟨w4,bk⟩:∃w4,w4=w3.alloc (.cells (dvC L m (slice (some ⟨R,0,none⟩) k k)).toArray 146):=⟨_,rfl⟩;have b8:Bt w w4:=by rw[bk];exact aF.alloc aF.size _
 have aQ:Bt w3 w4:=by rw[bk];exact AL _ _
 have bx:=Dv.new w3 L m (slice (some ⟨R,0,none⟩) k k) a8;rw[<-bk]at bx⊢;have ap:AU R (FN fold wss) w4:=(aQ.block R aJ.lt).trans aJ;have aV:w4.heap[w.heap.size]?=some (.cells (AM fold a z ca) 24 (0,0)):=(aQ.block _ (by have:=(AD.1 aC).1;have:=bo.size;omega)).trans ((bo.block _ (AD.1 aC).1).trans aC);have d0:w4.cell? ⟨w.heap.size,0,none⟩=some (bool fold):=by simp[cell?,aV]
 have d1:w4.cell? ⟨w.heap.size,1,none⟩=some (slice a z ca):=by simp[cell?,aV]
 have fc:=AA (eA.out w4 b8);have ft:w3.heap.size<w4.heap.size:=bx.lt;clear bk c0 c1 aQ aJ bo hB aC;go_upto_region 5 with(go_at_call 87;refine fc.out.mono ?_;rintro e w5 ⟨t,rfl,cX,aA⟩;obtain⟨ua,un,uc,da,dn,dc,xa,xn,xc,ba,bn,bc⟩:=t;simp only[TV.cells])
 have e6:un<=140737488351232:=by have h1:=cX.up.1;have h2:=alp wss;have h3:=db.out;dsimp only at h1;omega
 have fJ:=b8.trans (aA.mono b8.size);obtain⟨w6,bj⟩:∃w6,w6=w5.alloc (.cells #[slice ua un uc,slice da dn dc,slice xa xn xc,slice ba bn bc] 150):=⟨_,rfl⟩;have bS:Bt w5 w6:=by rw[bj];exact AL _ _
 have ar:w6.heap[w5.heap.size]?=some (.cells #[slice ua un uc,slice da dn dc,slice xa xn xc,slice ba bn bc] 150 (0,0)):=by rw[bj];exact AT _ _
 have aS:=cX.below bS;have bI:Bt w4 w6:=aA.trans (bS.mono aA.size);rw[<-bj];clear bj;have eK:=AA (eL.out _ w6 aS e6);have e0:w6.cell? ⟨w5.heap.size,0,none⟩=some (slice ua un uc):=by simp[cell?,ar]
 have e1:w6.cell? ⟨w5.heap.size,1,none⟩=some (slice da dn dc):=by simp[cell?,ar]
 have e2:w6.cell? ⟨w5.heap.size,2,none⟩=some (slice xa xn xc):=by simp[cell?,ar]
 have e3:w6.cell? ⟨w5.heap.size,3,none⟩=some (slice ba bn bc):=by simp[cell?,ar]
 clear d0 d1 cX;go_upto_region 8 with(go_at_call 88;refine eK.out.mono ?_;rintro e C ⟨q,rfl,cQ,fC,cU⟩)
 have ah:Bt w4 C:=bI.trans (cU.mono bI.size);clear e0 e1 e2 e3;go_upto_region 10 with fail
 have es:Bt w C:=b8.trans (ah.mono b8.size);have af:=AA es;have bM:=aS.below cU;have bd:=AA bM;have d8:=bx.below ah;have fF:w3.heap.size<C.heap.size:=d8.lt;have HK:Hid (∀V,Bt C V->Dv V w3.heap.size L m (slice (some ⟨R,0,none⟩) k k)):=λV I=>d8.below I;have cY:C.heap[w.heap.size]?=some (.cells (AM fold a z ca) 24 (0,0)):=(ah.block _ (AD.1 aV).1).trans aV;have eC:Hid (∀V,Bt C V->V.cell? ⟨w.heap.size,0,none⟩=some (bool fold)/\V.cell? ⟨w.heap.size,1,none⟩=some (slice a z ca)):=λV I=>by have h:=(I.block _ (AD.1 cY).1).trans cY;exact⟨by simp[cell?,h],by simp[cell?,h]⟩
 have bs:C.heap[w5.heap.size]?=some (.cells #[slice ua un uc,slice da dn dc,slice xa xn xc,slice ba bn bc] 150 (0,0)):=(cU.block _ (AD.1 ar).1).trans ar;have ey:Hid (∀V,Bt C V->V.cell? ⟨w5.heap.size,0,none⟩=some (slice ua un uc)/\V.cell? ⟨w5.heap.size,1,none⟩=some (slice da dn dc)/\V.cell? ⟨w5.heap.size,2,none⟩=some (slice xa xn xc)/\V.cell? ⟨w5.heap.size,3,none⟩=some (slice ba bn bc)):=λV I=>by have h:=(I.block _ (AD.1 bs).1).trans bs;exact⟨by simp[cell?,h],by simp[cell?,h],by simp[cell?,h],by simp[cell?,h]⟩
 have be:Hid ((ZP.info? 144).map (·.size)=some (L.map (int i64)).length):=by rw[Hid,BP,a8];kernel_rfl
 have bW:Hid ((ZP.info? 146).map (·.size)=some (dvC L m (slice (some ⟨R,0,none⟩) k k)).toArray.size):=by rw[Hid,Ko a8];exact Nl
 obtain⟨b9,aw⟩:∃Z,tbC L m n (slice (some ⟨R,0,none⟩) k k)=Z:=⟨_,rfl⟩;have ew:Hid (b9.length=259):=by rw[Hid,<-aw];exact ajU a8 _ _ _
 have bV:=AA aw;obtain⟨ZT,cV⟩:∃Z,b9.toArray=Z:=⟨_,rfl⟩;have eu:=AA cV;have bg:Hid (ZP.built 157 [(0,.agg (L.map (int i64)).toArray),(1,int i64 m),(2,int i64 n),(3,slice (some ⟨R,0,none⟩) k k)]=some ZT):=by rw[Hid,<-cV,<-aw];exact adQ L m n _ k k a8
 have ez:Hid (w5.heap.size<C.heap.size):=(AD.1 bs).1;clear aw cV d8 cY bs bM ar aV bx aS es;refine Code.wp_mono (Q:=apB (λa' V=>∃(p8 H cv:Nat)(av:Option Addr)(ZM:Array Value)(x9 dV cM cL cK cJ cI cH cG cF cE cD cC cB cA cz cy cx cw cu ct cr cq cp co cn cm cl ck cj ci ch cg cf ce cd cc cb bZ bY:Value),a'={tmps:=List.toArray (Value.agg (AM fold a z ca)::pointer (some ⟨w.heap.size,0,none⟩)::pointer none::int i64 0::pointer (some ⟨w3.heap.size,0,none⟩)::int i64 0::pointer (some ⟨w5.heap.size,0,none⟩)::slice (some ⟨q,0,none⟩) n n::pointer (some ⟨p8,0,none⟩)::x9::dV::cM::cL::cK::cJ::cI::cH::cG::cF::cE::cD::cC::cB::cA::cz::cy::cx::cw::cu::ct::cr::cq::cp::co::cn::cm::cl::ck::cj::ci::ch::cg::cf::ce::cd::cc::cb::bZ::bY::undef::undef::undef::undef::undef::undef::undef::undef::undef::undef::undef::undef::undef::undef::undef::undef::undef::undef::undef::undef::undef::undef::undef::undef::undef::undef::undef::undef::undef::undef::undef::undef::undef::undef::undef::undef::undef::undef::undef::undef::[]),defers:=[]}/\Boxed V p8 88 (pointer (some ⟨H,0,none⟩))/\V.heap[H]?=some (.cells ZM 162 (0,0))/\(b9++[bool fold,slice av z cv,int i64 (Au wss),int i64 ((Dm wss n:Nat):Int),slice none 0 0]).toArray=ZM/\BI V C.heap.size (slice av z cv) wss/\Bt C V/\C.heap.size<=p8/\C.heap.size<=H/\z<=cv/\H≠p8)) (λe a' Y hM=>?_) ?_
 ·cases e<;>first|exact absurd hM id|skip
  obtain⟨p8,H,cv,av,ZM,x9,dV,cM,cL,cK,cJ,cI,cH,cG,cF,cE,cD,cC,cB,cA,cz,cy,cx,cw,cu,ct,cr,cq,cp,co,cn,cm,cl,ck,cj,ci,ch,cg,cf,ce,cd,cc,cb,bZ,bY,rfl,hP,bz,aB,eg,hHeld,f0,cT,aO,aX⟩:=hM;simp only[Exit.then];go_upto_region 11 with fail
  have bu:Mc Y H L m n (slice (some ⟨R,0,none⟩) k k) fold (slice av z cv) (Au wss) ((Dm wss n:Nat):Int) (slice none 0 0):=⟨by rw[bz,<-aB,<-bV.out,amL],a8⟩;have eJ:=AA eg;clear eg bz aB bg eu bV ew bW be eE eF dd eB HD eA HK;have cP:=hP.lt;have f2:=bu.lt;have d9:Hid (H≠p8):=aX;have eN:Hid (∀X:World,(Instr.makeSlice 160 (int i64 (n:Int)) (int i64 (n:Int))).run ZP X=.ok (slice (some ⟨X.heap.size,0,none⟩) n n) (X.alloc (.cells (GW n) 30))):=λX=>by
   obtain⟨i0,hi,bi,aH,bh⟩:=Ve alk;have aN:=db.out;rw[HN.out]at aN;have h:=run_makeSlice (P:=ZP) (w:=X) 160 30 i0 (.slice none 0 0) underlying160 hi bi .i64 .i64 (n:Int) (n:Int) om om (by rw[aH];omega) (by rw[bh];omega) om;rw[aH]at h;have e1:(n:Int).toNat*1=n:=by omega
   rw[e1,agW,Aa]at h;exact h
  have KP:Hid (∀X,(DW Y.heap.size H Y X/\∃wd,Mc X H L m n (slice (some ⟨R,0,none⟩) k k) fold (slice av z cv) (Au wss) ((Dm wss n:Nat):Int) (wd))->X.cell? ⟨p8,0,none⟩=some (pointer (some ⟨H,0,none⟩))/\X.cell? ⟨H,257,none⟩=some (int i64 (n:Int))):=λX hX=>⟨(BC (a:=⟨p8,0,none⟩) (hX.1.1 p8 cP (Ne.symm d9.out))).trans hP.cell,by obtain⟨wd,h⟩:=hX.2;exact h.cells.2.1⟩;refine Vb ?_;refine Va (S:=λX=>DW Y.heap.size H Y X/\∃wd,Mc X H L m n (slice (some ⟨R,0,none⟩) k k) fold (slice av z cv) (Au wss) ((Dm wss n:Nat):Int) (wd)) kr ⟨⟨λ_ _ _=>rfl,AC _⟩,_,bu.below (AN Y 1)⟩ (λaW=>?_);obtain⟨Y1,bp⟩:∃W,W=Y.drew:=⟨_,rfl⟩;have ai:Bt Y Y1:=by rw[bp];exact AN Y 1
  have bO:=bu.below ai;have bF:Hid (Y1.heap.size=Y.heap.size):=by rw[Hid,bp];rfl
  rw[<-bp]at aW⊢;clear bp;refine tkB 0 KP.out ?_;refine tkB 1 KP.out ?_;refine tkA 2 ?_;refine tkA 3 ?_;refine tkA 4 ?_;refine tkB 5 KP.out ?_;refine rdy 6 (λK J=>?_);have f3:=eN.out Y1;go_simp;obtain⟨Y2,aR⟩:∃W,W=Y1.alloc (.cells (GW n) 30):=⟨_,rfl⟩;have a6:Bt Y1 Y2:=by rw[aR];exact AL _ _
  have d6:Y2.heap[Y1.heap.size]?=some (.cells (GW n) 30 (0,0)):=by rw[aR];exact heap_alloc_new _ _
  have az:DW Y.heap.size H Y Y2:=by rw[aR];exact aaq aW.1 _
  rw[<-aR];clear aR f3;have a7:=bO.below a6;obtain⟨G,d4⟩:∃G,Y1.heap.size=G:=⟨_,rfl⟩;have bv:Hid (G=Y.heap.size):=by rw[Hid,<-d4];exact bF.out
  rw[d4]at d6⊢;clear d4;refine J.out _ _ ⟨az,_,a7⟩ (λee=>?_);clear J K aW
  try simp only[pq]
  refine tkA 7 ?_;refine tkA 8 ?_;refine rdy 9 (λK J=>?_);have c0:=a7.cells.2.2.2.2.2.2.2;have c1:=a7.frozen 263;have c2:=a7.lt;go_simp;have aj:=a7.setW (slice (some ⟨G,0,none⟩) n n);have d5:G≠H:=by have:=bv.out;omega
  have b6:=(AQ Y2 ⟨H,263,none⟩ (slice (some ⟨G,0,none⟩) n n) G d5).trans d6;have bT:Bt C Y2:=hHeld.trans ((ai.trans (a6.mono ai.size)).mono hHeld.size);have aF:=bT.setCell (p:=⟨H,263,none⟩) cT (slice (some ⟨G,0,none⟩) n n);have aY:=((eJ.out.below ai).below a6).turned (BH Y2 H 263 (slice (some ⟨G,0,none⟩) n n)) a7.box (Lj kr) (Lj kr);have aD:=(AQ Y2 ⟨H,263,none⟩ (slice (some ⟨G,0,none⟩) n n) p8 (Ne.symm d9.out)).trans ((az.1 p8 cP (Ne.symm d9.out)).trans hP);have cS:DW Y.heap.size H Y (Y2.setCell ⟨H,263,none⟩ (slice (some ⟨G,0,none⟩) n n)):=⟨λi h1 h2=>(AQ Y2 ⟨H,263,none⟩ _ i h2).trans (az.1 i h1 h2),by have:=az.2;simpa[World.setCell]using this⟩;obtain⟨Y3,eb⟩:∃W,W=Y2.setCell ⟨H,263,none⟩ (slice (some ⟨G,0,none⟩) n n):=⟨_,rfl⟩;rw[<-eb]at aj b6 aF aY aD cS⊢;have eZ:Hid (G<Y3.heap.size):=(AD.1 b6).1;have aD:Boxed Y3 p8 88 (pointer (some ⟨H,0,none⟩)):=aD;clear eb;refine J.out _ _ ⟨cS,_,aj⟩ (λed=>?_);clear J K ee ed cS az a7 bO bu ai a6 bT c0 c1 c2 d6 hP hHeld eJ KP eN f2 bF
  try simp only[pq]
  refine Vd kr ?_ _;refine At ?_;have eo:=GP.new b6;have fk:=AA b6;have eI:=AA aY;have eR:=AA aF;have am:=AA aj;have eG:=AA aD;have c0:=aD.cell;have c1:=aj.cells.2.1;have aZ:Hid (G≠H):=d5;have eQ:Hid (C.heap.size<=H):=cT;have bQ:Hid (G≠p8):=by have:=bv.out;rw[Hid];omega
  have bw:Hid (C.heap.size<=G):=by have:=bv.out;rw[Hid];omega
  have eU:n=xn:=by have h:=bd.out.wrd.1;dsimp only at h;rw[(Jt wss).1,HN.out]at h;exact h
  obtain rfl:=eU;have f1:0<n:=by rw[<-HN.out];exact(AP.1 (CM wss)).1
  obtain⟨b0,o0,dW,bL,hcw⟩:=bd.out.wrd.2.resolve_left (by dsimp only;omega);dsimp only at dW;subst dW;have fp:Hid (∀(i:Nat)(v:Int),(AG wss).wrd[i]?=some v->C.cell? ⟨b0,o0+i,none⟩=some (int i64 v)):=hcw;have bX:Hid (b0<C.heap.size):=bL;have ff:=AA cQ;have ea:Hid (q<C.heap.size):=cQ.lt;have bA:Hid (n<=400):=by have:=db.out;rw[HN.out]at this;exact this
  clear b6 aY aF aj aD d5 cP bv cT f0 aX hcw bL cQ f1
  go_wp2_with fail
  refine wp_loop (λa' w'=>∃(node:Nat)(ds:List Deferred)(y63 y9 dU dT dS dR dQ dP dO dN dM dL dK dJ dI dH dG dF dE dD dC dB dA dz dy dx dw dv du dt dr dq dp dm dk di dh dg df de:Value),(y63=int i64 (node:Int)/\node<=n/\Hid (GP G n ((List.range node).map (CA wss)) w')/\Hid (Y3.grownBy w' (some G))/\Hid (FE C.heap.size w' ds))/\a'={tmps:=List.toArray (Value.agg (AM fold a z ca)::pointer (some ⟨w.heap.size,0,none⟩)::pointer none::int i64 0::pointer (some ⟨w3.heap.size,0,none⟩)::int i64 0::pointer (some ⟨w5.heap.size,0,none⟩)::slice (some ⟨q,0,none⟩) n n::pointer (some ⟨p8,0,none⟩)::y9::dU::cM::cL::cK::cJ::cI::cH::cG::cF::cE::cD::cC::cB::cA::cz::cy::cx::cw::cu::ct::cr::cq::cp::co::cn::cm::cl::ck::cj::ci::ch::cg::cf::ce::cd::cc::cb::bZ::bY::dT::dS::dR::dQ::dP::dO::dN::dM::dL::dK::dJ::dI::dH::int i64 (n:Int)::y63::dG::dF::dE::dD::dC::dB::dA::dz::dy::dx::dw::dv::du::dt::dr::dq::dp::dm::dk::di::dh::dg::df::de::undef::[]),defers:=ds}) (λa' _=>n-(intOf (a'.tmps.getD 63 undef)).toNat) ⟨0,[],_,_,_,_,_,_,_,_,_,_,_,_,_,_,_,_,_,_,_,_,_,_,_,_,_,_,_,_,_,_,_,_,_,_,_,_,_,_,_,_,⟨rfl,AR _,eo,(⟨rfl,rfl,rfl,AC _,λ_ _ _=>rfl⟩:Y3.grownBy Y3 (some G)),trivial⟩,rfl⟩ ?_;rintro a' wr ⟨node,ds,y63,y9,dU,dT,dS,dR,dQ,dP,dO,dN,dM,dL,dK,dJ,dI,dH,dG,dF,dE,dD,dC,dB,dA,dz,dy,dx,dw,dv,du,dt,dr,dq,dp,dm,dk,di,dh,dg,df,de,⟨rfl,fE,HF,aG,HC⟩,rfl⟩;have ak:Hid (Bt C wr):=eR.out.grown aG.out eR.out.size (λj e=>by cases e;exact bw.out);have cR:Hid (∀i,i<Y3.heap.size->i≠G->wr.heap[i]?=Y3.heap[i]?):=λi h1 h2=>aG.out.block i h1 (λe=>h2 (by cases e;rfl));have cZ:Boxed wr p8 88 (pointer (some ⟨H,0,none⟩)):=(cR.out p8 eG.out.lt (Ne.symm bQ.out)).trans eG.out;have eD:=AA cZ;clear c0 c1;have c0:=cZ.cell;clear cZ eo
  by_cases ag:node<n
  ·have hd:decide ((node:Int)<(n:Int))=true:=by simp;omega
   obtain⟨e0,e1,e2,e3⟩:=ey.out wr ak.out;have l5:w5.heap.size<wr.heap.size:=Af ez.out ak.out.size;have l8:p8<wr.heap.size:=eD.out.lt
   go_wp2_with (go_at_call 93;refine(ain ⟨ua,un,uc,da,dn,dc,some ⟨b0,o0,none⟩,n,xc,ba,bn,bc⟩ (some ⟨q,0,none⟩) n n (node:Int) _).mono ?_;rintro e U ⟨rfl,aa⟩)
   try simp only[TV.cells]
   obtain⟨U,aa⟩:∃W,W=((((wr.alloc (.cells #[int i64 (node:Int)] 3)).alloc (.cells #[slice ua un uc,slice da dn dc,slice (some ⟨b0,o0,none⟩) n xc,slice ba bn bc] 150)).alloc (.cells #[slice (some ⟨q,0,none⟩) n n] 30)).alloc (.cells #[int i64 (node:Int)] 3)):=⟨_,rfl⟩;have hO:Bx wr.heap.size [.cells #[int i64 (node:Int)] 3,.cells #[slice ua un uc,slice da dn dc,slice (some ⟨b0,o0,none⟩) n xc,slice ba bn bc] 150,.cells #[slice (some ⟨q,0,none⟩) n n] 30,.cells #[int i64 (node:Int)] 3] U:=by rw[aa];exact((((Bx.nil _ wr).snoc _ rfl).snoc _ sm).snoc _ sm).snoc _ sm
   have ad:Bt wr U:=by rw[aa];exact(((AL wr _).alloc sm _).alloc (by simp;omega) _).alloc (by simp;omega) _
   have fs:U.heap.size=wr.heap.size+1+1+1+1:=by rw[aa];simp
   rw[<-aa];clear aa e0 e1 e2 e3;have ek:Boxed U wr.heap.size 3 (int i64 (node:Int)):=hO 0 _ rfl;have ej:U.heap[wr.heap.size+1]?=_:=hO 1 _ rfl;have ei:Boxed U (wr.heap.size+1+1) 30 (slice (some ⟨q,0,none⟩) n n):=hO 2 _ rfl;have eh:Boxed U (wr.heap.size+1+1+1) 3 (int i64 (node:Int)):=hO 3 _ rfl;have ax:Bt C U:=ak.out.trans (ad.mono ak.out.size);have bG:AU q (Bk wss) U:=(ax.block q ea.out).trans ff.out;have bR:G<wr.heap.size:=Af eZ.out aG.out.size;have eY:=ak.out.size;have fD:q<G:=Af ea.out bw.out;have fH:b0<G:=Af bX.out bw.out;have cO:=aez wss (wr.heap.size+1+1+1) (wr.heap.size+1+1) (wr.heap.size+1) q n b0 o0 xc n node _ _ _ (λk=>k<U.heap.size/\k≠G) 8 U ej bG HN.out (by have:=bA.out;omega) (λi v hv=>(ax.cell (p:=⟨b0,o0+i,none⟩) bX.out).trans (fp.out i v hv)) ei eh ⟨⟨by omega,by omega⟩,⟨by omega,by omega⟩,⟨by omega,by omega⟩,⟨by omega,by omega⟩,⟨by omega,by omega⟩⟩ (λk hk=>hk.1) ⟨by omega,by omega,by omega,by omega⟩ ag;obtain⟨vs,cN,e5,eT,aL,aI⟩:=HF.out;have eS:((List.range node).map (CA wss)).length=node:=by simp
   have e4:vs[node]?=some (none,0,0):=by
    have h1:node<vs.length:=by omega
    have h2:=aL node vs[node] om (by simp[h1]);rw[Ar h1,h2]
   have bE:vs.set node (none,0,0)=vs:=by
    apply Hn
    intro i;rw[Gr]
    split
    ·rename_i h;subst h;rw[Lc om,e4]
    ·rfl
   have bH:U.heap[G]?=some (.cells (vs.map svV).toArray 30 (0,0)):=(ad.block G bR).trans cN;have eP:FD G U.heap.size vs node [] U:=⟨(none,0,0),by rw[bE];exact bH,BN _ _ _ _⟩;have ev:=AA cN;have au:Hid (vs.length=n):=e5;have eM:=AA aL;have fe:=AA aI;have fh:=AA ek;have fw:=AA ax;have bU:=AA ad;have bN:Boxed U p8 88 (pointer (some ⟨H,0,none⟩)):=(ad.block p8 l8).trans eD.out;have eH:=AA bN;have em:Hid (H<wr.heap.size):=Af am.out.lt aG.out.size;have eO:Hid (U.cell? ⟨H,263,none⟩=some (slice (some ⟨G,0,none⟩) n n)):=(BC (a:=⟨H,263,none⟩) ((ad.block H em.out).trans (cR.out H am.out.lt (Ne.symm aZ.out)))).trans am.out.cells.2.2.2.2.2.2.2;have eV:(CA wss node).length<=1000000:=by have:=LL wss node;have:=bA.out;omega
   clear cN e5 aL aI ek ej ei eh hO ax ad bG bE e4 bH bN eT
   apply amM rfl (enters_of func137 kr rfl) cO (λr hr=>by rw [hr];omega) GD (JR λk hk=>hk.1) (λ_=>rfl) (hKr:=λ_ _ _=>rfl)
    (λy W=>FD G U.heap.size vs node y W/\((∀k,k<U.heap.size->k≠G/\k≠wr.heap.size+1+1+1->W.heap[k]?=U.heap[k]?)/\U.heap.size<=W.heap.size)/\RowKit.Below G U W)
    (λ_ _ _=>False)
   case hI=>exact BL.and (aft om om id) (BL.and (ahk (G:=G) (λk _ h=>h.2)) (BL.below om om (λr hr=>by rw[hr];omega)))
   case hIx=>exact λ_ _ _ _ _ hs _ _=>hs
   case h0=>exact⟨eP,⟨λ_ _ _=>rfl,AC _⟩,Jj _ _⟩
   case hassign=>
    intro l x W K J;unfold OX
    gi_wp2
    exact J
   case hbody=>
    rintro l y u W ⟨⟨⟨va,vn,vc⟩,hv,ab⟩,⟨aE,eX⟩,b7⟩ fu
    try dsimp only
    obtain⟨fL,fK,he,fv,_⟩:=Co (enc:=int i64) ab;simp only[svV,IL]at he;obtain⟨rfl,rfl,rfl⟩:=he;have fI:y.length<=1000:=by have:=bA.out;omega
    obtain⟨i0,hi,bi,aH,bh⟩:=Ve JS;have fg:=AA ab;have HV:=AA hv;have fa:G<W.heap.size:=by omega
    have KC:Hid (∀X,DW U.heap.size G W X->X.cell? ⟨p8,0,none⟩=some (pointer (some ⟨H,0,none⟩))/\X.cell? ⟨H,263,none⟩=some (slice (some ⟨G,0,none⟩) n n)/\X.cell? ⟨wr.heap.size,0,none⟩=some (int i64 (node:Int))):=λX hX=>by have h1:∀k,k<wr.heap.size+1->k≠G->X.heap[k]?=U.heap[k]?:=λk ha hb=>(hX.1 k om hb).trans (aE k om ⟨hb,by omega⟩);exact⟨(BC (a:=⟨p8,0,none⟩) (h1 p8 om (Ne.symm bQ.out))).trans eH.out.cell,(BC (a:=⟨H,263,none⟩) (h1 H (by have:=em.out;omega) (Ne.symm aZ.out))).trans eO.out,(BC (a:=⟨wr.heap.size,0,none⟩) (h1 wr.heap.size om om)).trans fh.out.cell⟩
    have i1:(0:Int)<=(node:Int):=by omega
    have i2:(node:Int)<(n:Int):=by omega
    clear hv ab cO c0
    gi_wp2
    have eW:W.drew.heap[G]?=some (.cells ((vs.set node (va,y.length,vc)).map svV).toArray 30 (0,0)):=HV.out;have aq:W.drew.ownsRow U.heap.size 3 1 (slice va y.length vc) y.length (y.map (int i64)):=fg.out;have bb:=AA eW;have ay:Hid (FB W.drew U.heap.size (slice va y.length vc) y):=aq;have e8:SlK 1 (W.drew.alloc (.cells #[int i64 u] 3)) (some ⟨W.drew.heap.size,0,none⟩) 1 [int i64 u]:=ane W.drew u;refine aa4 (S:=DW U.heap.size G W) mixed kr ⟨λ_ _ _=>rfl,(by show U.heap.size<=W.heap.size;omega)⟩ (λhHeld=>?_);refine tkB 0 KC.out ?_;refine tkB 1 KC.out ?_;refine tkB 2 KC.out ?_;refine tkB 3 KC.out ?_;refine tkB 4 KC.out ?_;refine tkB 5 KC.out ?_;refine tkB 6 KC.out ?_;refine tkB 7 KC.out ?_;refine tkB 8 KC.out ?_;refine tkB 9 KC.out ?_;refine tkB 10 KC.out ?_;refine tkA 12 ?_;refine apE 11 13 (λK J=>?_) (λK J=>?_)
    ·have c6:=FD.cell (B:=0) bb.out (by rw[au.out];exact ag);have A:=hHeld;go_simp;refine J.out _ _ ?_ (λN=>?_)
     ·exact A
     clear J K hHeld A;have hHeld:=N;clear N
     try simp only[pq]
     refine rdy 13 (λK J=>?_);have A:=hHeld;go_simp;refine J.out _ _ ?_ (λN=>?_)
     ·exact aaq A _
     clear J K hHeld A c6;have hHeld:=N;clear N
     try simp only[pq]
     refine rdy 14 (λK J=>?_);refine Mi kr ?_;refine NT _ _ _ 30 rfl U.heap.size 3 i0 (.int .i64 0) 1 8 underlying30 hi bi aH bh rfl (by decide) _ _ _ rfl (aq.alloc _) (some ⟨W.drew.heap.size,0,none⟩) 1 1 [.int .i64 u] rfl e8 (by simp[Value.oneCell']) (by unfold maxLen;omega) om (by show U.heap.size<=(W.heap.push _).size;simp;omega) ?_;intro v' ao a2 s f5;obtain⟨g',al,rfl⟩:=ownsRow_succ a2;obtain⟨b1,b2,b3,b4,b5⟩:=FD.app (u:=(some ⟨g',0,none⟩,y.length+1,al)) bb.out ay.out om (by show U.heap.size<=W.heap.size;omega) a2 s;have d1:=FD.cell (B:=0) b1 (by rw[au.out];exact ag);have d2:=aj0 b1 node;have d3:G<ao.heap.size:=(AD.1 b1).1;have ac:∀k,k<U.heap.size->(Value.slice va y.length vc).ownBlock≠some k:=λk hk e=>by have:=(BA ay.out k e).1;omega
     have aU:DW U.heap.size G W ao:=⟨λk h1 h2=>(s.block k (by show k<(W.heap.push _).size;simp;omega) (λe=>ac k h1 e.symm)).trans ((AL W.drew _).block k (by show k<W.heap.size;omega)),AS (by show U.heap.size<=(W.heap.push _).size;simp;omega) s.size⟩;refine J.out _ _ aU (λN=>?_);clear J K hHeld;have hHeld:=N;clear N
     try simp only[pq]
     refine tkA 15 ?_;refine rdy 16 (λK J=>?_);go_simp;have aT:DW U.heap.size G W (ao.setCell ⟨G,node,none⟩ (slice (some ⟨g',0,none⟩) (y.length+1) al)):=⟨λk h1 h2=>b4 k h1 h2,by have h1:=aU.2;simpa[World.setCell]using h1⟩;refine J.out _ _ ?_ (λN=>?_)
     ·exact aT
     clear J K hHeld N;refine Vd kr ?_ _;refine Gn.normal ?_
     gi_wp2
     exact⟨(show KeepsOthers W _ from⟨b3.size,b3.same⟩).from _,λk hk=>b4 k hk.1 hk.2,b2,⟨λk h1 h2=>(b4 k h1 h2.1).trans (aE k h1 h2),aT.2⟩,b7.trans (((AN W 1).mono om).trans b5)⟩
    ·have A:=hHeld;go_simp;refine J.out _ _ ?_ (λN=>?_)
     ·exact aaq A _
     clear J K hHeld A;have hHeld:=N;clear N
     try simp only[pq]
     refine rdy 11 (λK J=>?_);have c6:=FD.cell (B:=0) bb.out (by rw[au.out];exact ag);have c8:=FD.cell (B:=0) HV.out (by rw[au.out];exact ag);have c7:=FD.cell (B:=0) ((Bg W.drew (.cells #[int i64 u] 3) G fa).trans bb.out) (by rw[au.out];exact ag);have A:=hHeld;go_simp;refine J.out _ _ ?_ (λN=>?_)
     ·exact A
     clear J K hHeld A c7 c6 c8;have hHeld:=N;clear N
     try simp only[pq]
     refine rdy 14 (λK J=>?_);refine Mi kr ?_;refine NT _ _ _ 30 rfl U.heap.size 3 i0 (.int .i64 0) 1 8 underlying30 hi bi aH bh rfl (by decide) _ _ _ rfl (aq.alloc _) (some ⟨W.drew.heap.size,0,none⟩) 1 1 [.int .i64 u] rfl e8 (by simp[Value.oneCell']) (by unfold maxLen;omega) om (by show U.heap.size<=(W.heap.push _).size;simp;omega) ?_;intro v' ao a2 s f5;obtain⟨g',al,rfl⟩:=ownsRow_succ a2;obtain⟨b1,b2,b3,b4,b5⟩:=FD.app (u:=(some ⟨g',0,none⟩,y.length+1,al)) bb.out ay.out om (by show U.heap.size<=W.heap.size;omega) a2 s;have d1:=FD.cell (B:=0) b1 (by rw[au.out];exact ag);have d2:=aj0 b1 node;have d3:G<ao.heap.size:=(AD.1 b1).1;have ac:∀k,k<U.heap.size->(Value.slice va y.length vc).ownBlock≠some k:=λk hk e=>by have:=(BA ay.out k e).1;omega
     have aU:DW U.heap.size G W ao:=⟨λk h1 h2=>(s.block k (by show k<(W.heap.push _).size;simp;omega) (λe=>ac k h1 e.symm)).trans ((AL W.drew _).block k (by show k<W.heap.size;omega)),AS (by show U.heap.size<=(W.heap.push _).size;simp;omega) s.size⟩;refine J.out _ _ aU (λN=>?_);clear J K hHeld;have hHeld:=N;clear N
     try simp only[pq]
     refine tkA 15 ?_;refine rdy 16 (λK J=>?_);go_simp;have aT:DW U.heap.size G W (ao.setCell ⟨G,node,none⟩ (slice (some ⟨g',0,none⟩) (y.length+1) al)):=⟨λk h1 h2=>b4 k h1 h2,by have h1:=aU.2;simpa[World.setCell]using h1⟩;refine J.out _ _ ?_ (λN=>?_)
     ·exact aT
     clear J K hHeld N;refine Vd kr ?_ _;refine Gn.normal ?_
     gi_wp2
     exact⟨(show KeepsOthers W _ from⟨b3.size,b3.same⟩).from _,λk hk=>b4 k hk.1 hk.2,b2,⟨λk h1 h2=>(b4 k h1 h2.1).trans (aE k h1 h2),aT.2⟩,b7.trans (((AN W 1).mono om).trans b5)⟩
   case hstop=>exact λ_ _ _ _ _ _ h _=>h.elim
   case hdone=>
    rintro D zs W hD hS ⟨hH,⟨aE,eX⟩,b7⟩ er;subst hS;have ae:∀i,i<wr.heap.size->i≠G->W.heap[i]?=wr.heap[i]?:=λi h1 h2=>(aE i om ⟨h2,by omega⟩).trans (bU.out.block i h1);have e7:wr.heap.size<=W.heap.size:=by omega
    have fm:Hid (GP G n ((List.range (node+1)).map (CA wss)) W):=by rw[Hid,El,Aj];exact GP.step ev.out au.out eS ag eM.out fe.out om hH ae e7
    have aP:=(bU.out.mono (DP bR)).trans b7;have fl:Hid (Y3.grownBy W (some G)):=adm aG.out ⟨aP.os,aP.tape,aP.output,aP.size,λi hi aM=>ae i hi (λe=>aM (by rw[e]))⟩;have fq:Hid (FE C.heap.size W ({target:=.collected D,args:=#[]}::ds)):=FE.push HC.out ae (λl e=>by rw[ev.out]at e;cases e) om er eY;clear hH aE b7 aP ae cO er eP;have aN:=bA.out;dsimp only
    go_wp2_with fail
    refine⟨⟨node+1,_,_,_,_,_,_,_,_,_,_,_,_,_,_,_,_,_,_,_,_,_,_,_,_,_,_,_,_,_,_,_,_,_,_,_,_,_,_,_,_,_,⟨by simp,by omega,fm,fl,fq⟩,rfl⟩,?_⟩;show n-(intOf (int i64 ((node:Int)+1))).toNat<n-(intOf (int i64 (node:Int))).toNat;simp only[intOf];omega
  ·have hd:decide ((node:Int)<(n:Int))=false:=by simp;omega
   have aM:Hid (node=n):=by rw[Hid];omega
   go_wp2_with fail
   show LeavesInM Fence.wide 9 ZP _ _ _ _ .returning wr;refine apl (Q:=C.heap.size) ds wr ak.out.size HC.out (λW' hT=>⟨_,results_tmp2 rfl _ _ _,?_⟩);have dY:=eI.out.turned aG.out fk.out (Lj kr) (Lj kr);have dX:=dY;obtain⟨a9,c9,e9,fG,bD⟩:=dY.wds;rw[bB.out]at e9 bD
   cases e9
   have f9:=ah.block R ap.lt;have f8:R<C.heap.size:=Af ap.lt ah.size;have ac:=HF.out.far (q:=w.heap.size) (AS af.out.size bw.out);rw[aM.out]at ac;have eq:Il w.heap.size wr H R av z cv wss (some ⟨G,0,none⟩):=⟨AS af.out.size eQ.out,fd.out,dX.lower af.out.size,by rw[HN.out];exact ac⟩;refine⟨H,R,cv,n,av,some ⟨G,0,none⟩,rfl,hT.mok ⟨?_,?_,?_,?_⟩,af.out.trans ((ak.out.trans hT.1).mono af.out.size),eq.kept hT.kept⟩
   ·rw[fi.out,HM.out,HN.out,fj.out];exact⟨(cR.out H am.out.lt (Ne.symm aZ.out)).trans am.out.box,a8⟩
   ·exact(ak.out.block R f8).trans (f9.trans ap)
   ·exact bD
   ·rw[HN.out];have hl:=HF.out.lls (by simp;exact aM.out);rw[aM.out]at hl;exact hl
 refine Vb ?_;refine Va (S:=Bt C) kr (AN C 1) (λhHeld=>?_);obtain⟨w8,dZ⟩:∃W,W=C.drew:=⟨_,rfl⟩;rw[<-dZ]at hHeld⊢;clear dZ;refine tkA 0 ?_;refine' wpAnyH_take (i:=1) (v:=_) (by simp only[pD,pE,pF];rfl) (by as_aux_lemma=>kernel_rfl) (by as_aux_lemma=>kernel_rfl) (by as_aux_lemma=>kernel_rfl) (λ_ _ _ h=>h) (yieldsIf_load_mid (by rfl) _ _ rfl w3.heap.size 0 rfl (L.map (Value.int .i64)) _ (λV I=>(HK.out V I).range) underlying144 rfl be.out) (by assumption) ?_
 try simp only[pq]
 refine tkA 2 ?_;refine tkW 3 (v:=?_) ?_ ?_;rotate_left
 ·intro V I;have r0:=(HK.out V I).cells.1
  first|(go_simp;done)|(go_simp;with_reducible rfl)
 try simp only[pq]
 refine' wpAnyH_take (i:=4) (v:=_) (by simp only[pD,pE,pF];rfl) (by as_aux_lemma=>kernel_rfl) (by as_aux_lemma=>kernel_rfl) (by as_aux_lemma=>kernel_rfl) (λ_ _ _ h=>h) (aaS (by rfl) _ _ rfl w3.heap.size rfl 146 _ (0,0) _ (λV I=>(HK.out V I).box) underlying146 rfl bW.out) (by assumption) ?_
 try simp only[pq]
 refine tkA 6 ?_;refine tkW 7 (v:=?_) ?_ ?_;rotate_left
 ·intro V I;have r0:=(HK.out V I).cells.2
  first|(go_simp;done)|(go_simp;with_reducible rfl)
 try simp only[pq]
 refine tkB 9 eC.out ?_;refine tkB 11 eC.out ?_;refine tkB 13 ey.out ?_;refine apJ 17 (λv V=>∃p,v=pointer (some ⟨p,0,none⟩)/\Boxed V p 88 (pointer none)/\C.heap.size<=p) ?_ ?_ (λD=>?_)
 ·rintro _ V V' ⟨p,rfl,b,h⟩ hb;exact⟨p,rfl,(hb.block _ b.lt).trans b,h⟩
 ·intro f V I _ K J;go_simp;exact J _ _ (I.alloc I.size _) ⟨_,rfl,Boxed.new _ _ _,I.size⟩ (AL _ _)
 refine Oo D 5 (λv _=>v=int i64 n) ?_ ?_
 ·rintro f (rfl|⟨vk,rfl⟩) V I-K J<;>(try simp only[pq]at J⊢)<;>go_simp<;>(go_at_call 89;refine(ab7 L m (some ⟨R,0,none⟩) k k _ a8 om).mono ?_;rintro e V5 ⟨rfl,aA⟩;rw[eB.out];exact J _ _ (I.trans (aA.mono I.size)) rfl aA)
 rintro _ w9 hHeld-rfl
 try simp only[pq]
 refine apH D 8 (v:=.agg ZT) ?_ ?_
 ·rintro f (rfl|⟨vk,rfl⟩)<;>(try simp only[pq])<;>exact Iz (by rfl) _ _ rfl ZT (by go_simp;exact bg.out)
 try simp only[pq]
 refine Oo D 10 (λv V=>∃av cv,v=.agg #[bool fold,slice av z cv]/\z<=cv/\BI V C.heap.size (slice av z cv) wss) ?_ ?_
 ·rintro f (rfl|⟨vk,rfl⟩) V I-K J<;>(try simp only[pq]at J⊢)<;>go_simp<;>(go_at_call 90;refine(eE.out _ (af.out.trans (I.mono af.out.size))).mono ?_;rintro e fO ⟨v,rfl,ab,bK⟩;obtain⟨av,cv,rfl,aO,-⟩:=ab.wds;rw[bB.out]at aO;have aK:=BI.lower ab I.size;rw[bB.out]at aK;rw[bB.out];exact J _ _ (I.trans (bK.mono I.size)) ⟨_,_,rfl,aO,aK⟩ bK)
 rintro _ fB hHeld-⟨av,cv,rfl,aO,a1⟩
 try simp only[pq]
 obtain⟨ZM,aB⟩:∃Z,(b9++[bool fold,slice av z cv,int i64 (Au wss),int i64 ((Dm wss n:Nat):Int),slice none 0 0]).toArray=Z:=⟨_,rfl⟩;have bC:Hid (ZP.built 162 [(0,.agg ZT),(1,.agg #[bool fold,slice av z cv]),(2,int i64 (Au wss)),(3,int i64 ((Dm wss n:Nat):Int))]=some ZM):=by rw[Hid,<-aB,<-eu.out];exact aad b9 fold av z cv _ _ ew.out
 have fb:=AA aB;clear aB;refine Oo D 12 (λv _=>v=int i64 (Au wss)) ?_ ?_
 ·rintro f (rfl|⟨vk,rfl⟩) V I-K J<;>(try simp only[pq]at J⊢)<;>go_simp<;>(go_at_call 91;refine(eF.out _ (af.out.trans (I.mono af.out.size))).mono ?_;rintro e fN ⟨rfl,a6⟩;exact J _ _ (I.trans (a6.mono I.size)) rfl a6)
 rintro _ fA hHeld hb rfl
 replace a1:=a1.below hb
 clear hb
 try simp only[pq]
 refine Oo D 14 (λv _=>v=int i64 ((Dm wss n:Nat):Int)) ?_ ?_
 ·rintro f (rfl|⟨vk,rfl⟩) V I-K J<;>(try simp only[pq]at J⊢)<;>go_simp<;>(go_at_call 92;refine(dd.out _ _ (bd.out.below I) e6).mono ?_;rintro e fM ⟨rfl,bJ⟩;exact J _ _ (I.trans (bJ.mono I.size)) rfl bJ)
 rintro _ fz hHeld hb rfl
 replace a1:=a1.below hb
 clear hb
 try simp only[pq]
 refine apH D 15 (v:=.agg ZM) ?_ ?_
 ·rintro f (rfl|⟨vk,rfl⟩)<;>(try simp only[pq])<;>exact Iz (by rfl) _ _ rfl ZM (by go_simp;exact bC.out)
 try simp only[pq]
 refine Oo D 16 (λv V=>∃p,v=pointer (some ⟨p,0,none⟩)/\V.heap[p]?=some (.cells ZM 162 (0,0))/\C.heap.size<=p) ?_ ?_
 ·rintro f (rfl|⟨vk,rfl⟩) V I-K J<;>(try simp only[pq]at J⊢)<;>go_simp<;>exact J _ _ (I.alloc I.size _) ⟨_,rfl,heap_alloc_new _ _,I.size⟩ (AL _ _)
 rintro _ fy hHeld hb ⟨pM,rfl,bf,bz⟩
 replace a1:=a1.below hb
 clear hb
 try simp only[pq]
 refine apI D ?_;rintro _ fx hHeld hb-⟨pP,rfl,bP,ef⟩
 replace a1:=a1.below hb
 replace bf:=(hb.block _ (AD.1 bf).1).trans bf
 have aX:pM≠pP:=by rintro rfl;cases bf.symm.trans bP
 try simp only[pq]
 refine rdy 18 (λK J=>?_);have q0:=bP.cell;have q1:=bP.frozen;have q2:=bP.lt;go_simp;refine J.out _ _ (hHeld.setCell ef _) (λN=>?_)
 try simp only[pq]
 refine Vd kr ?_ _;refine At ?_;exact⟨_,_,cv,av,ZM,_,_,_,_,_,_,_,_,_,_,_,_,_,_,_,_,_,_,_,_,_,_,_,_,_,_,_,_,_,_,_,_,_,_,_,_,_,_,_,_,rfl,bP.set _,(AQ _ _ _ _ aX).trans bf,fb.out,a1.turned (BH _ _ 0 _) bP (Lj kr) (Lj kr),N,ef,bz,aO,aX⟩
end
def ownW(ws:La)(b:List Int):List Int:=if b∈ws then [CW ws b] else []
def DF(ws:La):List Int->List Int
 |[]=>[]
 |c::b=>ownW ws (c::b)++DF ws b
section
variable {ws:La}
theorem LU(h0:[] ∉ ws):∀b,DF ws (lsf (AB ws) b)=DF ws b
 |[]=>by have:=Gb (AB ws) [];rw[List.suffix_nil.1 this]
 |c::b=>by
  by_cases h:(c::b)∈AB ws
  ·rw[Lu h]
  ·have Y:(c::b) ∉ ws:=λX=>by
    obtain⟨w,Z⟩:=DR X;obtain⟨j,_,V,_⟩:=adL Z sm;exact h (AX V)
   have e:lsf (AB ws) (c::b)=lsf (AB ws) b:=al2 (b:=c::b) (k:=0) sm h;rw[e,LU h0 b]
   conv=>rhs;unfold DF ownW
   rw[Lb Y,Av]
theorem ajb(h0:∀x∈ws,x.length≠0){z:Nat}{x:List Int}(Z:(AB ws)[z]?=some x):∃v:Int,(AG ws).wrd[z]?=some v/\ownW ws x=if 0<=v then [v] else []:=by
 refine⟨CW ws x,alj Z,?_⟩;unfold ownW
 by_cases h:x∈ws
 ·rw[Lc h,Lc];unfold CW;rw[Lc h];omega
 ·rw[Lb h,abt h,Lb (by decide)]
theorem OU(h0:∀x∈ws,x.length≠0):∀{z:Nat}{x:List Int},(AB ws)[z]?=some x->CA ws z=DF ws x:=by
 intro z;have N:[] ∉ ws:=λB=>h0 [] B rfl
 induction z using Nat.strongRecOn with
 |_ z ih=>
  intro x Y;have I:=(AP.1 Y).1
  by_cases X:z=0
  ·subst X;rw[CM]at Y;have:=AK Y;subst this;exact afO ws
  ·have U:x≠[]:=λe=>X ((EM Y).2 e);obtain⟨v,D,ho⟩:=ajb h0 Y;rw[acI om I D,<-ho];obtain⟨k,h1,_,h3,h4⟩:=Nh Y;have V:=h3 om;obtain⟨u,H,C⟩:=ajb h0 h4;have hk:CA ws (nx ws z)=DF ws (EC (AB ws) x):=by
    rw[ajZ om I h1 H]
    by_cases Z:0<=u
    ·rw[Lc Z];exact ih k V h4
    ·rw[Lb Z];have e:=ih k V h4
     by_cases J:k=0
     ·subst J;rw[Lk];exact e
     ·rw[acI om om H,Lb Z,Av]at e;exact e
   rw[hk]
   cases x with
   |nil=>exact absurd rfl U
   |cons c b=>
    rw[show EC (AB ws) (c::b)=lsf (AB ws) b from rfl,LU N b]
    rfl
end
theorem Od(ws:La)(c:Int)(t:List Int):DF ws (c::t)=(if(c::t)∈ws then [CW ws (c::t)] else [])++DF ws t:=rfl
theorem aqq:((ZP.fieldsOf 116).toList.map λf=>(f.name,f.type,f.offset))=[("End",3,0),("Word",3,1)]:=by kernel_rfl
theorem apV(d:Nat)(xs ys:Array Value)(Y Z:List Field)(h:Y.map (λf=>(f.name,f.type,f.offset))=Z.map (λf=>(f.name,f.type,f.offset))):Op.eqFields d xs ys Y=Op.eqFields d xs ys Z:=by
 induction Y generalizing Z with
 |nil=>cases Z with
  |nil=>rfl
  |cons g Z=>simp at h
 |cons f Y ih=>cases Z with
  |nil=>simp at h
  |cons g Z=>
   simp only[BO,MY,Jk]at h;obtain⟨⟨h1,h2,h3⟩,h4⟩:=h;simp only[Op.eqFields,h1,h2,h3,ih Z h4]
theorem aqh(x y:AF)(W:World):(Op.equalIn 10000 116 (.agg #[int i64 x.1,int i64 x.2]) (.agg #[int i64 y.1,int i64 y.2])).run ZP W=.ok (decide (x=y)) W:=by
 rw[run_equalIn_agg W 9999 116 _ _ kr kr];rw[apV 9999 _ _ _ [⟨ "End",3,0,false,"","",0⟩,⟨ "Word",3,1,false,"","",0⟩] aqq];have h0:∀W:World,(part 3 #[int i64 x.1,int i64 x.2] 0).run ZP W=.ok (int i64 x.1) W:=λW=>by kernel_rfl
 have h1:∀W:World,(part 3 #[int i64 x.1,int i64 x.2] 1).run ZP W=.ok (int i64 x.2) W:=λW=>by kernel_rfl
 have Y:∀W:World,(part 3 #[int i64 y.1,int i64 y.2] 0).run ZP W=.ok (int i64 y.1) W:=λW=>by kernel_rfl
 have Z:∀W:World,(part 3 #[int i64 y.1,int i64 y.2] 1).run ZP W=.ok (int i64 y.2) W:=λW=>by kernel_rfl
 simp only[Op.eqFields,IN,Sem.run_ite,IM,h0,h1,Y,Z,Result.andThen_ok,run_equalIn_int _ _ _ _ _ _ _ underlying3];obtain⟨a,b⟩:=x;obtain⟨c,d⟩:=y
 by_cases V:a=c<;>by_cases X:b=d<;>simp[V,X]
theorem ar9(x y:AF)(W:World):(binOp .neq 116 (.agg #[int i64 x.1,int i64 x.2]) (.agg #[int i64 y.1,int i64 y.2])).run ZP W=.ok (bool (!decide (x=y))) W:=by
 rw[run_neq_struct,aqh]
 rfl
theorem aqF:ZP.eqGuardType ZP.depth 116=false:=by kernel_rfl
theorem PY{w:World}{a:Option Addr}{n:Nat}{l:List AF}(h:SlK 2 w a n (AV l)):l.length=n:=by have:=h.1;rw[GF]at this;omega
theorem aqO{w:World}{a:Option Addr}{n:Nat}{l:List AF}(h:SlK 2 w a n (AV l)){k:Nat}(hk:k<n) :∃b off x,a=some ⟨b,off,none⟩/\b<w.heap.size/\w.cell? ⟨b,off+k*2,none⟩=some (int i64 x.1)/\w.cell? ⟨b,off+k*2+1,none⟩=some (int i64 x.2)/\l[k]?=some x:=by have V:=PY h;obtain⟨b,off,e,Z,X⟩:=h.2.resolve_left om;obtain⟨x,Y⟩:∃x,l[k]?=some x:=⟨l[k]'om,by simp⟩;obtain⟨c0,c1⟩:=aeK Y;exact⟨b,off,x,e,Z,X _ _ c0,by rw[Nat.add_assoc];exact X _ _ c1,Y⟩
theorem apY(a b:Option Addr)(X ca J cb:Nat)(l m:List AF)(w:World)(C:SlK 2 w a X (AV l))(hB:SlK 2 w b J (AV m))(a1:X<=4611686018427387904) :Calls ZP 40 #[slice a X ca,slice b J cb] w λe w'=>e=.returned (bool (decide (l=m)))/\Bt w w':=by
 have j:=AA (PY C);have s:=AA (PY hB);have a2:=aqF
 by_cases D:X=J
 ·subst D;go_enter func40,ntmps40;go_wp2
  go_loopw[5] (λi wr=>∃k:Nat,k<=X/\i=int i64 k/\Hid (l.take k=m.take k)/\Bt w wr) (λi _=>X-(intOf i).toNat)
  case atStart=>exact⟨0,AR _,rfl,by simp[Hid],AH _ _⟩
  case round=>
   obtain⟨k,hk,rfl,z,Y⟩:=hrel
   by_cases N:k<X
   ·obtain⟨b1,o1,x,rfl,a7,x0,x1,H⟩:=aqO (C.below Y) N;obtain⟨b2,o2,y,rfl,a6,y0,y1,I⟩:=aqO (hB.below Y) N;have A:=AA H;have B:=AA I;clear H I;have hd:decide ((k:Int)<X)=true:=by simp;omega
    have V:=λW=>ar9 x y W
    by_cases h:x=y
    ·have U:Hid (l.take (k+1)=m.take (k+1)):=by rw[As A.out,As B.out,z.out,h];rfl
     have Z:decide (x=y)=true:=by simp[h]
     rw[Z]at V;clear h Z;go_wp2
     go_quiet (fail)
     go_wp2
     go_roundw
     case rel=>exact⟨k+1,by omega,by go_num,U,Y.trans ⟨rfl,rfl,rfl,AC _,λ_ _=>rfl⟩⟩
     case measure=>simp[intOf];omega
    ·have U:Hid (decide (l=m)=false):=by
      have:l≠m:=λe=>by have h1:=A.out;rw[e,B.out]at h1;exact h (AK h1).symm
      simp[Hid,this]
     have Z:decide (x=y)=false:=by simp[h]
     rw[Z]at V;clear h Z;go_wp2
     go_quiet (fail)
     go_wp2;go_ret;exact⟨by rw[U.out];rfl,Y.trans ⟨rfl,rfl,rfl,AC _,λ_ _=>rfl⟩⟩
   ·obtain rfl:k=X:=by omega
    have U:Hid (decide (l=m)=true):=by have h:=z.out;rw[Ap (by rw[j.out];exact AC _),Ap (by rw[s.out];exact AC _)]at h;simp[Hid,h]
    go_wp2;go_ret;exact⟨by rw[U.out];rfl,Y⟩
 ·have U:Hid (decide (l=m)=false):=by
   have:l≠m:=λe=>D (by rw[<-j.out,<-s.out,e]);simp[Hid,this]
  have V:((X:Int) != (J:Int))=true:=by simp;omega
  go_enter func40,ntmps40;go_wp2;go_ret;exact⟨by rw[U.out];rfl,AH _ _⟩
theorem aqd(a b:Option Addr)(Z U Y V:Nat)(l m:List AF)(w:World)(N:Hts w a Z l)(hB:Hts w b Y m)(X:Z<=4611686018427387904) :Calls ZP 40 #[slice a Z U,slice b Y V] w λe w'=>e=.returned (bool (decide (l=m)))/\Bt w w':=apY a b Z U Y V l m w N.1 hB.1 X
theorem ahJ(B:Nat)(L:List Int)(m:Int)(n j:Nat)(row:Value)(fold:Bool)(D:Value)(lo C:Int)(H:Option Addr)(wc:Nat)(W:La)(xs:List Int)(w:World)(h:Mc w B L m (n:Int) row fold D lo C (slice H n wc))(hW:Lls w H n W)(y:j<n)(z:W[j]?=some xs)(s:xs.length<=1000000) :Calls ZP 273 #[pointer (some ⟨B,0,none⟩),int i64 (j:Int)] w λe w'=>∃v,e=.returned v/\FB w' w.heap.size v xs/\Bt w w':=by
 obtain⟨x,hi,N,U,V⟩:=Ve JS;obtain⟨b,off,a',l,c,ys,rfl,a2,I,A,J,a1⟩:=hW.at_ y;obtain rfl:ys=xs:=by have:=A.symm.trans z;cases this;rfl
 have hl:=J.1;have s0:=h.cells.2.2.2.2.2.2.2;have Y:=Nk B L m n row fold D lo C (slice (some ⟨b,off,none⟩) n wc) j w h;rw[show decide (0<=(j:Int)/\(j:Int)<(n:Int))=true by simp;omega]at Y;have HI:=AA Y;have HS:=AA J;have i1:(0:Int)<=(j:Int):=by omega
 have i2:(j:Int)<(n:Int):=by omega
 subst hl;clear Y h hW z A J y;go_enter func273,ntmps273
 go_wp2_with (first
  |(go_at_call 271;refine HI.out.mono ?_;rintro e w4 ⟨rfl,rfl⟩)
  |(at_builtin;refine Mf rfl _ _ 30 rfl (enc:=Value.int .i64) (λ_=>rfl) w.heap.size 3 x (.int .i64 0) 8 underlying30 hi N U V rfl _ 0 [] rfl (BN _ _ _ _) a' _ c ys rfl HS.out (by unfold maxLen;omega) om (AC _) ?_;intro v' w5 Z X a6))
 go_ret;refine⟨_,rfl,?_,(AH _ _).grown X (AC _) (λk e=>by cases e)⟩
 simpa[FB]using Z
theorem afA(B:Nat)(L:List Int)(m n:Int)(row:Value)(fold:Bool)(Y:Value)(lo X:Int)(wd:Value)(j:Int)(w:World)(h:Mc w B L m n row fold Y lo X wd)(V:j<0∨n<=j) :Calls ZP 273 #[pointer (some ⟨B,0,none⟩),int i64 j] w λe w'=>∃v,e=.returned v/\FB w' w.heap.size v []/\Bt w w':=by
 have Z:=Nk B L m n row fold Y lo X wd j w h;rw[show decide (0<=j/\j<n)=false by simp;omega]at Z;have U:=AA Z;clear Z h V;go_enter func273,ntmps273
 go_wp2_with (go_at_call 271;refine U.out.mono ?_;rintro e N ⟨rfl,rfl⟩)
 go_ret;exact⟨_,rfl,BN _ _ _ _,AH _ _⟩
def Dz(wss:La)(node:Int):List Int:=if 0<=node/\node<((AB wss).length:Int) then CA wss node.toNat else []
theorem af6{B R U N wc:Nat}{fold:Bool}{wss:La}{lo Y:Int}{a V:Option Addr}(node:Int)(w:World)(h:MOK w B fold wss lo Y R a U N V wc)(Z:(Dz wss node).length<=1000000) :Calls ZP 273 #[pointer (some ⟨B,0,none⟩),int i64 node] w λe w'=>∃v,e=.returned v/\FB w' w.heap.size v (Dz wss node)/\Bt w w':=by
 unfold Dz at Z⊢
 by_cases X:0<=node/\node<((AB wss).length:Int)
 ·rw[Lc X]at Z⊢;obtain⟨j,rfl⟩:∃k:Nat,node=(k:Int):=⟨node.toNat,by omega⟩;rw[Aa]at Z⊢;exact ahJ B _ _ _ j _ fold _ lo Y _ _ _ _ w h.mc h.lls om (by rw[BU,It om];rfl) Z
 ·rw[Lb X];exact afA B _ _ _ _ fold _ lo Y _ node w h.mc om
theorem aik(p:Value)(node at_:Int)(xs:List Int)(w:World)(a6:xs.length<=1000000)
  (hw:∀V,Bt w V->Calls ZP 273 #[p,int i64 node] V λe w'=>∃v,e=.returned v/\FB w' V.heap.size v xs/\Bt V w') :
  Calls ZP 244 #[p,int i64 node,int i64 at_] w λe w'=>∃v,e=.returned v/\Ax w' w.heap.size v (xs.map λx=>(at_,x))/\Bt w w':=by
 obtain⟨i0,hi,A,B,C⟩:=Ve IG;have HW:=AA hw;clear hw;go_enter func244,ntmps244;go_upto_region 2 with fail
 go_wp2_with (go_at_call 273;refine(HW.out _ (AH _ _)).mono ?_;rintro e U ⟨v,rfl,Y,I⟩;obtain⟨a1,c1,rfl,a8,H⟩:=Co Y)
 have ab:=AA Y;have s:=AA H;clear Y H
 go_loopw[7,14] (λv i wr=>∃k:Nat,k<=xs.length/\i=int i64 k/\Bt U wr/\Ax wr U.heap.size v ((xs.take k).map λx=>(at_,x))) (λ_ i _=>xs.length-(intOf i).toNat)
 case atStart=>exact⟨0,AR _,rfl,AH _ _,by simpa[Ax,AV]using BN U U.heap.size 116 2⟩
 case round=>
  obtain⟨k,hk,rfl,X,Z⟩:=hrel
  by_cases z:k<xs.length
  ·have hd:decide ((k:Int)<(xs.length:Int))=true:=by simp;omega
   obtain⟨b0,o0,x,e0,aa,cx,hx⟩:=DG (s.out.below X) z;subst e0;have i1:(0:Int)<=(k:Int):=by omega
   have i2:(k:Int)<(xs.length:Int):=by omega
   have HX:=AA hx;obtain⟨m,D⟩:∃m,((xs.take k).map λx=>(at_,x)).length=m:=⟨_,rfl⟩;have a7:m=k:=by rw[<-D,BP,Ag];omega
   unfold Ax at Z;rw[D]at Z;have HM:=AA D;clear D hx
   go_wp2_with (at_builtin;refine wpList_append_own _ rfl _ _ 69 rfl U.heap.size 116 i0 (.agg #[.int .i64 0,.int .i64 0]) 2 16 underlying69 hi A B C rfl (by decide) _ _ _ rfl (Z.alloc _) ⟨wr.heap.size,0,none⟩ 1 1 [.int .i64 at_,.int .i64 x] rfl rfl (GI _ _ rfl) (by simp[Value.oneCell']) (by unfold maxLen;omega) om (by have:=X.size;simp;omega) ?_;intro v' h N J a2)
   have y:Bt U h:=(X.alloc (by have:=X.size;omega) _).grown J (by have:=X.size;simp;omega) (λj hj=>(Z.lt j hj).1)
   go_roundw
   case rel=>
    refine⟨k+1,by omega,by go_num,y,?_⟩;unfold Ax;rw[As HX.out,Aj,List.length_append,HM.out];show h.ownsRow U.heap.size 116 2 v' (m+1) (AV (((xs.take k).map λx=>(at_,x))++[(at_,x)]));rw[afo];exact N
   case measure=>simp[intOf];omega
  ·obtain rfl:k=xs.length:=by omega
   have hd:decide ((xs.length:Int)<(xs.length:Int))=false:=by simp
   rw[Hl]at Z;go_wp2;go_ret;exact⟨_,rfl,Go.Joins.ownsRow_le Z I.size,I.trans (X.mono I.size)⟩
theorem aih{B R U J wc:Nat}{fold:Bool}{wss:La}{lo X:Int}{a Y:Option Addr}(node at_:Int)(w:World)(h:MOK w B fold wss lo X R a U J Y wc)(Z:(Dz wss node).length<=1000000) :Calls ZP 244 #[pointer (some ⟨B,0,none⟩),int i64 node,int i64 at_] w λe w'=>∃v,e=.returned v/\Ax w' w.heap.size v ((Dz wss node).map λx=>(at_,x))/\Bt w w':=aik _ node at_ _ w Z (λV N=>af6 node V (h.below N) Z)
theorem aer:∀(l:La)(k:Nat),∃N:Nat,l.foldl (λn w=>max n (w.length:Int)) (k:Int)=(N:Int)/\k<=N/\(∀y∈l,y.length<=N)/\∀M,k<=M->(∀y∈l,y.length<=M)->N<=M
 |[],k=>⟨k,rfl,AC _,λy Z=>by simp at Z,λM h _=>h⟩
 |x::l,k=>by
  obtain⟨N,h1,h2,h3,h4⟩:=aer l (max k x.length);refine⟨N,?_,by omega,λy Z=>?_,λM hk Y=>h4 M (by have:=Y x (List.mem_cons_self ..);omega) λy Z=>Y y (MT _ Z)⟩
  ·rw[List.foldl_cons,<-h1];congr 1;omega
  ·rcases CR.1 Z with rfl|Z
   ·omega
   ·exact h3 y Z
theorem acs(l:La):∃N:Nat,Au l=(N:Int)/\(∀y∈l,y.length<=N)/\∀M,(∀y∈l,y.length<=M)->N<=M:=by obtain⟨N,h1,_,h3,h4⟩:=aer l 0;exact⟨N,h1,h3,λM Z=>h4 M (AR _) Z⟩
theorem amq{L F:List Int}{m j c:Nat}{y:Int}(h:goD L (m:Int) F (j:Int) c=some y)(V:L.length=256)(X:c<256):∃v:Nat,L[c]?=some (v:Int)/\v<m/\F[j*m+v]?=some y:=by
 obtain⟨v,Z⟩:∃v,L[c]?=some v:=⟨L[c]'om,by simp⟩;unfold goD at h;rw[Z,CG]at h
 split at h
 ·exact absurd h sm
 ·rename_i Y
  obtain⟨v,rfl⟩:∃k:Nat,v=(k:Int):=⟨v.toNat,by omega⟩;refine⟨v,Z,by omega,?_⟩;rw[show((j:Int)*(m:Int)+(v:Int)).toNat=j*m+v by rw[<-Iy];omega]at h;exact h
theorem ali(B R:Nat)(L F:List Int)(m j c Z c0:Nat)(y n:Int)(fold:Bool)(H:Value)(lo A:Int)(wd:Value)(w:World)(h:Mc w B L m n (slice (some ⟨R,0,none⟩) Z c0) fold H lo A wd)(U:Sl1 (int i64) w (some ⟨R,0,none⟩) Z F)(hn:Z<=1000000000)(hc:c<256)(N:goD L (m:Int) F (j:Int) c=some y) :Calls ZP 272 #[pointer (some ⟨B,0,none⟩),int i64 (j:Int),.int .u8 (c:Int)] w λe w'=>e=.returned (int i64 y)/\Bt w w':=by
 obtain⟨v,J,s,V⟩:=amq N h.len hc;have c1:(j:Int)*(m:Int)=((j*m:Nat):Int):=(Iy _ _).symm;obtain⟨P,I⟩:∃P,j*m=P:=⟨_,rfl⟩;rw[I]at c1 V;have z:P+v<Z:=by have:=(AP.1 V).1;have:=U.1;omega
 obtain⟨b0,o0,x,e0,X,cx,Y⟩:=DG U z
 cases e0
 obtain rfl:x=y:=by have:=Y.symm.trans V;cases this;rfl
 obtain⟨D,s1,s2⟩:=Lq (h.cls J) (Lq h.cells.1 h.cells.2.2.1);have i1:(0:Int)<=(c:Int):=by omega
 have i2:(c:Int)<256:=by omega
 have l2:(0:Int)<=(P:Int)+(v:Int):=by omega
 have l3:(P:Int)+(v:Int)<(Z:Int):=by omega
 have e1:wrap64 ((j:Int)*(m:Int))=(P:Int):=by rw[c1];unfold wrap64;omega
 have hB:=h.lt;have f0:∀d os,(grow (redrawn w d) os).cell? ⟨B,c,none⟩=some (int i64 (v:Int)):=λd os=>((Kf w d os).cell (p:=⟨B,c,none⟩) hB).trans D;have f1:∀d os,(grow (redrawn w d) os).cell? ⟨B,256,none⟩=some (int i64 (m:Int)):=λd os=>((Kf w d os).cell (p:=⟨B,256,none⟩) hB).trans s1;have f2:∀d os,(grow (redrawn w d) os).cell? ⟨B,258,none⟩=some (slice (some ⟨R,0,none⟩) Z c0):=λd os=>((Kf w d os).cell (p:=⟨B,258,none⟩) hB).trans s2;have f3:∀d os,(grow (redrawn w d) os).cell? ⟨R,0+(P+v),none⟩=some (int i64 x):=λd os=>((Kf w d os).cell (p:=⟨R,0+(P+v),none⟩) X).trans cx;simp only[DD]at f3;clear I U V Y N J h X hB;go_enter func272,ntmps272
 go_wp2_with fail
 refine wp_region_quiet_below mixed kr ?_
 repeat (go_big_quiet_step (fail))
 refine wpQuiet_nil ?_;rintro _ ⟨⟨dq,C⟩,rfl⟩;go_wp2;go_ret;exact⟨rfl,Kf _ _ _⟩
theorem ajh(B R:Nat)(L F:List Int)(m j c Z c0:Nat)(y n:Int)(fold:Bool)(Y:Value)(lo X:Int)(wd:Value)(w:World)(h:Mc w B L m n (slice (some ⟨R,0,none⟩) Z c0) fold Y lo X wd)(J:Sl1 (int i64) w (some ⟨R,0,none⟩) Z F)(H:Z<=1000000000)(C:c<256)(D:(j:Int)<n)(N:goD L (m:Int) F (j:Int) c=some y) :Calls ZP 243 #[pointer (some ⟨B,0,none⟩),int i64 (j:Int),.int .u8 (c:Int)] w λe w'=>e=.returned (.tuple #[int i64 y,bool true])/\Bt w w':=by
 have A:=AA (ali B R L F m j c Z c0 y n fold Y lo X wd w h J H C N);have V:=Nk B L m n (slice (some ⟨R,0,none⟩) Z c0) fold Y lo X wd j w h;rw[show decide (0<=(j:Int)/\(j:Int)<n)=true by simp;omega]at V;have z:=AA V;clear V h J N D;go_enter func243,ntmps243
 go_wp2_with (first
  |(go_at_call 271;refine z.out.mono ?_;rintro e I ⟨rfl,rfl⟩)
  |(go_at_call 272;refine A.out.mono ?_;rintro e I ⟨rfl,U⟩))
 go_ret2;exact⟨rfl,U⟩
theorem ah4(B:Nat)(L:List Int)(m n:Int)(row:Value)(fold:Bool)(Y:Value)(lo X:Int)(wd:Value)(j:Int)(c:Nat)(w:World)(h:Mc w B L m n row fold Y lo X wd)(V:j<0∨n<=j) :Calls ZP 243 #[pointer (some ⟨B,0,none⟩),int i64 j,.int .u8 (c:Int)] w λe w'=>e=.returned (.tuple #[int i64 0,bool false])/\w=w':=by
 have Z:=Nk B L m n row fold Y lo X wd j w h;rw[show decide (0<=j/\j<n)=false by simp;omega]at Z;have U:=AA Z;clear Z h V;go_enter func243,ntmps243
 go_wp2_with (go_at_call 271;refine U.out.mono ?_;rintro e N ⟨rfl,rfl⟩)
 go_ret2;exact⟨rfl,rfl⟩
theorem ahN{B R J C wc:Nat}{fold:Bool}{wss:La}{lo Z:Int}{a N:Option Addr}(node:Int)(c:Nat)(w:World)(h:MOK w B fold wss lo Z R a J C N wc)(Y:OkT fold wss)(H:Ah fold wss*(AB wss).length<=1000000000)(U:c<256) :Calls ZP 243 #[pointer (some ⟨B,0,none⟩),int i64 node,.int .u8 (c:Int)] w λe w'=>e=.returned (apk (goD (BF fold wss) (Ah fold wss) (FN fold wss) node c))/\Bt w w':=by
 by_cases X:node<0∨((AB wss).length:Int)<=node
 ·rw[anF Y X];exact(ah4 B _ _ _ _ fold _ lo Z _ node c w h.mc X).mono λe w' ⟨h1,h2⟩=>⟨h1,by rw[<-h2];exact AH _ _⟩
 ·obtain⟨j,rfl⟩:∃k:Nat,node=(k:Int):=⟨node.toNat,by omega⟩;obtain⟨x,I⟩:∃x,(AB wss)[j]?=some x:=⟨(AB wss)[j]'om,by simp⟩;have V:=aju Y I U;rw[V];have D:Sl1 (int i64) w (some ⟨R,0,none⟩) (Ah fold wss*(AB wss).length) (FN fold wss):=by
   rw[<-OZ Y];exact h.row.sl1
  exact ajh B R _ _ _ j c _ _ _ _ fold _ lo Z _ w h.mc D H U om V
theorem af2(B:Nat)(L:List Int)(m n:Int)(row:Value)(fold:Bool)(Z:Value)(lo Y:Int)(wd:Value)(w:World)(h:Mc w B L m n row fold Z lo Y wd) :Calls ZP 269 #[pointer (some ⟨B,0,none⟩)] w λe w'=>e=.returned (int i64 n)/\w=w':=by have c5:=h.cells.2.1;clear h;go_enter func269,ntmps269;go_wp2;go_ret;exact⟨rfl,rfl⟩
theorem ad1(B:Nat)(L:List Int)(m n:Int)(row:Value)(fold:Bool)(Z:Value)(lo Y:Int)(wd:Value)(w:World)(h:Mc w B L m n row fold Z lo Y wd) :Calls ZP 95 #[pointer (some ⟨B,0,none⟩)] w λe w'=>e=.returned (int i64 lo)/\w=w':=by have c5:=h.cells.2.2.2.2.2.1;clear h;go_enter func95,ntmps95;go_wp2;go_ret;exact⟨rfl,rfl⟩
theorem aqH{w:World}{n:Nat}(l:List AF)(Y:∀h∈l,I64 h.1/\I64 h.2)(h:w.heap.size=n):Hts (w.alloc (.cells (AV l).toArray 116)) (some ⟨n,0,none⟩) l.length l:=by
 refine⟨⟨GF l,.inr ⟨n,0,rfl,by simp[h],λi u Z=>?_⟩⟩,Y⟩;have:=GI (w:=w) (AV l).toArray 116 h i u (by simpa using Z)
 rwa[Cf]at this
structure ET(W0:World)(B:Nat)(fold:Bool)(wss:La)(V:World):Prop where
 ex:∃(R la ca wc:Nat)(a wa:Option Addr),MOK V B fold wss (Au wss) ((Dm wss (AB wss).length:Nat):Int) R a la ca wa wc/\la<=1000000
 ok:OkT fold wss
 tab:Ah fold wss*(AB wss).length<=1000000000
 len:∀x∈wss,x.length<=1000000
 nod:(AB wss).length<=1000000
 bel:Bt W0 V
section
variable {W0 V V':World}{B:Nat}{fold:Bool}{wss:La}
theorem ET.below(h:ET W0 B fold wss V)(Z:Bt V V'):ET W0 B fold wss V':=by obtain⟨⟨R,X,U,wc,a,Y,h1,h2⟩,h3,h4,h5,h6,h7⟩:=h;exact⟨⟨R,X,U,wc,a,Y,h1.below Z,h2⟩,h3,h4,h5,h6,h7.trans (Z.mono h7.size)⟩
theorem ah9(wss:La)(node:Int)(h:(AB wss).length<=1000000):(Dz wss node).length<=1000000:=by
 unfold Dz
 split
 ·have:=LL wss node.toNat;omega
 ·simp
theorem ET.step(h:ET W0 B fold wss V)(node:Int)(c:Nat)(Z:c<256) :Calls ZP 243 #[pointer (some ⟨B,0,none⟩),int i64 node,.int .u8 (c:Int)] V λe w'=>e=.returned (apk (goD (BF fold wss) (Ah fold wss) (FN fold wss) node c))/\Bt V w':=by obtain⟨⟨R,X,U,wc,a,Y,h1,h2⟩,h3,h4,h5,h6,h7⟩:=h;exact ahN node c V h1 h3 h4 Z
theorem ET.hits(h:ET W0 B fold wss V)(node at_:Int)(Y:I64 at_)(Z:∀x∈Dz wss node,I64 x) :Calls ZP 244 #[pointer (some ⟨B,0,none⟩),int i64 node,int i64 at_] V λe w'=>∃(a:Option Addr)(c:Nat),e=.returned (slice a (Dz wss node).length c)/\Hts w' a (Dz wss node).length ((Dz wss node).map λx=>(at_,x))/\Ax w' V.heap.size (slice a (Dz wss node).length c) ((Dz wss node).map λx=>(at_,x))/\Bt V w':=by
 obtain⟨⟨R,D,A,wc,a,H,h1,h2⟩,h3,h4,h5,h6,h7⟩:=h;refine(aih node at_ V h1 (ah9 wss node h6)).mono ?_;rintro e w' ⟨v,rfl,ho,J⟩;obtain⟨I,c1,rfl,C,X⟩:=Ax.hts ho (λh N=>by obtain⟨x,U,rfl⟩:=Be.1 N;exact⟨Y,Z x U⟩)
 rw[BP]at X ho⊢;exact⟨I,c1,rfl,X,ho,J⟩
theorem ET.states(h:ET W0 B fold wss V) :Calls ZP 269 #[pointer (some ⟨B,0,none⟩)] V λe w'=>e=.returned (int i64 ((AB wss).length:Int))/\V=w':=by obtain⟨⟨R,Y,X,wc,a,Z,h1,h2⟩,h3,h4,h5,h6,h7⟩:=h;exact af2 B _ _ _ _ _ _ _ _ _ V h1.mc
theorem ET.longest(h:ET W0 B fold wss V) :Calls ZP 95 #[pointer (some ⟨B,0,none⟩)] V λe w'=>e=.returned (int i64 (Au wss))/\V=w':=by obtain⟨⟨R,Y,X,wc,a,Z,h1,h2⟩,h3,h4,h5,h6,h7⟩:=h;exact ad1 B _ _ _ _ _ _ _ _ _ V h1.mc
end
structure Hj(q B:Nat)(fold:Bool)(wss:La)(V:World):Prop where
 ex:∃(R la ca wc:Nat)(a wa:Option Addr),MOK V B fold wss (Au wss) ((Dm wss (AB wss).length:Nat):Int) R a la ca wa wc/\la<=1000000/\Il q V B R a la ca wss wa
 ok:OkT fold wss
 tab:Ah fold wss*(AB wss).length<=1000000000
 len:∀x∈wss,x.length<=1000000
 nod:(AB wss).length<=1000000
theorem Hj.kept{q B:Nat}{fold:Bool}{wss:La}{V V':World}(h:Hj q B fold wss V)(hk:EF q V V'):Hj q B fold wss V':=by obtain⟨⟨R,Y,X,wc,a,Z,h1,h2,h8⟩,h3,h4,h5,h6⟩:=h;exact⟨⟨R,Y,X,wc,a,Z,h8.mok hk h1,h2,h8.kept hk⟩,h3,h4,h5,h6⟩
theorem Hj.use{q B:Nat}{fold:Bool}{wss:La}{V:World}(h:Hj q B fold wss V):ET V B fold wss V:=by obtain⟨⟨R,Y,X,wc,a,Z,h1,h2,h8⟩,h3,h4,h5,h6⟩:=h;exact⟨⟨R,Y,X,wc,a,Z,h1,h2⟩,h3,h4,h5,h6,AH _ _⟩
theorem adn(fold:Bool)(a:Option Addr)(Z D:Nat)(wss:La)(w:World)(H:Wds w a Z wss)(Y:Z<=1000000)(I:∀x∈wss,x.length<=1000000)(s:(Ad fold wss).length<=1000000)(X:An fold wss=true) :Calls ZP 52 #[.agg (AM fold a Z D)] w λe w'=>∃B,e=.returned (.tuple #[pointer (some ⟨B,0,none⟩),int i64 0])/\Hj w.heap.size B fold wss w'/\Bt w w':=by have N:=okT X (λx A c y=>H.bytes x A c y);have U:(AB wss).length<=400:=Hx (Fy.2 ⟨IY X,rfl,rfl⟩);have z:Ah fold wss<=257:=(Hb _ _ _).2;refine(ad6 fold a Z D wss w H Y I s X).mono ?_;rintro e w' ⟨B,R,J,wc,j,C,h1,h2,h3,h4⟩;exact⟨B,h1,⟨⟨R,Z,J,wc,j,C,h2,Y,h4⟩,N,AS (GR z U) om,I,by omega⟩,h3⟩
theorem KY{ws:La}(Z:ws.Nodup)(h0:∀y∈ws,y.length≠0){v:Int}:∀{b:List Int},v∈DF ws b↔∃(k:Nat)(y:List Int),ws[k]?=some y/\y <:+b/\v=(k:Int)
 |[]=>by
  constructor
  ·intro h;exact absurd h (by simp[DF])
  ·rintro⟨k,y,hk,X,_⟩;rw[List.suffix_nil]at X;subst X;exact absurd rfl (h0 [] (AX hk))
 |c::b=>by
  have V:=KY Z h0 (v:=v) (b:=b);rw[Od,Bf,V]
  constructor
  ·rintro(h|⟨k,y,h1,h2,h3⟩)
   ·by_cases Y:(c::b)∈ws
    ·rw[Lc Y,Fq]at h;obtain⟨k,hk⟩:=DR Y;exact⟨k,_,hk,List.suffix_refl _,by rw[h,CV Z hk]⟩
    ·rw[Lb Y]at h;simp at h
   ·exact⟨k,y,h1,List.suffix_cons_iff.2 (.inr h2),h3⟩
  ·rintro⟨k,y,h1,h2,h3⟩
   rcases List.suffix_cons_iff.1 h2 with rfl|h2
   ·left
    rw[Lc (AX h1),Fq,h3,CV Z h1]
   ·exact .inr ⟨k,y,h1,h2,h3⟩
section
variable {fold:Bool}{ws:La}
theorem akH(x:List Int):∀y:List Int,lsf (AB ws) (lsf (AB ws) x++y)=lsf (AB ws) (x++y):=by
 intro y
 induction y generalizing x with
 |nil=>
  rw[Cx,Cx];exact Lu (Id (AX (CM ws)) x)
 |cons c y ih=>
  rw[show lsf (AB ws) x++c::y=(lsf (AB ws) x++[c])++y by simp,show x++c::y=(x++[c])++y by simp];rw[<-ih (lsf (AB ws) x++[c]),<-(alt x c).2.2,ih (x++[c])]
end
def EN(fold:Bool)(ws:La)(z:Nat)(c:Int):Nat:=(KT ws (lsf (AB ws) (((AB ws)[z]?).getD []++[fcB fold c]))).toNat
def Bp(fold:Bool)(ws:La)(z:Nat)(b:List Int):Nat:=b.foldl (EN fold ws) z
def BQ(fold:Bool)(ws:La):Nat->Int->List Int->List AF
 |_,_,[]=>[]
 |z,at_,c::b=>(CA ws (EN fold ws z c)).map (λv=>((at_+1,v):AF))++BQ fold ws (EN fold ws z c) (at_+1) b
section
variable {fold:Bool}{ws:La}
theorem aiN(z:Nat):Bp fold ws z []=z:=rfl
theorem acj(z:Nat)(c:Int)(b:List Int):Bp fold ws z (c::b)=Bp fold ws (EN fold ws z c) b:=rfl
theorem No(z:Nat)(b d:List Int):Bp fold ws z (b++d)=Bp fold ws (Bp fold ws z b) d:=by simp[Bp,FI]
theorem JE(z:Nat)(at_:Int):∀(b d:List Int),BQ fold ws z at_ (b++d)=BQ fold ws z at_ b++BQ fold ws (Bp fold ws z b) (at_+b.length) d
 |b,d=>by
  induction b generalizing z at_ with
  |nil=>simp[BQ,Bp]
  |cons c b ih=>
   simp only[CT,BQ,acj,ih,CE,Ao,LK,Int.natCast_one];rw[show at_+1+(b.length:Int)=at_+((b.length:Int)+1) by omega]
theorem KU{z:Nat}{x:List Int}(Z:(AB ws)[z]?=some x)(c:Int):(AB ws)[EN fold ws z c]?=some (lsf (AB ws) (x++[fcB fold c]))/\KT ws (lsf (AB ws) (x++[fcB fold c]))=(EN fold ws z c:Int):=by obtain⟨j,h1,h2,h3⟩:=anI (Id (AX (CM ws)) (x++[fcB fold c]));unfold EN;rw[Z,CG,h2,Aa];exact⟨h1,rfl⟩
theorem adr{z:Nat}{x:List Int}(Z:(AB ws)[z]?=some x):∀b:List Int,(AB ws)[Bp fold ws z b]?=some (lsf (AB ws) (x++AO fold b)):=by
 intro b
 induction b generalizing z x with
 |nil=>
  rw[aiN,show AO fold []=[] by rw[Fg];rfl,Cx,Z,Lu (AX Z)]
 |cons c b ih=>
  rw[acj,ih (KU Z c).1,akH,Nm,Nm,BO,CE]
  rfl
theorem JY{z:Nat}(Z:z<(AB ws).length)(b:List Int):Bp fold ws z b<(AB ws).length:=(AP.1 (adr (Ar Z) b)).1
end
theorem afY{wss:La}(V:wss.length<=1000000)(X:wss.Nodup)(h0:∀x∈wss,x.length≠0)(node:Int):∀v∈Dz wss node,I64 v:=by
 intro v Z;unfold Dz at Z
 split at Z
 ·obtain⟨x,Y⟩:∃x,(AB wss)[node.toNat]?=some x:=⟨_,Ar om⟩;rw[OU h0 Y,KY X h0]at Z;obtain⟨k,y,h1,_,rfl⟩:=Z;have:=(AP.1 h1).1;unfold I64;omega
 ·simp at Z
section
attribute[local go_sem] Oper.semAt_some
attribute[local simp] Ak Al
attribute[local go_sem] Ak Al
def KA(n:Nat)(z at_:Int):Bool:=decide ((0<=z/\z<(n:Int))/\0<=at_/\at_<=4611686020574871551)
end
section
attribute[local go_sem] Oper.semAt_some
attribute[local simp] Ak Al
attribute[local go_sem] Ak Al
def amS(b base:Nat)(l:List AF)(W:World):Prop:=∃v,Boxed W b 69 v/\Ax W base v l
end
theorem Mx{fold:Bool}{ws:La}:∀(b:List Int)(z:Nat)(at_:Int),z<(AB ws).length->(BQ fold ws z at_ b).length<=(AB ws).length*b.length
 |[],z,at_,_=>by simp[BQ]
 |c::b,z,at_,hz=>by have Z:(AB ws)[z]?=some (AB ws)[z]:=Ar hz;have Y:=(AP.1 (KU (fold:=fold) Z c).1).1;have X:=Mx (fold:=fold) b (EN fold ws z c) (at_+1) Y;have h9:=LL ws (EN fold ws z c);simp only[BQ,List.length_append,BP,Ao];rw[Nat.mul_succ];omega
theorem abE{fold:Bool}{wss:La}(Z:An fold wss=true):(AB wss).length<=1000/\∀(node:Int),∀v∈Dz wss node,I64 v:=by have h1:(AB wss).length<=400:=Hx (Fy.2 ⟨IY Z,rfl,rfl⟩);obtain⟨V,_,X,_⟩:=EI Z;exact⟨by omega,λnode=>afY om (Fv Z).1 (λx Y=>(X x Y).1) node⟩
section
open Go.ChangeShapes Go.WideShapes Go.ChangeAt Go.RowKit Go.Joins Go.Deep
section
variable {H:Type}{enc:TypeId×Value->H}{W:World}{r:Reach}{base:Nat}{d:DataW H}{p:List MemPlace}{v:Value}
theorem afu{C:Nat}{v:Value}{x:DataW H×List MemPlace}(hf:DataW.trod enc ZP W 0 (λ_=>true) true C 27 [v]=some x) :∃(a:Option Addr)(len cap:Nat)(zs:List Bool),v=slice a len cap/\Sl1 bool W a len zs/\len<=cap/\cap<=maxLen:=by
 rcases open_slice underlying27 hf with⟨Z,_⟩|⟨x,l,c,m,n,D,Pl,Z,_,j,hm,U,_,X⟩
 ·simp at Z;exact⟨none,0,0,[],Z,⟨rfl,.inl rfl⟩,AC _,by unfold maxLen;omega⟩
 ·simp at Z;simp only[if_true]at U;subst U;rw[aaL]at X;have Y:∀i,i<m->∃q:Bool,W.cell? ((x.add (i*1)).add 0)=some (bool q):=by
   intro i z;obtain⟨s,B,h⟩:=X i z;obtain⟨_,N,y⟩:=World.cells?_some B
   match s,N with
   |[c0],_=>
    obtain⟨q,e,_⟩:=DataW.trod_bool underlying4 h;simp at e;exact⟨q,by rw[<-e];exact y 0 sm⟩
  let f:Nat->Bool:=λi=>if X:i<m then Classical.choose (Y i X) else false
  have I:∀i,i<m->W.cell? ((x.add (i*1)).add 0)=some (bool (f i)):=by
   intro i X;have e:f i=Classical.choose (Y i X):=by simp only[f,dif_pos X]
   rw[e];exact Classical.choose_spec (Y i X)
  refine⟨some x,l,_,(List.range l).map f,Z,⟨by simp,?_⟩,j,hm⟩
  by_cases h0:l=0
  ·exact .inl h0
  ·right
   have a1:=j;obtain⟨b,off,V⟩:=x;have B:=I 0 om;obtain rfl:V=none:=by simpa[Addr.add]using World.cell?_spot B
   refine⟨b,off,rfl,?_,λi u A=>?_⟩
   ·have:=DO W _ B
    rwa[Cf,Cf]at this
   ·have J:=(AP.1 A).1;simp at J;have:=I i om;rw[Cf,Cf,Hk,DQ]at this;simp[J]at A;rw[this,A]
theorem aqA(Y:Value.okWide ZP W r base 27 v)(h:DataW.Trod enc ZP W 0 (λ_=>true) true 27 v d p) :∃(a:Option Addr)(len cap:Nat)(zs:List Bool),v=slice a len cap/\Sl1 bool W a len zs/\len<=cap/\cap<=maxLen:=by obtain⟨a,len,cap,rfl⟩:=okWide_slice underlying27 Y;obtain⟨Z,X⟩:=h;exact afu X
end
end
section
open Go.ChangeShapes Go.WideShapes Go.ChangeAt Go.RowKit Go.Joins Go.Deep
section
variable {H:Type}{enc:TypeId×Value->H}{W:World}{r:Reach}{base:Nat}{d:DataW H}{p:List MemPlace}{v:Value}
theorem aqV(Y:Value.okWide ZP W r base 22 v)(h:DataW.Trod enc ZP W 0 (λ_=>true) true 22 v d p) :∃(a:Option Addr)(len cap:Nat)(wss:La),v=slice a len cap/\Wds W a len wss/\len<=cap/\cap<=maxLen:=by obtain⟨a,len,cap,rfl⟩:=okWide_slice underlying22 Y;obtain⟨Z,X⟩:=h;have e:Value.cells (.slice a len cap)=#[.slice a len cap]:=rfl;exact adU X
end
end
section
open Go.ChangeShapes Go.WideShapes Go.ChangeAt Go.RowKit Go.Joins Go.Deep
theorem aq4:ZP.cellsOf 59=2:=by kernel_rfl
section
variable {H:Type}{enc:TypeId×Value->H}{W:World}{r:Reach}{base:Nat}{d:DataW H}{p:List MemPlace}{v:Value}
theorem aqR(Z:Value.okWide ZP W r base 4 v)(h:DataW.Trod enc ZP W 0 (λ_=>true) true 4 v d p):∃b:Bool,v=.bool b:=okWide_bool underlying4 Z
theorem aqD{Y:Nat}{cs:List Value}{x:DataW H×List MemPlace}(h:DataW.trod enc ZP W 0 (λ_=>true) true Y 59 cs=some x):∃e k:Int,cs=[int i64 e,int i64 k]/\I64 e/\I64 k:=by
 obtain⟨xs,n,_,_,J,Z,N⟩:=DataW.trod_struct underlying59 h;rw[aq4]at J
 match cs,J with
 |[c0,c1],_=>
  have U:xs.length=2:=Z;obtain⟨z,V⟩:∃y,xs[0]?=some y:=⟨xs[0]'om,by simp⟩;obtain⟨A,X⟩:∃y,xs[1]?=some y:=⟨xs[1]'om,by simp⟩;have h0:=N 0;simp only[pD,pE,pF,DC,forall_eq',Jd,V]at h0;obtain⟨e,D,_,B⟩:=DataW.trod_int underlying3 h0;have h1:=N 1;simp only[pD,pE,pF,DC,forall_eq',Jd,X]at h1;obtain⟨k,I,_,C⟩:=DataW.trod_int underlying3 h1;simp at D I;exact⟨e,k,by rw[D,I],ar4 B,ar4 C⟩
theorem aqw(hv:Value.okWide ZP W r base 49 v)(h:DataW.Trod enc ZP W 0 (λ_=>true) true 49 v d p) :∃(a:Option Addr)(len cap:Nat)(l:List AF),v=slice a len cap/\Hts W a len l/\len<=cap/\cap<=maxLen:=by
 obtain⟨a,len,cap,rfl⟩:=okWide_slice underlying49 hv;obtain⟨a1,hf⟩:=h
 rcases open_slice underlying49 hf with⟨Z,_⟩|⟨x,l,c,m,n,D,Pl,Z,_,hl,hm,J,_,X⟩
 ·simp[Value.cells]at Z;obtain⟨rfl,rfl,rfl⟩:=Z;exact⟨none,0,0,[],rfl,⟨⟨rfl,.inl rfl⟩,by simp⟩,AC _,by unfold maxLen;omega⟩
 ·simp[Value.cells]at Z;obtain⟨rfl,rfl,rfl⟩:=Z;simp only[if_true]at J;subst J;rw[aq4]at X;have Y:∀i,i<m->∃q:AF,(W.cell? ((x.add (i*2)).add 0)=some (int i64 q.1)/\W.cell? ((x.add (i*2)).add 1)=some (int i64 q.2))/\I64 q.1/\I64 q.2:=by
   intro i z;obtain⟨a2,B,ht⟩:=X i z;obtain⟨_,s,C⟩:=World.cells?_some B;obtain⟨e,k,rfl,he,hk⟩:=aqD ht;have h0:=C 0 om;have h1:=C 1 om;exact⟨(e,k),⟨by simpa using h0,by simpa using h1⟩,he,hk⟩
  let f:Nat->AF:=λi=>if X:i<m then Classical.choose (Y i X) else(0,0)
  have V:∀i,i<m->(W.cell? ((x.add (i*2)).add 0)=some (int i64 (f i).1)/\W.cell? ((x.add (i*2)).add 1)=some (int i64 (f i).2))/\I64 (f i).1/\I64 (f i).2:=by
   intro i X;have e:f i=Classical.choose (Y i X):=by simp only[f,dif_pos X]
   rw[e];exact Classical.choose_spec (Y i X)
  refine⟨_,len,_,(List.range len).map f,rfl,⟨⟨by rw[GF];simp,?_⟩,λq y=>?_⟩,hl,hm⟩
  ·by_cases h0:len=0
   ·exact .inl h0
   ·right
    obtain⟨b,off,U⟩:=x;have B:=(V 0 om).1.1;obtain rfl:U=none:=by simpa[Addr.add]using World.cell?_spot B
    refine⟨b,off,rfl,?_,λi u N=>?_⟩
    ·have:=DO W _ B
     rwa[Cf,Cf]at this
    ·have I:=(AP.1 N).1;rw[GF]at I;simp at I;obtain⟨j,hj⟩:∃j,i=j*2∨i=j*2+1:=⟨i / 2,by omega⟩;have A:j<len:=by omega
     have hx:((List.range len).map f)[j]?=some (f j):=by simp[A]
     obtain⟨d0,d1⟩:=aeK hx;obtain⟨⟨g0,g1⟩,_⟩:=V j om;rw[Cf,Cf,DQ]at g0;rw[Cf,Cf]at g1
     rcases hj with rfl|rfl
     ·rw[d0]at N;rw[<-AK N];exact g0
     ·rw[d1]at N;rw[<-AK N,<-Nat.add_assoc];exact g1
  ·simp only[Be,List.mem_range]at y;obtain⟨i,X,rfl⟩:=y;exact(V i om).2
end
end
structure Chg(X:Nat->Prop)(w w':World):Prop where
 os:w'.os=w.os
 tape:w'.tape=w.tape
 output:w'.output=w.output
 size:w.heap.size<=w'.heap.size
 block:∀k,k<w.heap.size->¬X k->w'.heap[k]?=w.heap[k]?
section
variable {X Y:Nat->Prop}{a b c:World}
theorem Chg.refl(X:Nat->Prop)(w:World):Chg X w w:=⟨rfl,rfl,rfl,AC _,λ_ _ _=>rfl⟩
theorem Chg.of_below{B:Nat}(h:Below B a b)(U:∀k,B<=k->k<a.heap.size->X k):Chg X a b:=⟨h.os,h.tape,h.output,h.size,λk hk V=>h.block k (Nat.lt_of_not_le λZ=>V (U k Z hk))⟩
theorem Chg.of_same(h:Bt a b):Chg X a b:=.of_below h λk h1 h2=>by omega
theorem Chg.mono(h:Chg X a b)(V:∀k,k<a.heap.size->X k->Y k):Chg Y a b:=⟨h.os,h.tape,h.output,h.size,λk hk U=>h.block k hk λZ=>U (V k hk Z)⟩
theorem Chg.trans(h:Chg X a b)(k:Chg Y b c)(N:∀i,i<a.heap.size->Y i->X i):Chg X a c:=⟨k.os.trans h.os,k.tape.trans h.tape,k.output.trans h.output,AS h.size k.size,λi Z V=>(k.block i (Af Z h.size) λU=>V (N i Z U)).trans (h.block i Z V)⟩
theorem Chg.then(h:Chg X a b)(k:Chg X b c):Chg X a c:=h.trans k λ_ _ Z=>Z
theorem Chg.same(h:Chg X a b)(k:Bt b c):Chg X a c:=h.then (.of_same k)
theorem Chg.grown{row:Option Nat}(h:Chg X a b)(k:b.grownBy c row)(U:∀g,row=some g->g<a.heap.size->X g):Chg X a c:=⟨k.os.trans h.os,k.tape.trans h.tape,k.output.trans h.output,AS h.size k.size,λi Z V=>(k.block i (Af Z h.size) λe=>V (U i e.symm Z)).trans (h.block i Z V)⟩
theorem Chg.set(h:Chg X a b){g i:Nat}{v:Value}(Z:X g):Chg X a (b.setCell ⟨g,i,none⟩ v):=h.grown (BH b g i v) λk e _=>by cases e;exact Z
theorem Chg.below{B:Nat}(h:Chg X a b)(hB:B<=a.heap.size)(Z:∀k,k<B->¬X k):Below B a b:=⟨h.os,h.tape,h.output,h.size,λk hk=>h.block k (Af hk hB) (Z k hk)⟩
end
theorem Gw{w:World}{base n size:Nat}{e:TypeId}{v:Value}{xs:List Value}(h:w.ownsRow base e size v n xs):∀k,v.ownBlock=some k->base<=k/\k<w.heap.size:=λk hk=>by
 rcases h.2 with⟨rfl,_⟩|⟨g,cap,U,rfl,V,Z,_⟩
 ·cases hk
 ·cases hk
  exact⟨V,(AD.1 Z).1⟩
theorem NC{w:World}{base Z n size:Nat}{e:TypeId}{v:Value}{xs:List Value}(h:w.ownsRow base e size v n xs)(U:Z<=base):w.ownsRow Z e size v n xs:=⟨h.1,h.2.imp id λ⟨g,cap,V,h1,h2,r⟩=>⟨g,cap,V,h1,by omega,r⟩⟩
theorem Fu{W V:World}{base size n:Nat}{e:TypeId}{v:Value}{xs:List Value}(h:W.ownsRow base e size v n xs)(U:∀k,v.ownBlock=some k->V.heap[k]?=W.heap[k]?):V.ownsRow base e size v n xs:=by refine⟨h.1,h.2.imp id ?_⟩;rintro⟨g,cap,Z,rfl,h1,h2,r⟩;exact⟨g,cap,Z,rfl,h1,(U g rfl).trans h2,r⟩
def CO(X:Nat->Prop)(w:World)(e:TypeId)(size:Nat)(v:Value)(n:Nat)(xs:List Value):Prop:=w.ownsRow 0 e size v n xs/\∀g,v.ownBlock=some g->X g
section
variable {X Y:Nat->Prop}{w w':World}{e:TypeId}{size n:Nat}{v:Value}{xs:List Value}
theorem CO.lt(h:CO X w e size v n xs):∀g,v.ownBlock=some g->g<w.heap.size:=λg Z=>(Gw h.1 g Z).2
theorem CO.keep(h:CO X w e size v n xs)(U:Chg Y w w')(V:∀g,v.ownBlock=some g->¬Y g):CO X w' e size v n xs:=⟨Fu h.1 λg Z=>U.block g (h.lt g Z) (V g Z),h.2⟩
theorem CO.wide(h:CO X w e size v n xs)(V:∀k,k<w.heap.size->X k->Y k):CO Y w e size v n xs:=⟨h.1,λg Z=>V g (h.lt g Z) (h.2 g Z)⟩
theorem CO.nil(X:Nat->Prop)(w:World)(e:TypeId)(size:Nat):CO X w e size (slice none 0 0) 0 []:=⟨BN _ _ _ _,λg Z=>by cases Z⟩
end
def Fz(n:Int)(k:Nat):Nat:=((Int.tmod n k+k).tmod k).toNat
theorem alR{n:Int}{k:Nat}(hk:k≠0):(Int.tmod n k+k).tmod k=(Fz n k:Int)/\Fz n k<k/\-(k:Int)<Int.tmod n k/\Int.tmod n k<k:=by
 have h1:-(k:Int)<Int.tmod n k/\Int.tmod n k<k:=by
  have Z:(0:Int)<k:=by omega
  have a:=Int.tmod_lt_of_pos n Z;have b:=Int.tmod_lt_of_pos (-n) Z;rw[Int.neg_tmod]at b;omega
 have h2:0<=(Int.tmod n k+k).tmod k:=Int.tmod_nonneg _ om;have h3:(Int.tmod n k+k).tmod k<k:=Int.tmod_lt_of_pos _ om;unfold Fz;refine⟨by omega,by omega,h1.1,h1.2⟩
theorem acE(n:Int)(a:Option Addr)(k c:Nat)(zs:List Int)(w:World)(Z:Sl1 (int i64) w a k zs)(hk:k<=1000000) :Calls ZP 43 #[int i64 n,slice a k c] w λe w'=>e=.returned (.tuple (if k=0 then #[int i64 0,bool false] else #[int i64 (zs.getD (Fz n k) 0),bool true]))/\w'=w:=by
 by_cases h0:k=0
 ·subst h0;rw[Lc rfl];go_enter func43,ntmps43;go_wp2;go_ret2;exact⟨rfl,rfl⟩
 ·rw[Lb h0];obtain⟨h1,h2,h3,h4⟩:=alR (n:=n) h0;obtain⟨b,off,rfl,H,U⟩:=Z.2.resolve_left h0;have X:zs[Fz n k]?=some (zs.getD (Fz n k) 0):=by
   rw[DZ,Ar (by rw[Z.1];exact h2),CG]
  have c0:=U _ _ X;obtain⟨z,Y⟩:∃z,zs.getD (Fz n k) 0=z:=⟨_,rfl⟩;obtain⟨p,V⟩:∃p,Fz n k=p:=⟨_,rfl⟩;rw[Y]at c0⊢;rw[V]at c0 h1 h2;have A:decide ((k:Int)=0)=false:=by simp;omega
  have B:((k:Int)==0)=false:=by simp;omega
  have C:decide (k=0)=false:=decide_eq_false h0;have D:IntKind.i64.wrap (Int.tmod n k+k)=Int.tmod n k+k:=by rw[BK];omega
  have I:(0:Int)<=(p:Int):=by omega
  have J:(p:Int)<(k:Int):=by omega
  have N:=AA h0;clear U X Z Y V h3 h4;go_enter func43,ntmps43;go_wp2;go_ret2;exact⟨rfl,rfl⟩
end Go.Proofs.YtaamacoicojhnaaGreat
