/- Proofs over the given program, part 5. -/
import Derived.Test.YtaamacoicojhnaaGreatZQ4
set_option linter.unusedVariables false
set_option linter.unusedSimpArgs false
set_option maxRecDepth 100000
set_option maxHeartbeats 16000000
open Go.Proofs.Tryz
open Go.Proofs.Tryz renaming prog→ZP
open Go.World(cell? frozen?)
open Option renaming some→E,none→O
open Go.Value renaming int→R,slice→T,pointer→L,bool→i6,tuple→ta,agg→i8
open Go.IntKind renaming i64→K
open Bool renaming false→M,true→G
open Go renaming World→Wa,Value→Vk
open Go.Ending renaming returned→ra
open Go.Obj renaming cells→i7
open List renaming length→lc
namespace Go.Proofs.YtaamacoicojhnaaGreat
open Go.RowKit Go.Sort
section
attribute[local go_sem] Oper.semAt_some
attribute[local simp] Ak Al
attribute[local go_sem] Ak Al
theorem alk:(ZP.info? 30).map (λi=>(i.zero,i.size,i.bytes))=E (E (T O 0 0),1,24):=by kernel_rfl
theorem Mc.frozen{W:Wa}{B:Nat}{LO:List Int}{m n:Int}{row:Vk}{fold:Bool}{Z:Vk}{lo Y:Int}{wd:Vk}(h:Mc W B LO m n row fold Z lo Y wd)(i:Nat):W.frozen? ⟨B,i,O⟩=M:=by have h2:=h.box;simp[frozen?,h2]
theorem aj0{W:Wa}{Gf:Nat}{cs:Array Vk}{t:TypeId}(h:W.heap[Gf]?=E (i7 cs t (0,0)))(i:Nat):W.frozen? ⟨Gf,i,O⟩=M:=by simp[frozen?,h]
theorem ad6(fold:Bool)(a:Option Addr)(s ca:Nat)(wss:Lb)(w:Wa)(hA:Wds w a s wss)(bt:s<=1000000)(hM:∀x∈wss,lc x<=1000000)(hT:(Ad fold wss).length<=1000000)(hr:An fold wss=G) :Calls ZP 52 #[i8 (AM fold a s ca)] w λe w'=>∃(B Ra eA wc:Nat)(a' wa:Option Addr),e=ra (ta #[L (E ⟨B,0,O⟩),R K 0])/\MOK w' B fold wss (Au wss) ((Dm wss (AB wss).length:Nat):Int) Ra a' s eA wa wc/\La w w'/\Il w.heap.size w' B Ra a' s eA wss wa:=by
 have hB:=AL w (i7 (AM fold a s ca) 24);obtain⟨W0,bw⟩:∃W,W=w.alloc (i7 (AM fold a s ca) 24):=⟨_,rfl⟩;have aG:W0.heap[w.heap.size]?=E (i7 (AM fold a s ca) 24 (0,0)):=by rw[bw];exact AT _ _
 rw[<-bw]at hB;have c0:W0.cell? ⟨w.heap.size,0,O⟩=E (i6 fold):=by simp[cell?,aG]
 have c1:W0.cell? ⟨w.heap.size,1,O⟩=E (T a s ca):=by simp[cell?,aG]
 have bq:CI (AG wss)=E (AB wss,wss):=Fy.2 ⟨IY hr,rfl,rfl⟩;have aR:(AB wss).length<=400:=Hx bq;have fb:1<=Ah fold wss/\Ah fold wss<=257:=Hb _ _ _;have bz:=okT hr (λx hx c hc=>hA.bytes x hx c hc);have ei:=Oi bz;have de:=OZ bz;have bG:=AA hA.len;have HD:=AA (λV (I:La w V)=>aha fold a s ca wss V (hA.below I) bt hM hT hr);have eG:=AA (λV (I:La w V)=>abH fold a s ca wss V (hA.below I) bt hM hT hr);have eK:=AA (λV (I:La w V)=>alD fold a s ca wss V (hA.below I) bt hM);have eL:=AA (λV (I:La w V)=>aev fold a s ca wss V (hA.below I) bt);have eR:=AA (λ(t:TV) V (hT:Tri V t (AG wss)) (hb:t.un<=140737488351232)=>ak6 t (AG wss) (AB wss) wss V hT hb bq);have di:=AA (λ(t:TV) V (hT:Tri V t (AG wss)) (hb:t.un<=140737488351232)=>akF t (AG wss) (AB wss) wss V hT hb bq);obtain⟨LO,hL⟩:∃LO,BF fold wss=LO:=⟨_,rfl⟩;have ab:lc LO=256:=by rw[<-hL];exact Jc _ _
 have dh:Hid ((AB wss).length<=400):=aR;have fW:=AA de;have fV:=AA bz;obtain⟨n,hn⟩:∃n,(AB wss).length=n:=⟨_,rfl⟩;obtain⟨m,hm⟩:∃m,Ah fold wss=m:=⟨_,rfl⟩;obtain⟨k,hk⟩:∃k,m*n=k:=⟨_,rfl⟩;have aD:k<=257*400:=by rw[<-hk];exact GR om om
 have fp:=AA hL;have HN:=AA hn;have HM:=AA hm;have fq:=AA hk;rw[hL,hm,hn,hk]at HD;rw[hn]at eR di;have eH:Hid (Hu (m:Int) k=(n:Int)):=by rw[Hid,<-hk,<-hm,<-hn,<-de];exact ei
 clear hA hr bq bz hL hn hm hk aR de ei;refine Hc func52 rfl ?_;simp only[ntmps52,Cw,Ao,Bw,Nat.reduceAdd,Nat.reduceSub,Dd,Dc,DX,Da,Av,CT];go_upto_region 1 with fail
 rw [<-bw];clear bw;have fv:=AA (HD.out W0 hB);go_upto_region 2 with (first
  |(refine wpList_store_row rfl 146 _ _ rfl _ _ rfl rfl 146 _ (heap_alloc_new _ _) (anq ab _ _) (aoH ab _ _) (afb _ _ _ rfl) ?_)
  |(go_at_call 86;refine fv.out.mono ?_;rintro e w3 ⟨Ra,rfl,aN,fd,bu⟩))
 rw[World.setRow_alloc_new];have aJ:=hB.trans (bu.mono hB.size);have fj:Hid (w.heap.size<=Ra):=AS hB.size fd;obtain⟨w4,bp⟩:∃w4,w4=w3.alloc (i7 (dvC LO m (T (E ⟨Ra,0,O⟩) k k)).toArray 146):=⟨_,rfl⟩;have be:La w w4:=by rw[bp];exact aJ.alloc aJ.size _
 have aU:La w3 w4:=by rw[bp];exact AL _ _
 have bD:=Dv.new w3 LO m (T (E ⟨Ra,0,O⟩) k k) ab;rw[<-bp]at bD⊢;have aw:AU Ra (FN fold wss) w4:=(aU.block Ra aN.lt).trans aN;have aZ:w4.heap[w.heap.size]?=E (i7 (AM fold a s ca) 24 (0,0)):=(aU.block _ (by have:=(AD.1 aG).1;have:=bu.size;omega)).trans ((bu.block _ (AD.1 aG).1).trans aG);have d0:w4.cell? ⟨w.heap.size,0,O⟩=E (i6 fold):=by simp[cell?,aZ]
 have d1:w4.cell? ⟨w.heap.size,1,O⟩=E (T a s ca):=by simp[cell?,aZ]
 have fi:=AA (eG.out w4 be);have fz:w3.heap.size<w4.heap.size:=bD.lt;clear bp c0 c1 aU aN bu hB aG;go_upto_region 5 with(go_at_call 87;refine fi.out.mono ?_;rintro e w5 ⟨t,rfl,d6,aE⟩;obtain⟨ua,un,uc,da,dn,dc,xa,xn,xc,ba,bn,bc⟩:=t;simp only[TV.cells])
 have ed:un<=140737488351232:=by have h1:=d6.up.1;have h2:=alp wss;have h3:=dh.out;dsimp only at h1;omega
 have fP:=be.trans (aE.mono be.size);obtain⟨w6,bo⟩:∃w6,w6=w5.alloc (i7 #[T ua un uc,T da dn dc,T xa xn xc,T ba bn bc] 150):=⟨_,rfl⟩;have bX:La w5 w6:=by rw[bo];exact AL _ _
 have ay:w6.heap[w5.heap.size]?=E (i7 #[T ua un uc,T da dn dc,T xa xn xc,T ba bn bc] 150 (0,0)):=by rw[bo];exact AT _ _
 have aW:=d6.below bX;have bN:La w4 w6:=aE.trans (bX.mono aE.size);rw[<-bo];clear bo;have eQ:=AA (eR.out _ w6 aW ed);have e0:w6.cell? ⟨w5.heap.size,0,O⟩=E (T ua un uc):=by simp[cell?,ay]
 have e1:w6.cell? ⟨w5.heap.size,1,O⟩=E (T da dn dc):=by simp[cell?,ay]
 have e2:w6.cell? ⟨w5.heap.size,2,O⟩=E (T xa xn xc):=by simp[cell?,ay]
 have e3:w6.cell? ⟨w5.heap.size,3,O⟩=E (T ba bn bc):=by simp[cell?,ay]
 clear d0 d1 d6;go_upto_region 8 with(go_at_call 88;refine eQ.out.mono ?_;rintro e C ⟨q,rfl,cV,fI,d4⟩)
 have al:La w4 C:=bN.trans (d4.mono bN.size);clear e0 e1 e2 e3;go_upto_region 10 with fail
 have ez:La w C:=be.trans (al.mono be.size);have aj:=AA ez;have bS:=aW.below d4;have bh:=AA bS;have df:=bD.below al;have fL:w3.heap.size<C.heap.size:=df.lt;have HK:Hid (∀V,La C V->Dv V w3.heap.size LO m (T (E ⟨Ra,0,O⟩) k k)):=λV I=>df.below I;have d7:C.heap[w.heap.size]?=E (i7 (AM fold a s ca) 24 (0,0)):=(al.block _ (AD.1 aZ).1).trans aZ;have eI:Hid (∀V,La C V->V.cell? ⟨w.heap.size,0,O⟩=E (i6 fold)/\V.cell? ⟨w.heap.size,1,O⟩=E (T a s ca)):=λV I=>by have h:=(I.block _ (AD.1 d7).1).trans d7;exact⟨by simp[cell?,h],by simp[cell?,h]⟩
 have bx:C.heap[w5.heap.size]?=E (i7 #[T ua un uc,T da dn dc,T xa xn xc,T ba bn bc] 150 (0,0)):=(d4.block _ (AD.1 ay).1).trans ay;have eE:Hid (∀V,La C V->V.cell? ⟨w5.heap.size,0,O⟩=E (T ua un uc)/\V.cell? ⟨w5.heap.size,1,O⟩=E (T da dn dc)/\V.cell? ⟨w5.heap.size,2,O⟩=E (T xa xn xc)/\V.cell? ⟨w5.heap.size,3,O⟩=E (T ba bn bc)):=λV I=>by have h:=(I.block _ (AD.1 bx).1).trans bx;exact⟨by simp[cell?,h],by simp[cell?,h],by simp[cell?,h],by simp[cell?,h]⟩
 have bi:Hid ((ZP.info? 144).map (·.size)=E (LO.map (R K)).length):=by rw[Hid,BP,ab];kernel_rfl
 have cc:Hid ((ZP.info? 146).map (·.size)=E (dvC LO m (T (E ⟨Ra,0,O⟩) k k)).toArray.size):=by rw[Hid,Ko ab];exact Nl
 obtain⟨bf,aA⟩:∃Z,tbC LO m n (T (E ⟨Ra,0,O⟩) k k)=Z:=⟨_,rfl⟩;have eD:Hid (lc bf=259):=by rw[Hid,<-aA];exact ajU ab _ _ _
 have cb:=AA aA;obtain⟨ZT,d5⟩:∃Z,bf.toArray=Z:=⟨_,rfl⟩;have eB:=AA d5;have bk:Hid (ZP.built 157 [(0,i8 (LO.map (R K)).toArray),(1,R K m),(2,R K n),(3,T (E ⟨Ra,0,O⟩) k k)]=E ZT):=by rw[Hid,<-d5,<-aA];exact adQ LO m n _ k k ab
 have eF:Hid (w5.heap.size<C.heap.size):=(AD.1 bx).1;clear aA d5 df d7 bx bS ay aZ bD aW ez;refine Code.wp_mono (Q:=apB (λa' V=>∃(p8 H cv:Nat)(av:Option Addr)(ZM:Array Vk)(x9 e5 cR cQ cP cO cN cM cL cK cJ cI cH cG cF cE cD cC cB cA cz cy cx cw cu ct cr cq cp co cn cm cl ck cj ci ch cg cf ce:Vk),a'={tmps:=List.toArray (Value.agg (AM fold a s ca)::L (E ⟨w.heap.size,0,O⟩)::L O::R K 0::L (E ⟨w3.heap.size,0,O⟩)::R K 0::L (E ⟨w5.heap.size,0,O⟩)::T (E ⟨q,0,O⟩) n n::L (E ⟨p8,0,O⟩)::x9::e5::cR::cQ::cP::cO::cN::cM::cL::cK::cJ::cI::cH::cG::cF::cE::cD::cC::cB::cA::cz::cy::cx::cw::cu::ct::cr::cq::cp::co::cn::cm::cl::ck::cj::ci::ch::cg::cf::ce::undef::undef::undef::undef::undef::undef::undef::undef::undef::undef::undef::undef::undef::undef::undef::undef::undef::undef::undef::undef::undef::undef::undef::undef::undef::undef::undef::undef::undef::undef::undef::undef::undef::undef::undef::undef::undef::undef::undef::undef::[]),defers:=[]}/\Boxed V p8 88 (L (E ⟨H,0,O⟩))/\V.heap[H]?=E (i7 ZM 162 (0,0))/\(bf++[i6 fold,T av s cv,R K (Au wss),R K ((Dm wss n:Nat):Int),T O 0 0]).toArray=ZM/\BI V C.heap.size (T av s cv) wss/\La C V/\C.heap.size<=p8/\C.heap.size<=H/\s<=cv/\H≠p8)) (λe a' Y hM=>?_) ?_
 ·cases e<;>first|exact absurd hM id|skip
  obtain⟨p8,H,cv,av,ZM,x9,e5,cR,cQ,cP,cO,cN,cM,cL,cK,cJ,cI,cH,cG,cF,cE,cD,cC,cB,cA,cz,cy,cx,cw,cu,ct,cr,cq,cp,co,cn,cm,cl,ck,cj,ci,ch,cg,cf,ce,rfl,hP,bE,aF,eo,hHeld,f7,cZ,aS,b7⟩:=hM;simp only[Exit.then];go_upto_region 11 with fail
  have bA:Mc Y H LO m n (T (E ⟨Ra,0,O⟩) k k) fold (T av s cv) (Au wss) ((Dm wss n:Nat):Int) (T O 0 0):=⟨by rw[bE,<-aF,<-cb.out,amL],ab⟩;have eP:=AA eo;clear eo bE aF bk eB cb eD cc bi eK eL di eH HD eG HK;have cU:=hP.lt;have f9:=bA.lt;have dg:Hid (H≠p8):=b7;have eT:Hid (∀X:Wa,(Instr.makeSlice 160 (R K (n:Int)) (R K (n:Int))).run ZP X=.ok (T (E ⟨X.heap.size,0,O⟩) n n) (X.alloc (i7 (GW n) 30))):=λX=>by
   obtain⟨i0,hi,bm,aL,bl⟩:=Vh alk;have aR:=dh.out;rw[HN.out]at aR;have h:=run_makeSlice (P:=ZP) (w:=X) 160 30 i0 (.slice O 0 0) underlying160 hi bm .i64 .i64 (n:Int) (n:Int) om om (by rw[aL];omega) (by rw[bl];omega) om;rw[aL]at h;have e1:(n:Int).toNat*1=n:=by omega
   rw[e1,agW,Aa]at h;exact h
  have KP:Hid (∀X,(DW Y.heap.size H Y X/\∃wd,Mc X H LO m n (T (E ⟨Ra,0,O⟩) k k) fold (T av s cv) (Au wss) ((Dm wss n:Nat):Int) (wd))->X.cell? ⟨p8,0,O⟩=E (L (E ⟨H,0,O⟩))/\X.cell? ⟨H,257,O⟩=E (R K (n:Int))):=λX hX=>⟨(BC (a:=⟨p8,0,O⟩) (hX.1.1 p8 cU (Ne.symm dg.out))).trans hP.cell,by obtain⟨wd,h⟩:=hX.2;exact h.cells.2.1⟩;refine Ve ?_;refine Vd (S:=λX=>DW Y.heap.size H Y X/\∃wd,Mc X H LO m n (T (E ⟨Ra,0,O⟩) k k) fold (T av s cv) (Au wss) ((Dm wss n:Nat):Int) (wd)) kr ⟨⟨λ_ _ _=>rfl,AC _⟩,_,bA.below (AN Y 1)⟩ (λb6=>?_);obtain⟨Y1,bv⟩:∃W,W=Y.drew:=⟨_,rfl⟩;have am:La Y Y1:=by rw[bv];exact AN Y 1
  have bU:=bA.below am;have bK:Hid (Y1.heap.size=Y.heap.size):=by rw[Hid,bv];rfl
  rw[<-bv]at b6⊢;clear bv;refine tkB 0 KP.out ?_;refine tkB 1 KP.out ?_;refine tkA 2 ?_;refine tkA 3 ?_;refine tkA 4 ?_;refine tkB 5 KP.out ?_;refine rdy 6 (λKB J=>?_);have fa:=eT.out Y1;go_simp;obtain⟨Y2,aV⟩:∃W,W=Y1.alloc (i7 (GW n) 30):=⟨_,rfl⟩;have a8:La Y1 Y2:=by rw[aV];exact AL _ _
  have dd:Y2.heap[Y1.heap.size]?=E (i7 (GW n) 30 (0,0)):=by rw[aV];exact heap_alloc_new _ _
  have aD:DW Y.heap.size H Y Y2:=by rw[aV];exact aaq b6.1 _
  rw[<-aV];clear aV fa;have aa:=bU.below a8;obtain⟨Gf,d9⟩:∃Gf,Y1.heap.size=Gf:=⟨_,rfl⟩;have bB:Hid (Gf=Y.heap.size):=by rw[Hid,<-d9];exact bK.out
  rw[d9]at dd⊢;clear d9;refine J.out _ _ ⟨aD,_,aa⟩ (λek=>?_);clear J KB b6
  try simp only[pq]
  refine tkA 7 ?_;refine tkA 8 ?_;refine rdy 9 (λKB J=>?_);have c0:=aa.cells.2.2.2.2.2.2.2;have c1:=aa.frozen 263;have c2:=aa.lt;go_simp;have ao:=aa.setW (T (E ⟨Gf,0,O⟩) n n);have db:Gf≠H:=by have:=bB.out;omega
  have bb:=(AQ Y2 ⟨H,263,O⟩ (T (E ⟨Gf,0,O⟩) n n) Gf db).trans dd;have bY:La C Y2:=hHeld.trans ((am.trans (a8.mono am.size)).mono hHeld.size);have aJ:=bY.setCell (p:=⟨H,263,O⟩) cZ (T (E ⟨Gf,0,O⟩) n n);have b8:=((eP.out.below am).below a8).turned (BH Y2 H 263 (T (E ⟨Gf,0,O⟩) n n)) aa.box (Kf kr) (Kf kr);have aH:=(AQ Y2 ⟨H,263,O⟩ (T (E ⟨Gf,0,O⟩) n n) p8 (Ne.symm dg.out)).trans ((aD.1 p8 cU (Ne.symm dg.out)).trans hP);have cY:DW Y.heap.size H Y (Y2.setCell ⟨H,263,O⟩ (T (E ⟨Gf,0,O⟩) n n)):=⟨λi h1 h2=>(AQ Y2 ⟨H,263,O⟩ _ i h2).trans (aD.1 i h1 h2),by have:=aD.2;simpa[World.setCell]using this⟩;obtain⟨Y3,eh⟩:∃W,W=Y2.setCell ⟨H,263,O⟩ (T (E ⟨Gf,0,O⟩) n n):=⟨_,rfl⟩;rw[<-eh]at ao bb aJ b8 aH cY⊢;have f5:Hid (Gf<Y3.heap.size):=(AD.1 bb).1;have aH:Boxed Y3 p8 88 (L (E ⟨H,0,O⟩)):=aH;clear eh;refine J.out _ _ ⟨cY,_,ao⟩ (λej=>?_);clear J KB ek ej cY aD aa bU bA am a8 bY c0 c1 c2 dd hP hHeld eP KP eT f9 bK
  try simp only[pq]
  refine Vg kr ?_ _;refine At ?_;have ev:=GP.new bb;have fs:=AA bb;have eO:=AA b8;have eX:=AA aJ;have ar:=AA ao;have eM:=AA aH;have c0:=aH.cell;have c1:=ao.cells.2.1;have b9:Hid (Gf≠H):=db;have eW:Hid (C.heap.size<=H):=cZ;have bV:Hid (Gf≠p8):=by have:=bB.out;rw[Hid];omega
  have bC:Hid (C.heap.size<=Gf):=by have:=bB.out;rw[Hid];omega
  have f0:n=xn:=by have h:=bh.out.wrd.1;dsimp only at h;rw[(Jt wss).1,HN.out]at h;exact h
  obtain rfl:=f0;have f8:0<n:=by rw[<-HN.out];exact(AP.1 (CM wss)).1
  obtain⟨b0,o0,e6,bR,hcw⟩:=bh.out.wrd.2.resolve_left (by dsimp only;omega);dsimp only at e6;subst e6;have fw:Hid (∀(i:Nat)(v:Int),(AG wss).wrd[i]?=E v->C.cell? ⟨b0,o0+i,O⟩=E (R K v)):=hcw;have cd:Hid (b0<C.heap.size):=bR;have fl:=AA cV;have eg:Hid (q<C.heap.size):=cV.lt;have bF:Hid (n<=400):=by have:=dh.out;rw[HN.out]at this;exact this
  clear bb b8 aJ ao aH db cU bB cZ f7 b7 hcw bR cV f8
  go_wp2_with fail
  refine wp_loop (λa' w'=>∃(node:Nat)(ds:List Deferred)(y63 y9 e4 dZ dY dX dW dV dU dT dS dR dQ dP dO dN dM dL dK dJ dI dH dG dF dE dD dC dB dA dz dy dx dw dv du dr dq dp dm dk:Vk),(y63=R K (node:Int)/\node<=n/\Hid (GP Gf n ((List.range node).map (CA wss)) w')/\Hid (Y3.grownBy w' (E Gf))/\Hid (FE C.heap.size w' ds))/\a'={tmps:=List.toArray (Value.agg (AM fold a s ca)::L (E ⟨w.heap.size,0,O⟩)::L O::R K 0::L (E ⟨w3.heap.size,0,O⟩)::R K 0::L (E ⟨w5.heap.size,0,O⟩)::T (E ⟨q,0,O⟩) n n::L (E ⟨p8,0,O⟩)::y9::e4::cR::cQ::cP::cO::cN::cM::cL::cK::cJ::cI::cH::cG::cF::cE::cD::cC::cB::cA::cz::cy::cx::cw::cu::ct::cr::cq::cp::co::cn::cm::cl::ck::cj::ci::ch::cg::cf::ce::dZ::dY::dX::dW::dV::dU::dT::dS::dR::dQ::dP::dO::dN::R K (n:Int)::y63::dM::dL::dK::dJ::dI::dH::dG::dF::dE::dD::dC::dB::dA::dz::dy::dx::dw::dv::du::dr::dq::dp::dm::dk::undef::[]),defers:=ds}) (λa' _=>n-(intOf (a'.tmps.getD 63 undef)).toNat) ⟨0,[],_,_,_,_,_,_,_,_,_,_,_,_,_,_,_,_,_,_,_,_,_,_,_,_,_,_,_,_,_,_,_,_,_,_,_,_,_,_,_,_,⟨rfl,AR _,ev,(⟨rfl,rfl,rfl,AC _,λ_ _ _=>rfl⟩:Y3.grownBy Y3 (E Gf)),trivial⟩,rfl⟩ ?_;rintro a' wr ⟨node,ds,y63,y9,e4,dZ,dY,dX,dW,dV,dU,dT,dS,dR,dQ,dP,dO,dN,dM,dL,dK,dJ,dI,dH,dG,dF,dE,dD,dC,dB,dA,dz,dy,dx,dw,dv,du,dr,dq,dp,dm,dk,⟨rfl,fK,HF,aK,HC⟩,rfl⟩;have ap:Hid (La C wr):=eX.out.grown aK.out eX.out.size (λj e=>by cases e;exact bC.out);have cX:Hid (∀i,i<Y3.heap.size->i≠Gf->wr.heap[i]?=Y3.heap[i]?):=λi h1 h2=>aK.out.block i h1 (λe=>h2 (by cases e;rfl));have d8:Boxed wr p8 88 (L (E ⟨H,0,O⟩)):=(cX.out p8 eM.out.lt (Ne.symm bV.out)).trans eM.out;have eJ:=AA d8;clear c0 c1;have c0:=d8.cell;clear d8 ev
  by_cases ak:node<n
  ·have hd:decide ((node:Int)<(n:Int))=G:=by simp;omega
   obtain⟨e0,e1,e2,e3⟩:=eE.out wr ap.out;have l5:w5.heap.size<wr.heap.size:=Af eF.out ap.out.size;have l8:p8<wr.heap.size:=eJ.out.lt
   go_wp2_with (go_at_call 93;refine(ain ⟨ua,un,uc,da,dn,dc,E ⟨b0,o0,O⟩,n,xc,ba,bn,bc⟩ (E ⟨q,0,O⟩) n n (node:Int) _).mono ?_;rintro e U ⟨rfl,ac⟩)
   try simp only[TV.cells]
   obtain⟨U,ac⟩:∃W,W=((((wr.alloc (i7 #[R K (node:Int)] 3)).alloc (i7 #[T ua un uc,T da dn dc,T (E ⟨b0,o0,O⟩) n xc,T ba bn bc] 150)).alloc (i7 #[T (E ⟨q,0,O⟩) n n] 30)).alloc (i7 #[R K (node:Int)] 3)):=⟨_,rfl⟩;have hO:Bx wr.heap.size [i7 #[R K (node:Int)] 3,i7 #[T ua un uc,T da dn dc,T (E ⟨b0,o0,O⟩) n xc,T ba bn bc] 150,i7 #[T (E ⟨q,0,O⟩) n n] 30,i7 #[R K (node:Int)] 3] U:=by rw[ac];exact((((Bx.nil _ wr).snoc _ rfl).snoc _ sm).snoc _ sm).snoc _ sm
   have ag:La wr U:=by rw[ac];exact(((AL wr _).alloc sm _).alloc (by simp;omega) _).alloc (by simp;omega) _
   have fy:U.heap.size=wr.heap.size+1+1+1+1:=by rw[ac];simp
   rw[<-ac];clear ac e0 e1 e2 e3;have et:Boxed U wr.heap.size 3 (R K (node:Int)):=hO 0 _ rfl;have es:U.heap[wr.heap.size+1]?=_:=hO 1 _ rfl;have er:Boxed U (wr.heap.size+1+1) 30 (T (E ⟨q,0,O⟩) n n):=hO 2 _ rfl;have eq:Boxed U (wr.heap.size+1+1+1) 3 (R K (node:Int)):=hO 3 _ rfl;have aB:La C U:=ap.out.trans (ag.mono ap.out.size);have bL:AU q (Bk wss) U:=(aB.block q eg.out).trans fl.out;have bW:Gf<wr.heap.size:=Af f5.out aK.out.size;have f4:=ap.out.size;have fJ:q<Gf:=Af eg.out bC.out;have fN:b0<Gf:=Af cd.out bC.out;have cT:=aez wss (wr.heap.size+1+1+1) (wr.heap.size+1+1) (wr.heap.size+1) q n b0 o0 xc n node _ _ _ (λk=>k<U.heap.size/\k≠Gf) 8 U es bL HN.out (by have:=bF.out;omega) (λi v hv=>(aB.cell (p:=⟨b0,o0+i,O⟩) cd.out).trans (fw.out i v hv)) er eq ⟨⟨by omega,by omega⟩,⟨by omega,by omega⟩,⟨by omega,by omega⟩,⟨by omega,by omega⟩,⟨by omega,by omega⟩⟩ (λk hk=>hk.1) ⟨by omega,by omega,by omega,by omega⟩ ak;obtain⟨vs,cS,ec,eZ,aP,aM⟩:=HF.out;have eY:((List.range node).map (CA wss)).length=node:=by simp
   have eb:vs[node]?=E (O,0,0):=by
    have h1:node<lc vs:=by omega
    have h2:=aP node vs[node] om (by simp[h1]);rw[Ar h1,h2]
   have bJ:vs.set node (O,0,0)=vs:=by
    apply Hn
    intro i;rw[Gr]
    split
    ·rename_i h;subst h;rw[Lq om,eb]
    ·rfl
   have bM:U.heap[Gf]?=E (i7 (vs.map svV).toArray 30 (0,0)):=(ag.block Gf bW).trans cS;have eV:FD Gf U.heap.size vs node [] U:=⟨(O,0,0),by rw[bJ];exact bM,BN _ _ _ _⟩;have eC:=AA cS;have az:Hid (lc vs=n):=ec;have eS:=AA aP;have fk:=AA aM;have fo:=AA et;have fC:=AA aB;have bZ:=AA ag;have bT:Boxed U p8 88 (L (E ⟨H,0,O⟩)):=(ag.block p8 l8).trans eJ.out;have eN:=AA bT;have eu:Hid (H<wr.heap.size):=Af ar.out.lt aK.out.size;have eU:Hid (U.cell? ⟨H,263,O⟩=E (T (E ⟨Gf,0,O⟩) n n)):=(BC (a:=⟨H,263,O⟩) ((ag.block H eu.out).trans (cX.out H ar.out.lt (Ne.symm b9.out)))).trans ar.out.cells.2.2.2.2.2.2.2;have f1:(CA wss node).length<=1000000:=by have:=LL wss node;have:=bF.out;omega
   clear cS ec aP aM et es er eq hO aB ag bL bJ eb bM bT eZ
   apply amM rfl (enters_of func137 kr rfl) cT (λr hr=>by rw [hr];omega) GD (JR λk hk=>hk.1) (λ_=>rfl) (hKr:=λ_ _ _=>rfl)
    (λa1 W=>FD Gf U.heap.size vs node a1 W/\((∀k,k<U.heap.size->k≠Gf/\k≠wr.heap.size+1+1+1->W.heap[k]?=U.heap[k]?)/\U.heap.size<=W.heap.size)/\RowKit.Below Gf U W)
    (λ_ _ _=>False)
   case hI=>exact BL.and (aft om om id) (BL.and (ahk (Gf:=Gf) (λk _ h=>h.2)) (BL.below om om (λr hr=>by rw[hr];omega)))
   case hIx=>exact λ_ _ _ _ _ hs _ _=>hs
   case h0=>exact⟨eV,⟨λ_ _ _=>rfl,AC _⟩,Jj _ _⟩
   case hassign=>
    intro l x W KB J;unfold OX
    gi_wp2
    exact J
   case hbody=>
    rintro l a1 u W ⟨⟨⟨va,vn,vc⟩,hv,ae⟩,⟨aI,f3⟩,bd⟩ fA
    try dsimp only
    obtain⟨fR,fQ,he,fB,_⟩:=Co (enc:=R K) ae;simp only[svV,IL]at he;obtain⟨rfl,rfl,rfl⟩:=he;have fO:lc a1<=1000:=by have:=bF.out;omega
    obtain⟨i0,hi,bm,aL,bl⟩:=Vh JS;have fm:=AA ae;have HV:=AA hv;have fg:Gf<W.heap.size:=by omega
    have KC:Hid (∀X,DW U.heap.size Gf W X->X.cell? ⟨p8,0,O⟩=E (L (E ⟨H,0,O⟩))/\X.cell? ⟨H,263,O⟩=E (T (E ⟨Gf,0,O⟩) n n)/\X.cell? ⟨wr.heap.size,0,O⟩=E (R K (node:Int))):=λX hX=>by have h1:∀k,k<wr.heap.size+1->k≠Gf->X.heap[k]?=U.heap[k]?:=λk ha hb=>(hX.1 k om hb).trans (aI k om ⟨hb,by omega⟩);exact⟨(BC (a:=⟨p8,0,O⟩) (h1 p8 om (Ne.symm bV.out))).trans eN.out.cell,(BC (a:=⟨H,263,O⟩) (h1 H (by have:=eu.out;omega) (Ne.symm b9.out))).trans eU.out,(BC (a:=⟨wr.heap.size,0,O⟩) (h1 wr.heap.size om om)).trans fo.out.cell⟩
    have i1:(0:Int)<=(node:Int):=by omega
    have i2:(node:Int)<(n:Int):=by omega
    clear hv ae cT c0
    gi_wp2
    have f2:W.drew.heap[Gf]?=E (i7 ((vs.set node (va,lc a1,vc)).map svV).toArray 30 (0,0)):=HV.out;have ax:W.drew.ownsRow U.heap.size 3 1 (T va (lc a1) vc) (lc a1) (a1.map (R K)):=fm.out;have bg:=AA f2;have aC:Hid (FB W.drew U.heap.size (T va (lc a1) vc) a1):=ax;have ef:SlK 1 (W.drew.alloc (i7 #[R K u] 3)) (E ⟨W.drew.heap.size,0,O⟩) 1 [R K u]:=ane W.drew u;refine aa4 (S:=DW U.heap.size Gf W) mixed kr ⟨λ_ _ _=>rfl,(by show U.heap.size<=W.heap.size;omega)⟩ (λhHeld=>?_);refine tkB 0 KC.out ?_;refine tkB 1 KC.out ?_;refine tkB 2 KC.out ?_;refine tkB 3 KC.out ?_;refine tkB 4 KC.out ?_;refine tkB 5 KC.out ?_;refine tkB 6 KC.out ?_;refine tkB 7 KC.out ?_;refine tkB 8 KC.out ?_;refine tkB 9 KC.out ?_;refine tkB 10 KC.out ?_;refine tkA 12 ?_;refine apE 11 13 (λKB J=>?_) (λKB J=>?_)
    ·have c6:=FD.cell (B:=0) bg.out (by rw[az.out];exact ak);have A:=hHeld;go_simp;refine J.out _ _ ?_ (λN=>?_)
     ·exact A
     clear J KB hHeld A;have hHeld:=N;clear N
     try simp only[pq]
     refine rdy 13 (λKB J=>?_);have A:=hHeld;go_simp;refine J.out _ _ ?_ (λN=>?_)
     ·exact aaq A _
     clear J KB hHeld A c6;have hHeld:=N;clear N
     try simp only[pq]
     refine rdy 14 (λKB J=>?_);refine Mi kr ?_;refine NT _ _ _ 30 rfl U.heap.size 3 i0 (.int .i64 0) 1 8 underlying30 hi bm aL bl rfl (by decide) _ _ _ rfl (ax.alloc _) (E ⟨W.drew.heap.size,0,O⟩) 1 1 [.int .i64 u] rfl ef (by simp[Value.oneCell']) (by unfold maxLen;omega) om (by show U.heap.size<=(W.heap.push _).size;simp;omega) ?_;intro v' au a7 a2 fc;obtain⟨g',aq,rfl⟩:=ownsRow_succ a7;obtain⟨b1,b2,b3,b4,b5⟩:=FD.app (u:=(E ⟨g',0,O⟩,lc a1+1,aq)) bg.out aC.out om (by show U.heap.size<=W.heap.size;omega) a7 a2;have d1:=FD.cell (B:=0) b1 (by rw[az.out];exact ak);have d2:=aj0 b1 node;have d3:Gf<au.heap.size:=(AD.1 b1).1;have af:∀k,k<U.heap.size->(Value.slice va (lc a1) vc).ownBlock≠E k:=λk hk e=>by have:=(BA aC.out k e).1;omega
     have aY:DW U.heap.size Gf W au:=⟨λk h1 h2=>(a2.block k (by show k<(W.heap.push _).size;simp;omega) (λe=>af k h1 e.symm)).trans ((AL W.drew _).block k (by show k<W.heap.size;omega)),AS (by show U.heap.size<=(W.heap.push _).size;simp;omega) a2.size⟩;refine J.out _ _ aY (λN=>?_);clear J KB hHeld;have hHeld:=N;clear N
     try simp only[pq]
     refine tkA 15 ?_;refine rdy 16 (λKB J=>?_);go_simp;have aX:DW U.heap.size Gf W (au.setCell ⟨Gf,node,O⟩ (T (E ⟨g',0,O⟩) (lc a1+1) aq)):=⟨λk h1 h2=>b4 k h1 h2,by have h1:=aY.2;simpa[World.setCell]using h1⟩;refine J.out _ _ ?_ (λN=>?_)
     ·exact aX
     clear J KB hHeld N;refine Vg kr ?_ _;refine Gn.normal ?_
     gi_wp2
     exact⟨(show KeepsOthers W _ from⟨b3.size,b3.same⟩).from _,λk hk=>b4 k hk.1 hk.2,b2,⟨λk h1 h2=>(b4 k h1 h2.1).trans (aI k h1 h2),aX.2⟩,bd.trans (((AN W 1).mono om).trans b5)⟩
    ·have A:=hHeld;go_simp;refine J.out _ _ ?_ (λN=>?_)
     ·exact aaq A _
     clear J KB hHeld A;have hHeld:=N;clear N
     try simp only[pq]
     refine rdy 11 (λKB J=>?_);have c6:=FD.cell (B:=0) bg.out (by rw[az.out];exact ak);have c8:=FD.cell (B:=0) HV.out (by rw[az.out];exact ak);have c7:=FD.cell (B:=0) ((Bg W.drew (i7 #[R K u] 3) Gf fg).trans bg.out) (by rw[az.out];exact ak);have A:=hHeld;go_simp;refine J.out _ _ ?_ (λN=>?_)
     ·exact A
     clear J KB hHeld A c7 c6 c8;have hHeld:=N;clear N
     try simp only[pq]
     refine rdy 14 (λKB J=>?_);refine Mi kr ?_;refine NT _ _ _ 30 rfl U.heap.size 3 i0 (.int .i64 0) 1 8 underlying30 hi bm aL bl rfl (by decide) _ _ _ rfl (ax.alloc _) (E ⟨W.drew.heap.size,0,O⟩) 1 1 [.int .i64 u] rfl ef (by simp[Value.oneCell']) (by unfold maxLen;omega) om (by show U.heap.size<=(W.heap.push _).size;simp;omega) ?_;intro v' au a7 a2 fc;obtain⟨g',aq,rfl⟩:=ownsRow_succ a7;obtain⟨b1,b2,b3,b4,b5⟩:=FD.app (u:=(E ⟨g',0,O⟩,lc a1+1,aq)) bg.out aC.out om (by show U.heap.size<=W.heap.size;omega) a7 a2;have d1:=FD.cell (B:=0) b1 (by rw[az.out];exact ak);have d2:=aj0 b1 node;have d3:Gf<au.heap.size:=(AD.1 b1).1;have af:∀k,k<U.heap.size->(Value.slice va (lc a1) vc).ownBlock≠E k:=λk hk e=>by have:=(BA aC.out k e).1;omega
     have aY:DW U.heap.size Gf W au:=⟨λk h1 h2=>(a2.block k (by show k<(W.heap.push _).size;simp;omega) (λe=>af k h1 e.symm)).trans ((AL W.drew _).block k (by show k<W.heap.size;omega)),AS (by show U.heap.size<=(W.heap.push _).size;simp;omega) a2.size⟩;refine J.out _ _ aY (λN=>?_);clear J KB hHeld;have hHeld:=N;clear N
     try simp only[pq]
     refine tkA 15 ?_;refine rdy 16 (λKB J=>?_);go_simp;have aX:DW U.heap.size Gf W (au.setCell ⟨Gf,node,O⟩ (T (E ⟨g',0,O⟩) (lc a1+1) aq)):=⟨λk h1 h2=>b4 k h1 h2,by have h1:=aY.2;simpa[World.setCell]using h1⟩;refine J.out _ _ ?_ (λN=>?_)
     ·exact aX
     clear J KB hHeld N;refine Vg kr ?_ _;refine Gn.normal ?_
     gi_wp2
     exact⟨(show KeepsOthers W _ from⟨b3.size,b3.same⟩).from _,λk hk=>b4 k hk.1 hk.2,b2,⟨λk h1 h2=>(b4 k h1 h2.1).trans (aI k h1 h2),aX.2⟩,bd.trans (((AN W 1).mono om).trans b5)⟩
   case hstop=>exact λ_ _ _ _ _ _ h _=>h.elim
   case hdone=>
    rintro D zs W hD hS ⟨hH,⟨aI,f3⟩,bd⟩ ey;subst hS;have ai:∀i,i<wr.heap.size->i≠Gf->W.heap[i]?=wr.heap[i]?:=λi h1 h2=>(aI i om ⟨h2,by omega⟩).trans (bZ.out.block i h1);have ee:wr.heap.size<=W.heap.size:=by omega
    have fu:Hid (GP Gf n ((List.range (node+1)).map (CA wss)) W):=by rw[Hid,El,Aj];exact GP.step eC.out az.out eY ak eS.out fk.out om hH ai ee
    have aT:=(bZ.out.mono (DP bW)).trans bd;have ft:Hid (Y3.grownBy W (E Gf)):=adm aK.out ⟨aT.os,aT.tape,aT.output,aT.size,λi hi aQ=>ai i hi (λe=>aQ (by rw[e]))⟩;have fx:Hid (FE C.heap.size W ({target:=.collected D,args:=#[]}::ds)):=FE.push HC.out ai (λl e=>by rw[eC.out]at e;cases e) om ey f4;clear hH aI bd aT ai cT ey eV;have aR:=bF.out;dsimp only
    go_wp2_with fail
    refine⟨⟨node+1,_,_,_,_,_,_,_,_,_,_,_,_,_,_,_,_,_,_,_,_,_,_,_,_,_,_,_,_,_,_,_,_,_,_,_,_,_,_,_,_,_,⟨by simp,by omega,fu,ft,fx⟩,rfl⟩,?_⟩;show n-(intOf (R K ((node:Int)+1))).toNat<n-(intOf (R K (node:Int))).toNat;simp only[intOf];omega
  ·have hd:decide ((node:Int)<(n:Int))=M:=by simp;omega
   have aQ:Hid (node=n):=by rw[Hid];omega
   go_wp2_with fail
   show LeavesInM Fence.wide 9 ZP _ _ _ _ .returning wr;refine apl (Q:=C.heap.size) ds wr ap.out.size HC.out (λW' hT=>⟨_,results_tmp2 rfl _ _ _,?_⟩);have e8:=eO.out.turned aK.out fs.out (Kf kr) (Kf kr);have e7:=e8;obtain⟨a9,c9,e9,fM,bI⟩:=e8.wds;rw[bG.out]at e9 bI
   cases e9
   have ff:=al.block Ra aw.lt;have fe:Ra<C.heap.size:=Af aw.lt al.size;have af:=HF.out.far (q:=w.heap.size) (AS aj.out.size bC.out);rw[aQ.out]at af;have ew:Il w.heap.size wr H Ra av s cv wss (E ⟨Gf,0,O⟩):=⟨AS aj.out.size eW.out,fj.out,e7.lower aj.out.size,by rw[HN.out];exact af⟩;refine⟨H,Ra,cv,n,av,E ⟨Gf,0,O⟩,rfl,hT.mok ⟨?_,?_,?_,?_⟩,aj.out.trans ((ap.out.trans hT.1).mono aj.out.size),ew.kept hT.kept⟩
   ·rw[fp.out,HM.out,HN.out,fq.out];exact⟨(cX.out H ar.out.lt (Ne.symm b9.out)).trans ar.out.box,ab⟩
   ·exact(ap.out.block Ra fe).trans (ff.trans aw)
   ·exact bI
   ·rw[HN.out];have hl:=HF.out.lls (by simp;exact aQ.out);rw[aQ.out]at hl;exact hl
 refine Ve ?_;refine Vd (S:=La C) kr (AN C 1) (λhHeld=>?_);obtain⟨w8,ea⟩:∃W,W=C.drew:=⟨_,rfl⟩;rw[<-ea]at hHeld⊢;clear ea;refine tkA 0 ?_;refine' wpAnyH_take (i:=1) (v:=_) (by simp only[pD,pE,pF];rfl) (by as_aux_lemma=>kernel_rfl) (by as_aux_lemma=>kernel_rfl) (by as_aux_lemma=>kernel_rfl) (λ_ _ _ h=>h) (yieldsIf_load_mid (by rfl) _ _ rfl w3.heap.size 0 rfl (LO.map (Value.int .i64)) _ (λV I=>(HK.out V I).range) underlying144 rfl bi.out) (by assumption) ?_
 try simp only[pq]
 refine tkA 2 ?_;refine tkW 3 (v:=?_) ?_ ?_;rotate_left
 ·intro V I;have r0:=(HK.out V I).cells.1
  first|(go_simp;done)|(go_simp;with_reducible rfl)
 try simp only[pq]
 refine' wpAnyH_take (i:=4) (v:=_) (by simp only[pD,pE,pF];rfl) (by as_aux_lemma=>kernel_rfl) (by as_aux_lemma=>kernel_rfl) (by as_aux_lemma=>kernel_rfl) (λ_ _ _ h=>h) (aaS (by rfl) _ _ rfl w3.heap.size rfl 146 _ (0,0) _ (λV I=>(HK.out V I).box) underlying146 rfl cc.out) (by assumption) ?_
 try simp only[pq]
 refine tkA 6 ?_;refine tkW 7 (v:=?_) ?_ ?_;rotate_left
 ·intro V I;have r0:=(HK.out V I).cells.2
  first|(go_simp;done)|(go_simp;with_reducible rfl)
 try simp only[pq]
 refine tkB 9 eI.out ?_;refine tkB 11 eI.out ?_;refine tkB 13 eE.out ?_;refine apJ 17 (λv V=>∃p,v=L (E ⟨p,0,O⟩)/\Boxed V p 88 (L O)/\C.heap.size<=p) ?_ ?_ (λD=>?_)
 ·rintro _ V V' ⟨p,rfl,b,h⟩ hb;exact⟨p,rfl,(hb.block _ b.lt).trans b,h⟩
 ·intro f V I _ KB J;go_simp;exact J _ _ (I.alloc I.size _) ⟨_,rfl,Boxed.new _ _ _,I.size⟩ (AL _ _)
 refine Oo D 5 (λv _=>v=R K n) ?_ ?_
 ·rintro f (rfl|⟨vk,rfl⟩) V I-KB J<;>(try simp only[pq]at J⊢)<;>go_simp<;>(go_at_call 89;refine(ab7 LO m (E ⟨Ra,0,O⟩) k k _ ab om).mono ?_;rintro e V5 ⟨rfl,aE⟩;rw[eH.out];exact J _ _ (I.trans (aE.mono I.size)) rfl aE)
 rintro _ w9 hHeld-rfl
 try simp only[pq]
 refine apH D 8 (v:=i8 ZT) ?_ ?_
 ·rintro f (rfl|⟨vk,rfl⟩)<;>(try simp only[pq])<;>exact Iz (by rfl) _ _ rfl ZT (by go_simp;exact bk.out)
 try simp only[pq]
 refine Oo D 10 (λv V=>∃av cv,v=i8 #[i6 fold,T av s cv]/\s<=cv/\BI V C.heap.size (T av s cv) wss) ?_ ?_
 ·rintro f (rfl|⟨vk,rfl⟩) V I-KB J<;>(try simp only[pq]at J⊢)<;>go_simp<;>(go_at_call 90;refine(eK.out _ (aj.out.trans (I.mono aj.out.size))).mono ?_;rintro e fU ⟨v,rfl,ae,bQ⟩;obtain⟨av,cv,rfl,aS,-⟩:=ae.wds;rw[bG.out]at aS;have aO:=BI.lower ae I.size;rw[bG.out]at aO;rw[bG.out];exact J _ _ (I.trans (bQ.mono I.size)) ⟨_,_,rfl,aS,aO⟩ bQ)
 rintro _ fH hHeld-⟨av,cv,rfl,aS,a6⟩
 try simp only[pq]
 obtain⟨ZM,aF⟩:∃Z,(bf++[i6 fold,T av s cv,R K (Au wss),R K ((Dm wss n:Nat):Int),T O 0 0]).toArray=Z:=⟨_,rfl⟩;have bH:Hid (ZP.built 162 [(0,i8 ZT),(1,i8 #[i6 fold,T av s cv]),(2,R K (Au wss)),(3,R K ((Dm wss n:Nat):Int))]=E ZM):=by rw[Hid,<-aF,<-eB.out];exact aad bf fold av s cv _ _ eD.out
 have fh:=AA aF;clear aF;refine Oo D 12 (λv _=>v=R K (Au wss)) ?_ ?_
 ·rintro f (rfl|⟨vk,rfl⟩) V I-KB J<;>(try simp only[pq]at J⊢)<;>go_simp<;>(go_at_call 91;refine(eL.out _ (aj.out.trans (I.mono aj.out.size))).mono ?_;rintro e fT ⟨rfl,a8⟩;exact J _ _ (I.trans (a8.mono I.size)) rfl a8)
 rintro _ fG hHeld hb rfl
 replace a6:=a6.below hb
 clear hb
 try simp only[pq]
 refine Oo D 14 (λv _=>v=R K ((Dm wss n:Nat):Int)) ?_ ?_
 ·rintro f (rfl|⟨vk,rfl⟩) V I-KB J<;>(try simp only[pq]at J⊢)<;>go_simp<;>(go_at_call 92;refine(di.out _ _ (bh.out.below I) ed).mono ?_;rintro e fS ⟨rfl,bO⟩;exact J _ _ (I.trans (bO.mono I.size)) rfl bO)
 rintro _ fF hHeld hb rfl
 replace a6:=a6.below hb
 clear hb
 try simp only[pq]
 refine apH D 15 (v:=i8 ZM) ?_ ?_
 ·rintro f (rfl|⟨vk,rfl⟩)<;>(try simp only[pq])<;>exact Iz (by rfl) _ _ rfl ZM (by go_simp;exact bH.out)
 try simp only[pq]
 refine Oo D 16 (λv V=>∃p,v=L (E ⟨p,0,O⟩)/\V.heap[p]?=E (i7 ZM 162 (0,0))/\C.heap.size<=p) ?_ ?_
 ·rintro f (rfl|⟨vk,rfl⟩) V I-KB J<;>(try simp only[pq]at J⊢)<;>go_simp<;>exact J _ _ (I.alloc I.size _) ⟨_,rfl,heap_alloc_new _ _,I.size⟩ (AL _ _)
 rintro _ fE hHeld hb ⟨pM,rfl,bj,bE⟩
 replace a6:=a6.below hb
 clear hb
 try simp only[pq]
 refine apI D ?_;rintro _ fD hHeld hb-⟨pP,rfl,bP,em⟩
 replace a6:=a6.below hb
 replace bj:=(hb.block _ (AD.1 bj).1).trans bj
 have b7:pM≠pP:=by rintro rfl;cases bj.symm.trans bP
 try simp only[pq]
 refine rdy 18 (λKB J=>?_);have q0:=bP.cell;have q1:=bP.frozen;have q2:=bP.lt;go_simp;refine J.out _ _ (hHeld.setCell em _) (λN=>?_)
 try simp only[pq]
 refine Vg kr ?_ _;refine At ?_;exact⟨_,_,cv,av,ZM,_,_,_,_,_,_,_,_,_,_,_,_,_,_,_,_,_,_,_,_,_,_,_,_,_,_,_,_,_,_,_,_,_,_,_,_,_,_,_,_,rfl,bP.set _,(AQ _ _ _ _ b7).trans bj,fh.out,a6.turned (BH _ _ 0 _) bP (Kf kr) (Kf kr),N,em,bE,aS,b7⟩
end
def ownW(ws:Lb)(b:List Int):List Int:=if b∈ws then [CW ws b] else []
def DF(ws:Lb):List Int->List Int
 |[]=>[]
 |c::b=>ownW ws (c::b)++DF ws b
theorem arY(ws:Lb):∀b,(DF ws b).length<=lc b
 |[]=>AC _
 |c::b=>by
  have:=arY ws b;unfold DF ownW;rw[List.length_append,Ao]
  split<;>simp<;>omega
section
variable {ws:Lb}
theorem LU(h0:[] ∉ ws):∀b,DF ws (lsf (AB ws) b)=DF ws b
 |[]=>by have:=Gb (AB ws) [];rw[List.suffix_nil.1 this]
 |c::b=>by
  by_cases h:(c::b)∈AB ws
  ·rw[Lu h]
  ·have Y:(c::b) ∉ ws:=λX=>by
    obtain⟨w,Z⟩:=DR X;obtain⟨j,_,V,_⟩:=adL Z sm;exact h (AX V)
   have e:lsf (AB ws) (c::b)=lsf (AB ws) b:=al2 (b:=c::b) (k:=0) sm h;rw[e,LU h0 b]
   conv=>rhs;unfold DF ownW
   rw[Lc Y,Av]
theorem ajb(h0:∀x∈ws,lc x≠0){z:Nat}{x:List Int}(Z:(AB ws)[z]?=E x):∃v:Int,(AG ws).wrd[z]?=E v/\ownW ws x=if 0<=v then [v] else []:=by
 refine⟨CW ws x,alj Z,?_⟩;unfold ownW
 by_cases h:x∈ws
 ·rw[Lq h,Lq];unfold CW;rw[Lq h];omega
 ·rw[Lc h,abt h,Lc (by decide)]
theorem OU(h0:∀x∈ws,lc x≠0):∀{z:Nat}{x:List Int},(AB ws)[z]?=E x->CA ws z=DF ws x:=by
 intro z;have N:[] ∉ ws:=λB=>h0 [] B rfl
 induction z using Nat.strongRecOn with
 |_ z ih=>
  intro x Y;have I:=(AP.1 Y).1
  by_cases X:z=0
  ·subst X;rw[CM]at Y;have:=AK Y;subst this;exact afO ws
  ·have U:x≠[]:=λe=>X ((EM Y).2 e);obtain⟨v,D,ho⟩:=ajb h0 Y;rw[acI om I D,<-ho];obtain⟨k,h1,_,h3,h4⟩:=Nh Y;have V:=h3 om;obtain⟨u,H,C⟩:=ajb h0 h4;have hk:CA ws (nx ws z)=DF ws (EC (AB ws) x):=by
    rw[ajZ om I h1 H]
    by_cases Z:0<=u
    ·rw[Lq Z];exact ih k V h4
    ·rw[Lc Z];have e:=ih k V h4
     by_cases J:k=0
     ·subst J;rw[Lk];exact e
     ·rw[acI om om H,Lc Z,Av]at e;exact e
   rw[hk]
   cases x with
   |nil=>exact absurd rfl U
   |cons c b=>
    rw[show EC (AB ws) (c::b)=lsf (AB ws) b from rfl,LU N b]
    rfl
end
theorem Od(ws:Lb)(c:Int)(t:List Int):DF ws (c::t)=(if(c::t)∈ws then [CW ws (c::t)] else [])++DF ws t:=rfl
def Pp(ws:Lb)(x:List Int)(m:Nat):List Int:=DF ws (x.drop (lc x-m))
theorem as2(ws:Lb)(x:List Int):Pp ws x 0=[]:=by
 unfold Pp;rw[Nat.sub_zero,List.drop_length]
 rfl
theorem Pq(ws:Lb)(x:List Int){m:Nat}(h:lc x<=m):Pp ws x m=DF ws x:=by unfold Pp;rw[show lc x-m=0 by omega,List.drop_zero]
theorem as3{x:List Int}{m:Nat}(Z:m<lc x):∃c,x.drop (lc x-(m+1))=c::x.drop (lc x-m):=by refine⟨x[lc x-(m+1)]'om,?_⟩;rw[List.drop_eq_getElem_cons om,show lc x-(m+1)+1=lc x-m by omega]
theorem afm{x y:List Int}(h:y <:+x):y=x.drop (lc x-(lc y)):=List.suffix_iff_eq_drop.1 h
theorem acD(fold:Bool)(x:List Int)(k:Nat):AO fold (x.drop k)=(AO fold x).drop k:=by rw[Fg,Fg,List.map_drop]
theorem anm{fold:Bool}{y:List Int}(Y:AO fold y=y)(b:List Int):atL fold b (lc b:Int) y=decide (y <:+AO fold b):=by
 unfold atL CH;rw[Aa,Y]
 by_cases h:y <:+AO fold b
 ·have Z:=h.length_le;rw[Ew]at Z;have e:=afm h;rw[Ew]at e;rw[Vb h,Vb ⟨by omega,Int.le_refl _⟩,FJ,Ap (by rw[List.length_drop];omega),acD,<-e];simp
 ·rw[decide_eq_false h]
  by_cases Z:lc y<=lc b
  ·rw[Vb ⟨by omega,Int.le_refl _⟩,FJ,decide_eq_false];intro e;rw[Ap (by rw[List.length_drop];omega),acD]at e;exact h (by rw[<-e];exact List.drop_suffix _ _)
  ·rw[decide_eq_false (λX=>by omega),Bool.false_and]
def Po(ws:Lb)(x:List Int)(n w:Nat):List Int:=(if n<=lc x/\x.drop (lc x-n)∈ws.drop w then [CW ws (x.drop (lc x-n))] else [])++Pp ws x (n-1)
theorem as1(ws:Lb)(x:List Int)(n:Nat):Po ws x (n+1) 0=Pp ws x (n+1):=by
 unfold Po;rw[List.drop_zero,Jl]
 by_cases h:n<lc x
 ·obtain⟨c,X⟩:=as3 h;unfold Pp;rw[X,Od]
  by_cases Z:(c::x.drop (lc x-n))∈ws
  ·rw[Lq ⟨h,Z⟩,Lq Z]
  ·rw[Lc (λY=>Z Y.2),Lc Z]
 ·rw[Lc (λY=>h Y.1),Av,Pq ws x om,Pq ws x om]
theorem as9{ws:Lb}{w:Nat}(h:lc ws<=w)(x:List Int)(n:Nat):Po ws x (n+1) w=Pp ws x n:=by unfold Po;rw[List.drop_eq_nil_of_le h];simp
theorem as4{ws:Lb}(U:ws.Nodup){w:Nat}{y:List Int}(X:ws[w]?=E y)(x:List Int)(n:Nat):Po ws x n w=if lc y=n/\y <:+x then(w:Int)::Po ws x n (w+1) else Po ws x n (w+1):=by
 have V:=(AP.1 X);have Z:=V.1;have e:ws.drop w=y::ws.drop (w+1):=by rw[List.drop_eq_getElem_cons Z,V.2]
 unfold Po;rw[e]
 by_cases h:lc y=n/\y <:+x
 ·obtain⟨h1,h2⟩:=h;have I:=h2.length_le;have N:=afm h2;rw[h1]at N;have Y:y ∉ ws.drop (w+1):=by
   have h2:(ws.drop w).Nodup:=U.sublist (List.drop_sublist w ws);rw[e]at h2;exact(List.nodup_cons.1 h2).1
  rw[Lq (⟨h1,h2⟩:lc y=n/\y <:+x),<-N,Lq ⟨by omega,List.mem_cons_self ..⟩,Lc (λJ=>Y J.2),CV U X]
  rfl
 ·rw[Lc h];have:(n<=lc x/\x.drop (lc x-n)∈y::ws.drop (w+1))↔(n<=lc x/\x.drop (lc x-n)∈ws.drop (w+1)):=by
   constructor
   ·rintro⟨h1,h2⟩;refine⟨h1,(CR.1 h2).resolve_left (λe=>h ⟨?_,?_⟩)⟩
    ·rw[<-e,List.length_drop];omega
    ·rw[<-e];exact List.drop_suffix _ _
   ·exact λ⟨h1,h2⟩=>⟨h1,MT _ h2⟩
  simp only[this]
theorem arZ{ws:Lb}{m:Nat}(h:∀y∈ws,lc y<=m):∀x:List Int,Pp ws x m=DF ws x
 |[]=>Pq ws [] (AR _)
 |c::b=>by
  by_cases Z:(c::b).length<=m
  ·exact Pq ws _ Z
  ·rw[Ao]at Z;have Y:(c::b) ∉ ws:=λX=>by have:=h _ X;rw[Ao]at this;omega
   rw[Od,Lc Y,Av,<-arZ h b];unfold Pp;rw[Ao,show lc b+1-m=(lc b-m)+1 by omega,List.drop_succ_cons]
theorem aqq:((ZP.fieldsOf 116).toList.map λf=>(f.name,f.type,f.offset))=[("End",3,0),("Word",3,1)]:=by kernel_rfl
theorem apV(d:Nat)(xs ys:Array Vk)(Y Z:List Field)(h:Y.map (λf=>(f.name,f.type,f.offset))=Z.map (λf=>(f.name,f.type,f.offset))):Op.eqFields d xs ys Y=Op.eqFields d xs ys Z:=by
 induction Y generalizing Z with
 |nil=>cases Z with
  |nil=>rfl
  |cons g Z=>simp at h
 |cons f Y ih=>cases Z with
  |nil=>simp at h
  |cons g Z=>
   simp only[BO,MY,Jk]at h;obtain⟨⟨h1,h2,h3⟩,h4⟩:=h;simp only[Op.eqFields,h1,h2,h3,ih Z h4]
theorem aqh(x y:AF)(W:Wa):(Op.equalIn 10000 116 (i8 #[R K x.1,R K x.2]) (i8 #[R K y.1,R K y.2])).run ZP W=.ok (decide (x=y)) W:=by
 rw[run_equalIn_agg W 9999 116 _ _ kr kr];rw[apV 9999 _ _ _ [⟨ "End",3,0,M,"","",0⟩,⟨ "Word",3,1,M,"","",0⟩] aqq];have h0:∀W:Wa,(part 3 #[R K x.1,R K x.2] 0).run ZP W=.ok (R K x.1) W:=λW=>by kernel_rfl
 have h1:∀W:Wa,(part 3 #[R K x.1,R K x.2] 1).run ZP W=.ok (R K x.2) W:=λW=>by kernel_rfl
 have Y:∀W:Wa,(part 3 #[R K y.1,R K y.2] 0).run ZP W=.ok (R K y.1) W:=λW=>by kernel_rfl
 have Z:∀W:Wa,(part 3 #[R K y.1,R K y.2] 1).run ZP W=.ok (R K y.2) W:=λW=>by kernel_rfl
 simp only[Op.eqFields,IN,Sem.run_ite,IM,h0,h1,Y,Z,Result.andThen_ok,run_equalIn_int _ _ _ _ _ _ _ underlying3];obtain⟨a,b⟩:=x;obtain⟨c,d⟩:=y
 by_cases X:a=c<;>by_cases e2:b=d<;>simp[X,e2]
theorem ar9(x y:AF)(W:Wa):(binOp .neq 116 (i8 #[R K x.1,R K x.2]) (i8 #[R K y.1,R K y.2])).run ZP W=.ok (i6 (!decide (x=y))) W:=by
 rw[run_neq_struct,aqh]
 rfl
theorem aqF:ZP.eqGuardType ZP.depth 116=M:=by kernel_rfl
theorem PY{w:Wa}{a:Option Addr}{n:Nat}{l:List AF}(h:SlK 2 w a n (AV l)):lc l=n:=by have:=h.1;rw[GF]at this;omega
theorem aqO{w:Wa}{a:Option Addr}{n:Nat}{l:List AF}(h:SlK 2 w a n (AV l)){k:Nat}(hk:k<n) :∃b off x,a=E ⟨b,off,O⟩/\b<w.heap.size/\w.cell? ⟨b,off+k*2,O⟩=E (R K x.1)/\w.cell? ⟨b,off+k*2+1,O⟩=E (R K x.2)/\l[k]?=E x:=by have V:=PY h;obtain⟨b,off,e,Z,X⟩:=h.2.resolve_left om;obtain⟨x,Y⟩:∃x,l[k]?=E x:=⟨l[k]'om,by simp⟩;obtain⟨c0,c1⟩:=aeK Y;exact⟨b,off,x,e,Z,X _ _ c0,by rw[Nat.add_assoc];exact X _ _ c1,Y⟩
theorem apY(a b:Option Addr)(X ca J cb:Nat)(l m:List AF)(w:Wa)(C:SlK 2 w a X (AV l))(hB:SlK 2 w b J (AV m))(a1:X<=4611686018427387904) :Calls ZP 40 #[T a X ca,T b J cb] w λe w'=>e=ra (i6 (decide (l=m)))/\La w w':=by
 have j:=AA (PY C);have s:=AA (PY hB);have a2:=aqF
 by_cases D:X=J
 ·subst D;go_enter func40,ntmps40;go_wp2
  go_loopw[5] (λi wr=>∃k:Nat,k<=X/\i=R K k/\Hid (l.take k=m.take k)/\La w wr) (λi _=>X-(intOf i).toNat)
  case atStart=>exact⟨0,AR _,rfl,by simp[Hid],AH _ _⟩
  case round=>
   obtain⟨k,hk,rfl,v,Y⟩:=hrel
   by_cases N:k<X
   ·obtain⟨b1,o1,x,rfl,a7,x0,x1,H⟩:=aqO (C.below Y) N;obtain⟨b2,o2,y,rfl,a6,y0,y1,I⟩:=aqO (hB.below Y) N;have A:=AA H;have B:=AA I;clear H I;have hd:decide ((k:Int)<X)=G:=by simp;omega
    have V:=λW=>ar9 x y W
    by_cases h:x=y
    ·have U:Hid (l.take (k+1)=m.take (k+1)):=by rw[As A.out,As B.out,v.out,h];rfl
     have Z:decide (x=y)=G:=by simp[h]
     rw[Z]at V;clear h Z;go_wp2
     go_quiet (fail)
     go_wp2
     go_roundw
     case rel=>exact⟨k+1,by omega,by go_num,U,Y.trans ⟨rfl,rfl,rfl,AC _,λ_ _=>rfl⟩⟩
     case measure=>simp[intOf];omega
    ·have U:Hid (decide (l=m)=M):=by
      have:l≠m:=λe=>by have h1:=A.out;rw[e,B.out]at h1;exact h (AK h1).symm
      simp[Hid,this]
     have Z:decide (x=y)=M:=by simp[h]
     rw[Z]at V;clear h Z;go_wp2
     go_quiet (fail)
     go_wp2;go_ret;exact⟨by rw[U.out];rfl,Y.trans ⟨rfl,rfl,rfl,AC _,λ_ _=>rfl⟩⟩
   ·obtain rfl:k=X:=by omega
    have U:Hid (decide (l=m)=G):=by have h:=v.out;rw[Ap (by rw[j.out];exact AC _),Ap (by rw[s.out];exact AC _)]at h;simp[Hid,h]
    go_wp2;go_ret;exact⟨by rw[U.out];rfl,Y⟩
 ·have U:Hid (decide (l=m)=M):=by
   have:l≠m:=λe=>D (by rw[<-j.out,<-s.out,e]);simp[Hid,this]
  have V:((X:Int) != (J:Int))=G:=by simp;omega
  go_enter func40,ntmps40;go_wp2;go_ret;exact⟨by rw[U.out];rfl,AH _ _⟩
theorem aqd(a b:Option Addr)(Z U Y V:Nat)(l m:List AF)(w:Wa)(N:Hts w a Z l)(hB:Hts w b Y m)(X:Z<=4611686018427387904) :Calls ZP 40 #[T a Z U,T b Y V] w λe w'=>e=ra (i6 (decide (l=m)))/\La w w':=apY a b Z U Y V l m w N.1 hB.1 X
theorem ahJ(B:Nat)(LO:List Int)(m:Int)(n j:Nat)(row:Vk)(fold:Bool)(D:Vk)(lo C:Int)(H:Option Addr)(wc:Nat)(W:Lb)(xs:List Int)(w:Wa)(h:Mc w B LO m (n:Int) row fold D lo C (T H n wc))(hW:Lls w H n W)(hj:j<n)(s:W[j]?=E xs)(a1:lc xs<=1000000) :Calls ZP 273 #[L (E ⟨B,0,O⟩),R K (j:Int)] w λe w'=>∃v,e=ra v/\FB w' w.heap.size v xs/\La w w':=by
 obtain⟨i0,hi,N,U,V⟩:=Vh JS;obtain⟨b,off,a',l,c,ys,rfl,a6,I,A,J,a2⟩:=hW.at_ hj;obtain rfl:ys=xs:=by have:=A.symm.trans s;cases this;rfl
 have hl:=J.1;have s0:=h.cells.2.2.2.2.2.2.2;have Y:=Nk B LO m n row fold D lo C (T (E ⟨b,off,O⟩) n wc) j w h;rw[show decide (0<=(j:Int)/\(j:Int)<(n:Int))=G by simp;omega]at Y;have HI:=AA Y;have HS:=AA J;have i1:(0:Int)<=(j:Int):=by omega
 have i2:(j:Int)<(n:Int):=by omega
 subst hl;clear Y h hW s A J hj;go_enter func273,ntmps273
 go_wp2_with (first
  |(go_at_call 271;refine HI.out.mono ?_;rintro e w4 ⟨rfl,rfl⟩)
  |(at_builtin;refine Mf rfl _ _ 30 rfl (enc:=Value.int .i64) (λ_=>rfl) w.heap.size 3 i0 (.int .i64 0) 8 underlying30 hi N U V rfl _ 0 [] rfl (BN _ _ _ _) a' _ c ys rfl HS.out (by unfold maxLen;omega) om (AC _) ?_;intro v' w5 Z X a7))
 go_ret;refine⟨_,rfl,?_,(AH _ _).grown X (AC _) (λk e=>by cases e)⟩
 simpa[FB]using Z
theorem afA(B:Nat)(LO:List Int)(m n:Int)(row:Vk)(fold:Bool)(Y:Vk)(lo X:Int)(wd:Vk)(j:Int)(w:Wa)(h:Mc w B LO m n row fold Y lo X wd)(V:j<0∨n<=j) :Calls ZP 273 #[L (E ⟨B,0,O⟩),R K j] w λe w'=>∃v,e=ra v/\FB w' w.heap.size v []/\La w w':=by
 have Z:=Nk B LO m n row fold Y lo X wd j w h;rw[show decide (0<=j/\j<n)=M by simp;omega]at Z;have U:=AA Z;clear Z h V;go_enter func273,ntmps273
 go_wp2_with (go_at_call 271;refine U.out.mono ?_;rintro e w4 ⟨rfl,rfl⟩)
 go_ret;exact⟨_,rfl,BN _ _ _ _,AH _ _⟩
def Dz(wss:Lb)(node:Int):List Int:=if 0<=node/\node<((AB wss).length:Int) then CA wss node.toNat else []
theorem af6{B Ra U N wc:Nat}{fold:Bool}{wss:Lb}{lo Y:Int}{a V:Option Addr}(node:Int)(w:Wa)(h:MOK w B fold wss lo Y Ra a U N V wc)(Z:(Dz wss node).length<=1000000) :Calls ZP 273 #[L (E ⟨B,0,O⟩),R K node] w λe w'=>∃v,e=ra v/\FB w' w.heap.size v (Dz wss node)/\La w w':=by
 unfold Dz at Z⊢
 by_cases X:0<=node/\node<((AB wss).length:Int)
 ·rw[Lq X]at Z⊢;obtain⟨j,rfl⟩:∃k:Nat,node=(k:Int):=⟨node.toNat,by omega⟩;rw[Aa]at Z⊢;exact ahJ B _ _ _ j _ fold _ lo Y _ _ _ _ w h.mc h.lls om (by rw[BU,It om];rfl) Z
 ·rw[Lc X];exact afA B _ _ _ _ fold _ lo Y _ node w h.mc om
theorem aik(p:Vk)(node at_:Int)(xs:List Int)(w:Wa)(a8:lc xs<=1000000)
  (hw:∀V,La w V->Calls ZP 273 #[p,R K node] V λe w'=>∃v,e=ra v/\FB w' V.heap.size v xs/\La V w') :
  Calls ZP 244 #[p,R K node,R K at_] w λe w'=>∃v,e=ra v/\Ax w' w.heap.size v (xs.map λx=>(at_,x))/\La w w':=by
 obtain⟨i0,hi,A,B,C⟩:=Vh IG;have HW:=AA hw;clear hw;go_enter func244,ntmps244;go_upto_region 2 with fail
 go_wp2_with (go_at_call 273;refine(HW.out _ (AH _ _)).mono ?_;rintro e U ⟨v,rfl,Y,I⟩;obtain⟨a1,c1,rfl,ab,H⟩:=Co Y)
 have ae:=AA Y;have a6:=AA H;clear Y H
 go_loopw[7,14] (λv i wr=>∃k:Nat,k<=lc xs/\i=R K k/\La U wr/\Ax wr U.heap.size v ((xs.take k).map λx=>(at_,x))) (λ_ i _=>lc xs-(intOf i).toNat)
 case atStart=>exact⟨0,AR _,rfl,AH _ _,by simpa[Ax,AV]using BN U U.heap.size 116 2⟩
 case round=>
  obtain⟨k,hk,rfl,X,Z⟩:=hrel
  by_cases s:k<lc xs
  ·have hd:decide ((k:Int)<(lc xs:Int))=G:=by simp;omega
   obtain⟨b0,o0,x,e0,ac,cx,hx⟩:=DG (a6.out.below X) s;subst e0;have i1:(0:Int)<=(k:Int):=by omega
   have i2:(k:Int)<(lc xs:Int):=by omega
   have HX:=AA hx;obtain⟨m,D⟩:∃m,((xs.take k).map λx=>(at_,x)).length=m:=⟨_,rfl⟩;have aa:m=k:=by rw[<-D,BP,Ag];omega
   unfold Ax at Z;rw[D]at Z;have HM:=AA D;clear D hx
   go_wp2_with (at_builtin;refine wpList_append_own _ rfl _ _ 69 rfl U.heap.size 116 i0 (i8 #[.int .i64 0,.int .i64 0]) 2 16 underlying69 hi A B C rfl (by decide) _ _ _ rfl (Z.alloc _) ⟨wr.heap.size,0,O⟩ 1 1 [.int .i64 at_,.int .i64 x] rfl rfl (GI _ _ rfl) (by simp[Value.oneCell']) (by unfold maxLen;omega) om (by have:=X.size;simp;omega) ?_;intro v' w5 N J a7)
   have a2:La U w5:=(X.alloc (by have:=X.size;omega) _).grown J (by have:=X.size;simp;omega) (λj hj=>(Z.lt j hj).1)
   go_roundw
   case rel=>
    refine⟨k+1,by omega,by go_num,a2,?_⟩;unfold Ax;rw[As HX.out,Aj,List.length_append,HM.out];show w5.ownsRow U.heap.size 116 2 v' (m+1) (AV (((xs.take k).map λx=>(at_,x))++[(at_,x)]));rw[afo];exact N
   case measure=>simp[intOf];omega
  ·obtain rfl:k=lc xs:=by omega
   have hd:decide ((lc xs:Int)<(lc xs:Int))=M:=by simp
   rw[Hl]at Z;go_wp2;go_ret;exact⟨_,rfl,Go.Joins.ownsRow_le Z I.size,I.trans (X.mono I.size)⟩
theorem aih{B Ra U J wc:Nat}{fold:Bool}{wss:Lb}{lo X:Int}{a Y:Option Addr}(node at_:Int)(w:Wa)(h:MOK w B fold wss lo X Ra a U J Y wc)(Z:(Dz wss node).length<=1000000) :Calls ZP 244 #[L (E ⟨B,0,O⟩),R K node,R K at_] w λe w'=>∃v,e=ra v/\Ax w' w.heap.size v ((Dz wss node).map λx=>(at_,x))/\La w w':=aik _ node at_ _ w Z (λV N=>af6 node V (h.below N) Z)
theorem aer:∀(l:Lb)(k:Nat),∃N:Nat,l.foldl (λn w=>max n (lc w:Int)) (k:Int)=(N:Int)/\k<=N/\(∀y∈l,lc y<=N)/\∀MH,k<=MH->(∀y∈l,lc y<=MH)->N<=MH
 |[],k=>⟨k,rfl,AC _,λy Z=>by simp at Z,λMH h _=>h⟩
 |x::l,k=>by
  obtain⟨N,h1,h2,h3,h4⟩:=aer l (max k (lc x));refine⟨N,?_,by omega,λy Z=>?_,λMH hk Y=>h4 MH (by have:=Y x (List.mem_cons_self ..);omega) λy Z=>Y y (MT _ Z)⟩
  ·rw[List.foldl_cons,<-h1];congr 1;omega
  ·rcases CR.1 Z with rfl|Z
   ·omega
   ·exact h3 y Z
theorem acs(l:Lb):∃N:Nat,Au l=(N:Int)/\(∀y∈l,lc y<=N)/\∀MH,(∀y∈l,lc y<=MH)->N<=MH:=by obtain⟨N,h1,_,h3,h4⟩:=aer l 0;exact⟨N,h1,h3,λMH Z=>h4 MH (AR _) Z⟩
theorem arX(fold:Bool)(a:Option Addr)(I ca:Nat)(b:Option Addr)(U cb:Nat)(text:List Int)(wss:Lb)(w:Wa)(hA:Wds w a I wss)(hX:Bys w b U text)(aG:U<=cb)(aE:I<=1000000)(aD:U<=1000000)(hM:∀x∈wss,lc x<=1000000)(ak:wss.Nodup)(al:∀y∈wss,AO fold y=y) :Calls ZP 78 #[i8 (AM fold a I ca),T b U cb] w λe w'=>∃v,e=ra v/\Ax w' w.heap.size v ((DF wss (AO fold text)).map λx=>((U:Int),x))/\La w w':=by
 obtain⟨i0,hi,ax,aw,av⟩:=Vh IG;obtain⟨N,hN,aq,ar⟩:=acs wss;have aY:N<=1000000:=ar _ hM;obtain⟨W,hW⟩:∃W,W=w.alloc (i7 (AM fold a I ca) 24):=⟨_,rfl⟩;have hB:La w W:=by rw[hW];exact AL _ _
 have hO:Bx w.heap.size [i7 (AM fold a I ca) 24] W:=by rw[hW];exact(Bx.nil _ w).snoc _ rfl
 have s0:W.cell? ⟨w.heap.size,0,O⟩=E (i6 fold):=hO.cell (i:=0) rfl rfl;have s1:W.cell? ⟨w.heap.size,1,O⟩=E (T a I ca):=hO.cell (i:=0) rfl rfl;have az:w.heap.size<W.heap.size:=by rw[hW];simp
 have HS:Hid (∀V,La W V->V.cell? ⟨w.heap.size,0,O⟩=E (i6 fold)/\V.cell? ⟨w.heap.size,1,O⟩=E (T a I ca)/\w.heap.size<V.heap.size):=λV hV=>by have h:=hO.below hV;exact⟨h.cell (i:=0) rfl rfl,h.cell (i:=0) rfl rfl,Af az hV.size⟩
 have hl:=aga fold a I ca wss W (hA.below hB) aE;rw[hN]at hl;have HL:=AA hl;have aQ:=AA hA.len;have aJ:=AA hX.len;have HA:=AA (hA.below hB);have HX:=AA (hX.below hB);have HM:=AA hM;have aL:=AA aq;have aM:=AA ak;have aO:=AA al;obtain⟨x,hx⟩:∃x,AO fold text=x:=⟨_,rfl⟩;have aI:=AA hx;have aj:lc x=U:=by rw[<-hx,Ew];exact hX.len
 obtain⟨S,hS⟩:∃S,(DF wss x).map (λv=>((U:Int),v))=S:=⟨_,rfl⟩;have aX:lc S<=U:=by rw[<-hS,BP];have:=arY wss x;omega
 have aK:=AA hS;rw[hx,hS];have aU:=AA aj;clear hl hN ar hA hX hM aq ak al hx hS hO aj;go_enter func78,ntmps78;go_upto_region 1 with fail
 rw[<-hW];clear hW
 go_wp2_with (go_at_call 57;refine HL.out.mono ?_;rintro e w1 ⟨rfl,ap⟩)
 clear s0 s1 HL
 go_loopw[5,6] (λs5 s6 wr=>∃(n:Nat)(LO:List AF),n<=N/\s6=R K n/\Hid (LO++(Pp wss x n).map (λv=>((U:Int),v))=S)/\La W wr/\wr.ownsRow W.heap.size 116 2 s5 (lc LO) (AV LO)) (λ_ s _=>(intOf s).toNat)
 case atStart=>exact⟨N,[],AC _,rfl,by rw[Hid,Av,arZ aL.out];exact aK.out,ap,by simpa[AV]using BN w1 W.heap.size 116 2⟩
 case round=>
  clear ap;obtain⟨n,LO,hn,rfl,HP,Y,Z⟩:=hrel
  by_cases aB:0<n
  ·have hd:decide ((0:Int)<(n:Int))=G:=by simp;omega
   obtain⟨n',rfl⟩:∃n',n=n'+1:=⟨n-1,by omega⟩;have X:Hid (LO++(Po wss x (n'+1) 0).map (λv=>((U:Int),v))=S):=by rw[Hid,as1];exact HP.out
   obtain⟨n,A⟩:∃n,n'+1=n:=⟨_,rfl⟩;rw[A]at X hd aB hn;have a1:=AA A;have C:((n'+1:Nat):Int)=(n:Int):=by rw[A]
   rw[C];clear HP A C;go_wp2
   go_loopw[5,7] (λs5 s7 wr=>∃(k:Nat)(LO:List AF),k<=I/\s7=R K k/\Hid (LO++(Po wss x n k).map (λv=>((U:Int),v))=S)/\La W wr/\wr.ownsRow W.heap.size 116 2 s5 (lc LO) (AV LO)) (λ_ s _=>I-(intOf s).toNat)
   case atStart=>exact⟨0,LO,AR _,rfl,X,Y,Z⟩
   case round=>
    clear Y Z X;obtain⟨k,LO,hk,rfl,HP,Y,Z⟩:=hrel;have hL:lc LO<=1000000:=by have h:=congrArg List.length HP.out;rw[List.length_append]at h;omega
    obtain⟨g0,g1,g2⟩:=HS.out wr Y;have f0:∀d os,(grow (redrawn wr d) os).cell? ⟨w.heap.size,0,O⟩=E (i6 fold):=λd os=>((Vc wr d os).cell (p:=⟨w.heap.size,0,O⟩) g2).trans g0;have f1:∀d os,(grow (redrawn wr d) os).cell? ⟨w.heap.size,1,O⟩=E (T a I ca):=λd os=>((Vc wr d os).cell (p:=⟨w.heap.size,1,O⟩) g2).trans g1
    by_cases aC:k<I
    ·have aF:decide ((k:Int)<(I:Int))=G:=by simp;omega
     obtain⟨b1,o1,ay,ly,cy,y,rfl,ao,am,hy,hY,aT⟩:=(HA.out.below Y).at_ aC;have f2:∀d os,(grow (redrawn wr d) os).cell? ⟨b1,o1+k,O⟩=E (T ay ly cy):=λd os=>((Vc wr d os).cell (p:=⟨b1,o1+k,O⟩) ao).trans am;have i1:(0:Int)<=(k:Int):=by omega
     have i2:(k:Int)<(I:Int):=by omega
     have a6:=as4 aM.out hy x n;have a2:=HM.out y (AX hy);have ai:=hY.len;rw[ai]at a6 a2;have af:=AA a6;have ag:=AA Z;have D:=AA Y;obtain⟨B,ac⟩:∃B,decide (y <:+x)=B:=⟨_,rfl⟩;have ee:∀(V:Wa),La wr V->Calls ZP 105 #[i6 fold,T b U cb,R K (U:Int),T ay ly cy] V λe w'=>e=ra (i6 B)/\La V w':=λV hV=>by
      have h:=ao1 fold b ay U cb ly cy (U:Int) text y V (HX.out.below (Y.trans (hV.mono Y.size))) (hY.below hV) aG aD a2 om;have h2:=anm (aO.out y (AX hy)) text;rw[aJ.out,aI.out,ac]at h2
      rwa[h2]at h
     have EE:=AA ee;have au:=AA ac;clear hy hY a6 a2 ai Z Y ac ee am ao
     by_cases hn:ly=n
     ·subst hn
      cases B with
      |true=>
       have X:Hid ((LO++[((U:Int),(k:Int))])++(Po wss x ly (k+1)).map (λv=>((U:Int),v))=S):=by have h:=HP.out;rw[af.out,Lq ⟨rfl,Kf au.out⟩]at h;rw[Hid,CE];exact h
       go_upto_region 8 with fail
       refine wp_region_quiet_below mixed kr ?_
       repeat (go_big_quiet_step (exact Eu (EE.out _ (Vc wr _ _))))
       refine wpQuiet_nil ?_;rintro _ ⟨⟨dq,J⟩,rfl⟩;obtain⟨W8,ab⟩:∃W,W=grow (redrawn wr dq) J:=⟨_,rfl⟩;have aa:La wr W8:=by rw[ab];exact Vc wr dq J
       rw[<-ab];clear ab f0 f1 f2 g0 g1;have H:=DJ ag.out aa;have ae:=D.out.trans (aa.mono D.out.size);have aP:=AA ae;have aV:=ae.size;clear ae aa;obtain⟨m,hm⟩:∃m,lc LO=m:=⟨_,rfl⟩;rw[hm]at H hL;have aN:=AA hm;clear hm
       go_wp2_with (at_builtin;refine wpList_append_own _ rfl _ _ 69 rfl W.heap.size 116 i0 (i8 #[.int .i64 0,.int .i64 0]) 2 16 underlying69 hi ax aw av rfl (by decide) _ _ _ rfl (H.alloc _) ⟨W8.heap.size,0,O⟩ 1 1 [.int .i64 (U:Int),.int .i64 (k:Int)] rfl rfl (GI _ _ rfl) (by simp[Value.oneCell']) (by unfold maxLen;omega) om (by simp;omega) ?_;intro v' w5 a7 a8 aR)
       have aH:La W w5:=(aP.out.alloc om _).grown a8 (by simp;omega) (λj hj=>(H.lt j hj).1)
       go_roundw
       case rel=>
        refine⟨k+1,_,by omega,by go_num,X,aH,?_⟩;rw[List.length_append,aN.out,afo];exact a7
       case measure=>simp[intOf];omega
      |false=>
       have X:Hid (LO++(Po wss x ly (k+1)).map (λv=>((U:Int),v))=S):=by have h:=HP.out;rw[af.out,Lc (λhh=>of_decide_eq_false au.out hh.2)]at h;exact h
       go_upto_region 8 with fail
       refine wp_region_quiet_below mixed kr ?_
       repeat (go_big_quiet_step (exact Eu (EE.out _ (Vc wr _ _))))
       refine wpQuiet_nil ?_;rintro _ ⟨⟨dq,J⟩,rfl⟩;go_wp2
       go_roundw
       case rel=>exact⟨k+1,LO,by omega,by go_num,X,D.out.trans ((Vc wr dq J).mono D.out.size),DJ ag.out (Vc wr dq J)⟩
       case measure=>simp[intOf];omega
     ·have aS:((ly:Int)==(n:Int))=M:=by simp;omega
      have X:Hid (LO++(Po wss x n (k+1)).map (λv=>((U:Int),v))=S):=by have h:=HP.out;rw[af.out,Lc (λhh=>hn hh.1)]at h;exact h
      clear EE;go_upto_region 8 with fail
      refine wp_region_quiet_below mixed kr ?_
      repeat (go_big_quiet_step (fail))
      refine wpQuiet_nil ?_;rintro _ ⟨⟨dq,J⟩,rfl⟩;go_wp2
      go_roundw
      case rel=>exact⟨k+1,LO,by omega,by go_num,X,D.out.trans ((Vc wr dq J).mono D.out.size),DJ ag.out (Vc wr dq J)⟩
      case measure=>simp[intOf];omega
    ·have aF:decide ((k:Int)<(I:Int))=M:=by simp;omega
     have X:Hid (LO++(Pp wss x n').map (λv=>((U:Int),v))=S):=by have h:=HP.out;rw[<-a1.out,as9 (by rw[aQ.out];omega)]at h;exact h
     have aA:(n:Int)-1=(n':Int):=by have:=a1.out;omega
     have aW:(n:Int)<=1000000:=by omega
     go_wp2
     go_roundw
     case rel=>exact⟨n',LO,by have:=a1.out;omega,by simp only[aA],X,Y,Z⟩
     case measure=>have:=a1.out;simp[intOf];omega
  ·obtain rfl:n=0:=by omega
   have HF:Hid (LO=S):=by have h:=HP.out;rw[as2,DE,Cx]at h;exact h
   go_wp2;go_ret;exact⟨_,rfl,by rw[<-HF.out];exact Go.Joins.ownsRow_le Z hB.size,hB.trans (Y.mono hB.size)⟩
theorem amq{LO F:List Int}{m j c:Nat}{y:Int}(h:goD LO (m:Int) F (j:Int) c=E y)(V:lc LO=256)(X:c<256):∃v:Nat,LO[c]?=E (v:Int)/\v<m/\F[j*m+v]?=E y:=by
 obtain⟨v,Z⟩:∃v,LO[c]?=E v:=⟨LO[c]'om,by simp⟩;unfold goD at h;rw[Z,CG]at h
 split at h
 ·exact absurd h sm
 ·rename_i Y
  obtain⟨v,rfl⟩:∃k:Nat,v=(k:Int):=⟨v.toNat,by omega⟩;refine⟨v,Z,by omega,?_⟩;rw[show((j:Int)*(m:Int)+(v:Int)).toNat=j*m+v by rw[<-Iy];omega]at h;exact h
theorem ali(B Ra:Nat)(LO F:List Int)(m j c Z c0:Nat)(y n:Int)(fold:Bool)(H:Vk)(lo A:Int)(wd:Vk)(w:Wa)(h:Mc w B LO m n (T (E ⟨Ra,0,O⟩) Z c0) fold H lo A wd)(U:Sl1 (R K) w (E ⟨Ra,0,O⟩) Z F)(hn:Z<=1000000000)(hc:c<256)(N:goD LO (m:Int) F (j:Int) c=E y) :Calls ZP 272 #[L (E ⟨B,0,O⟩),R K (j:Int),.int .u8 (c:Int)] w λe w'=>e=ra (R K y)/\La w w':=by
 obtain⟨v,J,a1,V⟩:=amq N h.len hc;have c1:(j:Int)*(m:Int)=((j*m:Nat):Int):=(Iy _ _).symm;obtain⟨P,I⟩:∃P,j*m=P:=⟨_,rfl⟩;rw[I]at c1 V;have s:P+v<Z:=by have:=(AP.1 V).1;have:=U.1;omega
 obtain⟨b0,o0,x,e0,X,cx,Y⟩:=DG U s
 cases e0
 obtain rfl:x=y:=by have:=Y.symm.trans V;cases this;rfl
 obtain⟨D,s1,s2⟩:=Va (h.cls J) (Va h.cells.1 h.cells.2.2.1);have i1:(0:Int)<=(c:Int):=by omega
 have i2:(c:Int)<256:=by omega
 have l2:(0:Int)<=(P:Int)+(v:Int):=by omega
 have l3:(P:Int)+(v:Int)<(Z:Int):=by omega
 have e1:wrap64 ((j:Int)*(m:Int))=(P:Int):=by rw[c1];unfold wrap64;omega
 have hB:=h.lt;have f0:∀d os,(grow (redrawn w d) os).cell? ⟨B,c,O⟩=E (R K (v:Int)):=λd os=>((Vc w d os).cell (p:=⟨B,c,O⟩) hB).trans D;have f1:∀d os,(grow (redrawn w d) os).cell? ⟨B,256,O⟩=E (R K (m:Int)):=λd os=>((Vc w d os).cell (p:=⟨B,256,O⟩) hB).trans s1;have f2:∀d os,(grow (redrawn w d) os).cell? ⟨B,258,O⟩=E (T (E ⟨Ra,0,O⟩) Z c0):=λd os=>((Vc w d os).cell (p:=⟨B,258,O⟩) hB).trans s2;have f3:∀d os,(grow (redrawn w d) os).cell? ⟨Ra,0+(P+v),O⟩=E (R K x):=λd os=>((Vc w d os).cell (p:=⟨Ra,0+(P+v),O⟩) X).trans cx;simp only[DD]at f3;clear I U V Y N J h X hB;go_enter func272,ntmps272
 go_wp2_with fail
 refine wp_region_quiet_below mixed kr ?_
 repeat (go_big_quiet_step (fail))
 refine wpQuiet_nil ?_;rintro _ ⟨⟨dq,C⟩,rfl⟩;go_wp2;go_ret;exact⟨rfl,Vc _ _ _⟩
theorem ajh(B Ra:Nat)(LO F:List Int)(m j c Z c0:Nat)(y n:Int)(fold:Bool)(Y:Vk)(lo X:Int)(wd:Vk)(w:Wa)(h:Mc w B LO m n (T (E ⟨Ra,0,O⟩) Z c0) fold Y lo X wd)(J:Sl1 (R K) w (E ⟨Ra,0,O⟩) Z F)(I:Z<=1000000000)(D:c<256)(H:(j:Int)<n)(N:goD LO (m:Int) F (j:Int) c=E y) :Calls ZP 243 #[L (E ⟨B,0,O⟩),R K (j:Int),.int .u8 (c:Int)] w λe w'=>e=ra (ta #[R K y,i6 G])/\La w w':=by
 have C:=AA (ali B Ra LO F m j c Z c0 y n fold Y lo X wd w h J I D N);have V:=Nk B LO m n (T (E ⟨Ra,0,O⟩) Z c0) fold Y lo X wd j w h;rw[show decide (0<=(j:Int)/\(j:Int)<n)=G by simp;omega]at V;have A:=AA V;clear V h J N H;go_enter func243,ntmps243
 go_wp2_with (first
  |(go_at_call 271;refine A.out.mono ?_;rintro e w4 ⟨rfl,rfl⟩)
  |(go_at_call 272;refine C.out.mono ?_;rintro e w4 ⟨rfl,U⟩))
 go_ret2;exact⟨rfl,U⟩
theorem ah4(B:Nat)(LO:List Int)(m n:Int)(row:Vk)(fold:Bool)(Y:Vk)(lo X:Int)(wd:Vk)(j:Int)(c:Nat)(w:Wa)(h:Mc w B LO m n row fold Y lo X wd)(V:j<0∨n<=j) :Calls ZP 243 #[L (E ⟨B,0,O⟩),R K j,.int .u8 (c:Int)] w λe w'=>e=ra (ta #[R K 0,i6 M])/\w=w':=by
 have Z:=Nk B LO m n row fold Y lo X wd j w h;rw[show decide (0<=j/\j<n)=M by simp;omega]at Z;have U:=AA Z;clear Z h V;go_enter func243,ntmps243
 go_wp2_with (go_at_call 271;refine U.out.mono ?_;rintro e w4 ⟨rfl,rfl⟩)
 go_ret2;exact⟨rfl,rfl⟩
theorem ahN{B Ra J C wc:Nat}{fold:Bool}{wss:Lb}{lo Z:Int}{a N:Option Addr}(node:Int)(c:Nat)(w:Wa)(h:MOK w B fold wss lo Z Ra a J C N wc)(Y:OkT fold wss)(H:Ah fold wss*(AB wss).length<=1000000000)(U:c<256) :Calls ZP 243 #[L (E ⟨B,0,O⟩),R K node,.int .u8 (c:Int)] w λe w'=>e=ra (apk (goD (BF fold wss) (Ah fold wss) (FN fold wss) node c))/\La w w':=by
 by_cases X:node<0∨((AB wss).length:Int)<=node
 ·rw[anF Y X];exact(ah4 B _ _ _ _ fold _ lo Z _ node c w h.mc X).mono λe w' ⟨h1,h2⟩=>⟨h1,by rw[<-h2];exact AH _ _⟩
 ·obtain⟨j,rfl⟩:∃k:Nat,node=(k:Int):=⟨node.toNat,by omega⟩;obtain⟨x,I⟩:∃x,(AB wss)[j]?=E x:=⟨(AB wss)[j]'om,by simp⟩;have V:=aju Y I U;rw[V];have D:Sl1 (R K) w (E ⟨Ra,0,O⟩) (Ah fold wss*(AB wss).length) (FN fold wss):=by
   rw[<-OZ Y];exact h.row.sl1
  exact ajh B Ra _ _ _ j c _ _ _ _ fold _ lo Z _ w h.mc D H U om V
theorem af2(B:Nat)(LO:List Int)(m n:Int)(row:Vk)(fold:Bool)(Z:Vk)(lo Y:Int)(wd:Vk)(w:Wa)(h:Mc w B LO m n row fold Z lo Y wd) :Calls ZP 269 #[L (E ⟨B,0,O⟩)] w λe w'=>e=ra (R K n)/\w=w':=by have c5:=h.cells.2.1;clear h;go_enter func269,ntmps269;go_wp2;go_ret;exact⟨rfl,rfl⟩
theorem ad1(B:Nat)(LO:List Int)(m n:Int)(row:Vk)(fold:Bool)(Z:Vk)(lo Y:Int)(wd:Vk)(w:Wa)(h:Mc w B LO m n row fold Z lo Y wd) :Calls ZP 95 #[L (E ⟨B,0,O⟩)] w λe w'=>e=ra (R K lo)/\w=w':=by have c5:=h.cells.2.2.2.2.2.1;clear h;go_enter func95,ntmps95;go_wp2;go_ret;exact⟨rfl,rfl⟩
theorem aqH{w:Wa}{n:Nat}(l:List AF)(Y:∀h∈l,I64 h.1/\I64 h.2)(h:w.heap.size=n):Hts (w.alloc (i7 (AV l).toArray 116)) (E ⟨n,0,O⟩) (lc l) l:=by
 refine⟨⟨GF l,.inr ⟨n,0,rfl,by simp[h],λi u Z=>?_⟩⟩,Y⟩;have:=GI (w:=w) (AV l).toArray 116 h i u (by simpa using Z)
 rwa[Cf]at this
structure ET(W0:World)(B:Nat)(fold:Bool)(wss:Lb)(V:World):Prop where
 ex:∃(R la ca wc:Nat)(a wa:Option Addr),MOK V B fold wss (Au wss) ((Dm wss (AB wss).length:Nat):Int) R a la ca wa wc/\la<=1000000
 ok:OkT fold wss
 tab:Ah fold wss*(AB wss).length<=1000000000
 len:∀x∈wss,x.length<=1000000
 nod:(AB wss).length<=1000000
 bel:La W0 V
section
variable {W0 V V':Wa}{B:Nat}{fold:Bool}{wss:Lb}
theorem ET.below(h:ET W0 B fold wss V)(Z:La V V'):ET W0 B fold wss V':=by obtain⟨⟨Ra,X,U,wc,a,Y,h1,h2⟩,h3,h4,h5,h6,h7⟩:=h;exact⟨⟨Ra,X,U,wc,a,Y,h1.below Z,h2⟩,h3,h4,h5,h6,h7.trans (Z.mono h7.size)⟩
theorem ah9(wss:Lb)(node:Int)(h:(AB wss).length<=1000000):(Dz wss node).length<=1000000:=by
 unfold Dz
 split
 ·have:=LL wss node.toNat;omega
 ·simp
theorem ET.step(h:ET W0 B fold wss V)(node:Int)(c:Nat)(Z:c<256) :Calls ZP 243 #[L (E ⟨B,0,O⟩),R K node,.int .u8 (c:Int)] V λe w'=>e=ra (apk (goD (BF fold wss) (Ah fold wss) (FN fold wss) node c))/\La V w':=by obtain⟨⟨Ra,X,U,wc,a,Y,h1,h2⟩,h3,h4,h5,h6,h7⟩:=h;exact ahN node c V h1 h3 h4 Z
theorem ET.hits(h:ET W0 B fold wss V)(node at_:Int)(Y:I64 at_)(Z:∀x∈Dz wss node,I64 x) :Calls ZP 244 #[L (E ⟨B,0,O⟩),R K node,R K at_] V λe w'=>∃(a:Option Addr)(c:Nat),e=ra (T a (Dz wss node).length c)/\Hts w' a (Dz wss node).length ((Dz wss node).map λx=>(at_,x))/\Ax w' V.heap.size (T a (Dz wss node).length c) ((Dz wss node).map λx=>(at_,x))/\La V w':=by
 obtain⟨⟨Ra,D,A,wc,a,H,h1,h2⟩,h3,h4,h5,h6,h7⟩:=h;refine(aih node at_ V h1 (ah9 wss node h6)).mono ?_;rintro e w' ⟨v,rfl,ho,J⟩;obtain⟨I,c1,rfl,C,X⟩:=Ax.hts ho (λh N=>by obtain⟨x,U,rfl⟩:=Be.1 N;exact⟨Y,Z x U⟩)
 rw[BP]at X ho⊢;exact⟨I,c1,rfl,X,ho,J⟩
theorem ET.states(h:ET W0 B fold wss V) :Calls ZP 269 #[L (E ⟨B,0,O⟩)] V λe w'=>e=ra (R K ((AB wss).length:Int))/\V=w':=by obtain⟨⟨Ra,Y,X,wc,a,Z,h1,h2⟩,h3,h4,h5,h6,h7⟩:=h;exact af2 B _ _ _ _ _ _ _ _ _ V h1.mc
theorem ET.longest(h:ET W0 B fold wss V) :Calls ZP 95 #[L (E ⟨B,0,O⟩)] V λe w'=>e=ra (R K (Au wss))/\V=w':=by obtain⟨⟨Ra,Y,X,wc,a,Z,h1,h2⟩,h3,h4,h5,h6,h7⟩:=h;exact ad1 B _ _ _ _ _ _ _ _ _ V h1.mc
end
structure Hj(q B:Nat)(fold:Bool)(wss:Lb)(V:World):Prop where
 ex:∃(R la ca wc:Nat)(a wa:Option Addr),MOK V B fold wss (Au wss) ((Dm wss (AB wss).length:Nat):Int) R a la ca wa wc/\la<=1000000/\Il q V B R a la ca wss wa
 ok:OkT fold wss
 tab:Ah fold wss*(AB wss).length<=1000000000
 len:∀x∈wss,x.length<=1000000
 nod:(AB wss).length<=1000000
theorem Hj.kept{q B:Nat}{fold:Bool}{wss:Lb}{V V':Wa}(h:Hj q B fold wss V)(hk:EF q V V'):Hj q B fold wss V':=by obtain⟨⟨Ra,Y,X,wc,a,Z,h1,h2,h8⟩,h3,h4,h5,h6⟩:=h;exact⟨⟨Ra,Y,X,wc,a,Z,h8.mok hk h1,h2,h8.kept hk⟩,h3,h4,h5,h6⟩
theorem Hj.use{q B:Nat}{fold:Bool}{wss:Lb}{V:Wa}(h:Hj q B fold wss V):ET V B fold wss V:=by obtain⟨⟨Ra,Y,X,wc,a,Z,h1,h2,h8⟩,h3,h4,h5,h6⟩:=h;exact⟨⟨Ra,Y,X,wc,a,Z,h1,h2⟩,h3,h4,h5,h6,AH _ _⟩
theorem adn(fold:Bool)(a:Option Addr)(Z D:Nat)(wss:Lb)(w:Wa)(H:Wds w a Z wss)(Y:Z<=1000000)(I:∀x∈wss,lc x<=1000000)(j:(Ad fold wss).length<=1000000)(X:An fold wss=G) :Calls ZP 52 #[i8 (AM fold a Z D)] w λe w'=>∃B,e=ra (ta #[L (E ⟨B,0,O⟩),R K 0])/\Hj w.heap.size B fold wss w'/\La w w':=by have N:=okT X (λx A c s=>H.bytes x A c s);have U:(AB wss).length<=400:=Hx (Fy.2 ⟨IY X,rfl,rfl⟩);have v:Ah fold wss<=257:=(Hb _ _ _).2;refine(ad6 fold a Z D wss w H Y I j X).mono ?_;rintro e w' ⟨B,Ra,J,wc,a',C,h1,h2,h3,h4⟩;exact⟨B,h1,⟨⟨Ra,Z,J,wc,a',C,h2,Y,h4⟩,N,AS (GR v U) om,I,by omega⟩,h3⟩
theorem al3{fold:Bool}{text Z:List Int}{at_ p:Nat}(X:p<=at_)(ha:at_<=lc text):atL fold (text.take at_) p Z=atL fold text p Z:=by
 unfold atL;rw[Ag,Nat.min_eq_left ha,Aa];have e:((text.take at_).drop (p-(lc Z))).take (lc Z)=(text.drop (p-(lc Z))).take (lc Z)∨¬(lc Z:Int)<=p:=by
  by_cases Y:lc Z<=p
  ·left
   rw[List.drop_take,List.take_take,Nat.min_eq_left om]
  ·right;omega
 rcases e with e|e
 ·rw[e];congr 2;simp;omega
 ·rw[decide_eq_false om,decide_eq_false om]
  rfl
theorem af7{fold:Bool}{wss:Lb}{text:List Int}{at_ p k:Nat}(Z:p<=at_)(ha:at_<=lc text):FP fold wss (text.take at_) p k=FP fold wss text p k:=al3 Z ha
theorem KY{ws:Lb}(Z:ws.Nodup)(h0:∀y∈ws,lc y≠0){v:Int}:∀{b:List Int},v∈DF ws b↔∃(k:Nat)(y:List Int),ws[k]?=E y/\y <:+b/\v=(k:Int)
 |[]=>by
  constructor
  ·intro h;exact absurd h (by simp[DF])
  ·rintro⟨k,y,hk,X,_⟩;rw[List.suffix_nil]at X;subst X;exact absurd rfl (h0 [] (AX hk))
 |c::b=>by
  have V:=KY Z h0 (v:=v) (b:=b);rw[Od,Bf,V]
  constructor
  ·rintro(h|⟨k,y,h1,h2,h3⟩)
   ·by_cases Y:(c::b)∈ws
    ·rw[Lq Y,Fq]at h;obtain⟨k,hk⟩:=DR Y;exact⟨k,_,hk,List.suffix_refl _,by rw[h,CV Z hk]⟩
    ·rw[Lc Y]at h;simp at h
   ·exact⟨k,y,h1,List.suffix_cons_iff.2 (.inr h2),h3⟩
  ·rintro⟨k,y,h1,h2,h3⟩
   rcases List.suffix_cons_iff.1 h2 with rfl|h2
   ·left
    rw[Lq (AX h1),Fq,h3,CV Z h1]
   ·exact .inr ⟨k,y,h1,h2,h3⟩
theorem ajQ{ws:Lb}{k:Nat}{y:List Int}(h:ws[k]?=E y):Bt ws (k:Int)=(lc y:Int):=by have:=(AP.1 h).1;unfold Bt;rw[Lq ⟨by omega,by omega⟩,Aa,h,CG]
theorem aeR{ws:Lb}(Y:ws.Nodup)(h0:∀y∈ws,lc y≠0)(p:Int):∀b:List Int,((DF ws b).map λv=>((p,v):AF)).Pairwise (λa b=>BD ws a b=G)
 |[]=>by simp[DF]
 |c::b=>by
  rw[Od,Aj,List.pairwise_append];refine⟨?_,aeR Y h0 p b,λx Z y V=>?_⟩
  ·split<;>simp
  ·by_cases X:(c::b)∈ws
   ·rw[Lq X]at Z;obtain⟨k,hk⟩:=DR X;rw[CV Y hk,List.map_singleton,Fq]at Z;obtain⟨v,U,rfl⟩:=Be.1 V;obtain⟨j,z,h1,h2,rfl⟩:=(KY Y h0).1 U;subst Z;refine Gd.2 (.inr ⟨rfl,.inl ?_⟩);rw[ajQ hk,ajQ h1];have:=h2.length_le;rw[Ao];omega
   ·rw[Lc X]at Z;simp at Z
section
variable {fold:Bool}{ws:Lb}
theorem acN(Z:∀y∈ws,AO fold y=y){text:List Int}{p k:Nat}{y:List Int}(Y:ws[k]?=E y)(X:p<=lc text):FP fold ws text p k=decide (y <:+AO fold (text.take p)):=by rw[<-af7 (AC p) X];unfold FP;rw[Y,CG];have h:=anm (Z y (AX Y)) (text.take p);rw[Ag,Nat.min_eq_left X]at h;exact h
theorem agq(Y:ws.Nodup)(h0:∀y∈ws,lc y≠0)(Z:∀y∈ws,AO fold y=y)(frm:Int)(text:List Int){p:Nat}(X:p<=lc text) :Do fold ws frm text p (lc ws)=(DF ws (AO fold (text.take p))).map λv=>(frm+p,v):=by
 refine abV (abx fold ws frm text p _) (aeR Y h0 _ _) λx=>?_;rw[Na,Be]
 constructor
 ·rintro⟨k,h1,h2,rfl⟩;have hk:ws[k]?=E ws[k]:=Ar h1;rw[acN Z hk X]at h2;exact⟨_,(KY Y h0).2 ⟨k,_,hk,Kf h2,rfl⟩,rfl⟩
 ·rintro⟨v,V,rfl⟩;obtain⟨k,y,h1,h2,rfl⟩:=(KY Y h0).1 V;exact⟨k,(AP.1 h1).1,by rw[acN Z h1 X];exact Vb h2,rfl⟩
def Cd(ws:Lb)(x:List Int)(at_:Int):List Int->List AF
 |[]=>[]
 |c::b=>(DF ws (x++[c])).map (λv=>((at_+1,v):AF))++Cd ws (x++[c]) (at_+1) b
theorem aa8(x:List Int)(at_:Int):∀(b d:List Int),Cd ws x at_ (b++d)=Cd ws x at_ b++Cd ws (x++b) (at_+lc b) d
 |[],d=>by simp[Cd]
 |c::b,d=>by have Z:=aa8 (x++[c]) (at_+1) b d;simp only[CT,Cd,Z,CE,Ao,List.singleton_append,Av,LK,Int.natCast_one];rw[show at_+1+(lc b:Int)=at_+((lc b:Int)+1) by omega]
theorem amt(V:ws.Nodup)(h0:∀y∈ws,lc y≠0)(Z:∀y∈ws,AO fold y=y)(frm:Int)(text:List Int):EL fold ws frm text=Cd ws [] frm (AO fold text):=by
 have Y:∀n,n<=lc text->Et fold ws frm text (n+1)=Cd ws [] frm (AO fold (text.take n)):=by
  intro n
  induction n with
  |zero=>
   intro _;rw[NU,agq V h0 Z frm text (AR _)];have e:AO fold []=[]:=by rw[Fg];rfl
   simp[Et,e,Cd,DF]
  |succ n ih=>
   intro X;rw[NU,ih om,agq V h0 Z frm text X];obtain⟨c,N⟩:∃c,text[n]?=E c:=⟨text[n]'om,by simp⟩;have e:text.take (n+1)=text.take n++[c]:=by rw[LH,N];rfl
   have e2:AO fold (text.take n++[c])=AO fold (text.take n)++AO fold [c]:=by simp only[Fg,Aj]
   obtain⟨d,U⟩:∃d,AO fold [c]=[d]:=⟨_,by rw[Fg];rfl⟩;rw[e,e2,U,aa8];simp only[Cd,Cx,Av];rw[Ew,Ag,Nat.min_eq_left om];congr 2
   funext v
   rw[show frm+((n:Int))+1=frm+((n+1:Nat):Int) by omega]
 have h:=Y (lc text) (AC _)
 rwa[Hl]at h
theorem akH(x:List Int):∀y:List Int,lsf (AB ws) (lsf (AB ws) x++y)=lsf (AB ws) (x++y):=by
 intro y
 induction y generalizing x with
 |nil=>
  rw[Cx,Cx];exact Lu (Id (AX (CM ws)) x)
 |cons c y ih=>
  rw[show lsf (AB ws) x++c::y=(lsf (AB ws) x++[c])++y by simp,show x++c::y=(x++[c])++y by simp];rw[<-ih (lsf (AB ws) x++[c]),<-(alt x c).2.2,ih (x++[c])]
theorem am0(h0:[] ∉ ws)(x y:List Int):DF ws (lsf (AB ws) x++y)=DF ws (x++y):=by rw[<-LU h0 (lsf (AB ws) x++y),akH,LU h0]
theorem ajd(h0:[] ∉ ws):∀(b:List Int)(x:List Int)(at_:Int),Cd ws (lsf (AB ws) x) at_ b=Cd ws x at_ b:=by
 have Z:∀(b x u:List Int)(at_:Int),Cd ws (lsf (AB ws) x++u) at_ b=Cd ws (x++u) at_ b:=by
  intro b
  induction b with
  |nil=>intros;rfl
  |cons c b ih=>
   intro x u at_;have:=ih x (u++[c]) (at_+1);simp only[Cd,CE,am0 h0];rw[this]
 intro b x at_;have:=Z b x [] at_
 rwa[Cx,Cx]at this
end
def EN(fold:Bool)(ws:Lb)(z:Nat)(c:Int):Nat:=(KT ws (lsf (AB ws) (((AB ws)[z]?).getD []++[fcB fold c]))).toNat
def Bp(fold:Bool)(ws:Lb)(z:Nat)(b:List Int):Nat:=b.foldl (EN fold ws) z
def BQ(fold:Bool)(ws:Lb):Nat->Int->List Int->List AF
 |_,_,[]=>[]
 |z,at_,c::b=>(CA ws (EN fold ws z c)).map (λv=>((at_+1,v):AF))++BQ fold ws (EN fold ws z c) (at_+1) b
section
variable {fold:Bool}{ws:Lb}
theorem aiN(z:Nat):Bp fold ws z []=z:=rfl
theorem acj(z:Nat)(c:Int)(b:List Int):Bp fold ws z (c::b)=Bp fold ws (EN fold ws z c) b:=rfl
theorem No(z:Nat)(b d:List Int):Bp fold ws z (b++d)=Bp fold ws (Bp fold ws z b) d:=by simp[Bp,FI]
theorem JE(z:Nat)(at_:Int):∀(b d:List Int),BQ fold ws z at_ (b++d)=BQ fold ws z at_ b++BQ fold ws (Bp fold ws z b) (at_+lc b) d
 |b,d=>by
  induction b generalizing z at_ with
  |nil=>simp[BQ,Bp]
  |cons c b ih=>
   simp only[CT,BQ,acj,ih,CE,Ao,LK,Int.natCast_one];rw[show at_+1+(lc b:Int)=at_+((lc b:Int)+1) by omega]
theorem KU{z:Nat}{x:List Int}(Z:(AB ws)[z]?=E x)(c:Int):(AB ws)[EN fold ws z c]?=E (lsf (AB ws) (x++[fcB fold c]))/\KT ws (lsf (AB ws) (x++[fcB fold c]))=(EN fold ws z c:Int):=by obtain⟨j,h1,h2,h3⟩:=anI (Id (AX (CM ws)) (x++[fcB fold c]));unfold EN;rw[Z,CG,h2,Aa];exact⟨h1,rfl⟩
theorem adr{z:Nat}{x:List Int}(Z:(AB ws)[z]?=E x):∀b:List Int,(AB ws)[Bp fold ws z b]?=E (lsf (AB ws) (x++AO fold b)):=by
 intro b
 induction b generalizing z x with
 |nil=>
  rw[aiN,show AO fold []=[] by rw[Fg];rfl,Cx,Z,Lu (AX Z)]
 |cons c b ih=>
  rw[acj,ih (KU Z c).1,akH,Nm,Nm,BO,CE]
  rfl
theorem JY{z:Nat}(Z:z<(AB ws).length)(b:List Int):Bp fold ws z b<(AB ws).length:=(AP.1 (adr (Ar Z) b)).1
theorem ahP(h0:∀y∈ws,lc y≠0)(b:List Int):∀{z:Nat}{x:List Int}(at_:Int),(AB ws)[z]?=E x->BQ fold ws z at_ b=Cd ws x at_ (AO fold b):=by
 have Z:[] ∉ ws:=λX=>h0 [] X rfl
 induction b with
 |nil=>intros;rw[show AO fold []=[] by rw[Fg];rfl];rfl
 |cons c b ih=>
  intro z x at_ Y;have h1:=(KU (fold:=fold) Y c).1;have e:AO fold (c::b)=fcB fold c::AO fold b:=by rw[Nm,Nm];rfl
  rw[e];simp only[BQ,Cd];rw[ih _ h1,OU h0 h1,ajd Z,LU Z]
end
theorem afY{wss:Lb}(V:lc wss<=1000000)(X:wss.Nodup)(h0:∀x∈wss,lc x≠0)(node:Int):∀v∈Dz wss node,I64 v:=by
 intro v Z;unfold Dz at Z
 split at Z
 ·obtain⟨x,Y⟩:∃x,(AB wss)[node.toNat]?=E x:=⟨_,Ar om⟩;rw[OU h0 Y,KY X h0]at Z;obtain⟨k,y,h1,_,rfl⟩:=Z;have:=(AP.1 h1).1;unfold I64;omega
 ·simp at Z
section
attribute[local go_sem] Oper.semAt_some
attribute[local simp] Ak Al
attribute[local go_sem] Ak Al
theorem afL{Z:Lb}{i:Nat}{x:List Int}(h:Z[i]?=E x)(j:Nat):(Z.take i).flatten++x.take j <+: Z.flatten:=by
 have e:Z=Z.take i++x::Z.drop (i+1):=by obtain⟨Y,rfl⟩:=AP.1 h;rw[<-List.drop_eq_getElem_cons Y,Dx]
 have e2:Z.flatten=(Z.take i).flatten++(x++(Z.drop (i+1)).flatten):=by
  conv=>lhs;rw[e]
  simp
 rw[e2];exact(List.prefix_append_right_inj _).2 ((List.take_prefix j x).trans (List.prefix_append _ _))
theorem af4{Z:Lb}{i:Nat}{x:List Int}(h:Z[i]?=E x):(Z.take (i+1)).flatten=(Z.take i).flatten++x:=by rw[As h];simp
end
section
attribute[local go_sem] Oper.semAt_some
attribute[local simp] Ak Al
attribute[local go_sem] Ak Al
def KA(n:Nat)(z at_:Int):Bool:=decide ((0<=z/\z<(n:Int))/\0<=at_/\at_<=4611686020574871551)
end
section
attribute[local go_sem] Oper.semAt_some
attribute[local simp] Ak Al
attribute[local go_sem] Ak Al
def amS(b base:Nat)(l:List AF)(W:Wa):Prop:=∃v,Boxed W b 69 v/\Ax W base v l
theorem aho{Z:Lb}{i:Nat}{x:List Int}(h:Z[i]?=E x):(Z.take (i+1)).flatten.length=(Z.take i).flatten.length+lc x/\(Z.take (i+1)).flatten.length<=lc Z.flatten:=by have h1:=(afL h (lc x)).length_le;rw[Ap (AC _),List.length_append]at h1;rw[af4 h,List.length_append];exact⟨rfl,h1⟩
end
theorem Mx{fold:Bool}{ws:Lb}:∀(b:List Int)(z:Nat)(at_:Int),z<(AB ws).length->(BQ fold ws z at_ b).length<=(AB ws).length*lc b
 |[],z,at_,_=>by simp[BQ]
 |c::b,z,at_,hz=>by have Z:(AB ws)[z]?=E (AB ws)[z]:=Ar hz;have Y:=(AP.1 (KU (fold:=fold) Z c).1).1;have X:=Mx (fold:=fold) b (EN fold ws z c) (at_+1) Y;have h9:=LL ws (EN fold ws z c);simp only[BQ,List.length_append,BP,Ao];rw[Nat.mul_succ];omega
theorem act(a:Option Addr)(n cn:Nat)(Z:Lb)(w:Wa)(D:Wds w a n Z)(hn:n<=1000000)(hT:lc Z.flatten<=1000000000) :Calls ZP 12 #[T a n cn] w λe w'=>∃(B:Option Addr)(c1:Nat),e=ra (T B (lc Z.flatten) c1)/\lc Z.flatten<=c1/\Bys w' B (lc Z.flatten) Z.flatten/\La w w':=by
 obtain⟨iU,hj,a6,a2,A⟩:=Vh Gs;have ae:=AA D.len;have HC:=AA D;have H:∀x∈Z.flatten,0<=x/\x<=255:=λx V=>by obtain⟨l,hl,V⟩:=List.mem_flatten.1 V;exact D.bytes l hl x V
 have af:=AA H;clear D H;go_enter func12,ntmps12;go_wp2
 go_loopw[3,4] (λv s4 wr=>∃i:Nat,i<=n/\s4=R K (i:Int)/\Hid (La w wr)/\Ch wr w.heap.size v (Z.take i).flatten.length (Z.take i).flatten) (λ_ s _=>n-(intOf s).toNat)
 case atStart=>exact⟨0,AR _,rfl,AH _ _,BN _ _ _ _⟩
 case round=>
  obtain⟨i,hi,rfl,X,Y⟩:=hrel
  by_cases a7:i<n
  ·have hd:decide ((i:Int)<(n:Int))=G:=by simp;omega
   obtain⟨bb,off,a',lx,cx,x,rfl,ag,a8,V,hX,ai⟩:=(HC.out.below X.out).at_ a7;obtain⟨C,g2⟩:=aho V;have J:=hX.len;rw[J]at C;have i1:(0:Int)<=(i:Int):=by omega
   have i2:(i:Int)<(n:Int):=by omega
   obtain⟨k,hk⟩:∃k:Nat,(Z.take i).flatten.length=k:=⟨_,rfl⟩;rw[hk]at C Y;have HX:=AA V;have HK:=AA hk;have ab:=AA C;have aj:k+lx<=1000000000:=by omega
   have I:w.heap.size<=wr.heap.size:=X.out.size;clear V hk C g2 J
   go_wp2_with (at_builtin;refine Mf rfl _ _ 32 rfl JB w.heap.size 5 iU (.int .u8 0) 1 underlying32 hj a6 a2 A rfl _ k _ rfl Y a' lx cx x rfl hX.1 (by unfold maxLen;omega) om I ?_;intro v' w5 U N ak)
   have aa:La w w5:=X.out.grown N I (λj hj=>(Y.lt j hj).1)
   go_roundw
   case rel=>
    refine⟨i+1,by omega,by go_num,aa,?_⟩;unfold Ch;rw[ab.out,af4 HX.out,Aj];exact U
   case measure=>simp[intOf];omega
  ·obtain rfl:n=i:=by omega
   have hd:decide ((n:Int)<(n:Int))=M:=by simp
   have ac:Hid ((Z.take n).flatten=Z.flatten):=by rw[Hid,Ap (by rw[ae.out];exact AC _)]
   rw[ac.out]at Y;obtain⟨B,c1,rfl,hc,hs⟩:=KL Y af.out;go_wp2;go_ret;exact⟨B,c1,rfl,hc,hs,X.out⟩
theorem My{fold:Bool}{ws:Lb}(U:ws.Nodup)(h0:∀y∈ws,lc y≠0):∀(b:List Int)(z:Nat)(at_:Int),z<(AB ws).length->∀h∈BQ fold ws z at_ b,(at_<h.1/\h.1<=at_+lc b)/\0<=h.2/\h.2<(lc ws:Int)
 |[],z,at_,_,h,Z=>by simp[BQ]at Z
 |c::b,z,at_,hz,h,Z=>by
  have N:(AB ws)[z]?=E (AB ws)[z]:=Ar hz;have Y:=(KU (fold:=fold) N c).1;have X:=(AP.1 Y).1;simp only[BQ,Bf,Be]at Z;rw[Ao]
  rcases Z with⟨v,V,rfl⟩|Z
  ·rw[OU h0 Y,KY U h0]at V;obtain⟨k,y,h1,_,rfl⟩:=V;have:=(AP.1 h1).1;dsimp only;omega
  ·have:=My U h0 b _ (at_+1) X h Z;omega
theorem abE{fold:Bool}{wss:Lb}(Z:An fold wss=G):(AB wss).length<=1000/\∀(node:Int),∀v∈Dz wss node,I64 v:=by have h1:(AB wss).length<=400:=Hx (Fy.2 ⟨IY Z,rfl,rfl⟩);obtain⟨V,_,X,_⟩:=EI Z;exact⟨by omega,λnode=>afY om (Fv Z).1 (λx Y=>(X x Y).1) node⟩
section
open Go.ChangeShapes Go.WideShapes Go.ChangeAt Go.RowKit Go.Joins Go.Deep
section
variable {H:Type}{enc:TypeId×Vk->H}{W:Wa}{r:Reach}{base:Nat}{d:DataW H}{p:List MemPlace}{v:Vk}
theorem afu{C:Nat}{v:Vk}{x:DataW H×List MemPlace}(hf:DataW.trod enc ZP W 0 (λ_=>G) G C 27 [v]=E x) :∃(a:Option Addr)(len cap:Nat)(zs:List Bool),v=T a len cap/\Sl1 i6 W a len zs/\len<=cap/\cap<=maxLen:=by
 rcases open_slice underlying27 hf with⟨Z,_⟩|⟨x,l,c,m,n,D,Pl,Z,_,hl,hm,U,_,X⟩
 ·simp at Z;exact⟨O,0,0,[],Z,⟨rfl,.inl rfl⟩,AC _,by unfold maxLen;omega⟩
 ·simp at Z;simp only[if_true]at U;subst U;rw[aaL]at X;have Y:∀i,i<m->∃q:Bool,W.cell? ((x.add (i*1)).add 0)=E (i6 q):=by
   intro i s;obtain⟨a1,B,ht⟩:=X i s;obtain⟨_,N,j⟩:=World.cells?_some B
   match a1,N with
   |[c0],_=>
    obtain⟨q,e,_⟩:=DataW.trod_bool underlying4 ht;simp at e;exact⟨q,by rw[<-e];exact j 0 sm⟩
  let f:Nat->Bool:=λi=>if X:i<m then Classical.choose (Y i X) else M
  have I:∀i,i<m->W.cell? ((x.add (i*1)).add 0)=E (i6 (f i)):=by
   intro i X;have e:f i=Classical.choose (Y i X):=by simp only[f,dif_pos X]
   rw[e];exact Classical.choose_spec (Y i X)
  refine⟨E x,l,_,(List.range l).map f,Z,⟨by simp,?_⟩,hl,hm⟩
  by_cases h0:l=0
  ·exact .inl h0
  ·right
   have a2:=hl;obtain⟨b,off,V⟩:=x;have B:=I 0 om;obtain rfl:V=O:=by simpa[Addr.add]using World.cell?_spot B
   refine⟨b,off,rfl,?_,λi u A=>?_⟩
   ·have:=DO W _ B
    rwa[Cf,Cf]at this
   ·have J:=(AP.1 A).1;simp at J;have:=I i om;rw[Cf,Cf,Hk,DQ]at this;simp[J]at A;rw[this,A]
theorem aqA(Y:Value.okWide ZP W r base 27 v)(h:DataW.Trod enc ZP W 0 (λ_=>G) G 27 v d p) :∃(a:Option Addr)(len cap:Nat)(zs:List Bool),v=T a len cap/\Sl1 i6 W a len zs/\len<=cap/\cap<=maxLen:=by obtain⟨a,len,cap,rfl⟩:=okWide_slice underlying27 Y;obtain⟨Z,X⟩:=h;exact afu X
end
end
section
open Go.ChangeShapes Go.WideShapes Go.ChangeAt Go.RowKit Go.Joins Go.Deep
section
variable {H:Type}{enc:TypeId×Vk->H}{W:Wa}{r:Reach}{base:Nat}{d:DataW H}{p:List MemPlace}{v:Vk}
theorem aqV(Y:Value.okWide ZP W r base 22 v)(h:DataW.Trod enc ZP W 0 (λ_=>G) G 22 v d p) :∃(a:Option Addr)(len cap:Nat)(wss:Lb),v=T a len cap/\Wds W a len wss/\len<=cap/\cap<=maxLen:=by obtain⟨a,len,cap,rfl⟩:=okWide_slice underlying22 Y;obtain⟨Z,X⟩:=h;have e:Value.cells (.slice a len cap)=#[.slice a len cap]:=rfl;exact adU X
end
end
section
open Go.ChangeShapes Go.WideShapes Go.ChangeAt Go.RowKit Go.Joins Go.Deep
theorem aq4:ZP.cellsOf 59=2:=by kernel_rfl
section
variable {H:Type}{enc:TypeId×Vk->H}{W:Wa}{r:Reach}{base:Nat}{d:DataW H}{p:List MemPlace}{v:Vk}
theorem aqR(Z:Value.okWide ZP W r base 4 v)(h:DataW.Trod enc ZP W 0 (λ_=>G) G 4 v d p):∃b:Bool,v=.bool b:=okWide_bool underlying4 Z
theorem aqD{Y:Nat}{cs:List Vk}{x:DataW H×List MemPlace}(h:DataW.trod enc ZP W 0 (λ_=>G) G Y 59 cs=E x):∃e k:Int,cs=[R K e,R K k]/\I64 e/\I64 k:=by
 obtain⟨xs,n,_,_,J,Z,N⟩:=DataW.trod_struct underlying59 h;rw[aq4]at J
 match cs,J with
 |[c0,c1],_=>
  have U:lc xs=2:=Z;obtain⟨s,V⟩:∃y,xs[0]?=E y:=⟨xs[0]'om,by simp⟩;obtain⟨A,X⟩:∃y,xs[1]?=E y:=⟨xs[1]'om,by simp⟩;have h0:=N 0;simp only[pD,pE,pF,DC,forall_eq',Jd,V]at h0;obtain⟨e,D,_,B⟩:=DataW.trod_int underlying3 h0;have h1:=N 1;simp only[pD,pE,pF,DC,forall_eq',Jd,X]at h1;obtain⟨k,I,_,C⟩:=DataW.trod_int underlying3 h1;simp at D I;exact⟨e,k,by rw[D,I],ar4 B,ar4 C⟩
theorem aqw(hv:Value.okWide ZP W r base 49 v)(h:DataW.Trod enc ZP W 0 (λ_=>G) G 49 v d p) :∃(a:Option Addr)(len cap:Nat)(l:List AF),v=T a len cap/\Hts W a len l/\len<=cap/\cap<=maxLen:=by
 obtain⟨a,len,cap,rfl⟩:=okWide_slice underlying49 hv;obtain⟨a2,hf⟩:=h
 rcases open_slice underlying49 hf with⟨Z,_⟩|⟨x,l,c,m,n,D,Pl,Z,_,hl,hm,J,_,X⟩
 ·simp[Value.cells]at Z;obtain⟨rfl,rfl,rfl⟩:=Z;exact⟨O,0,0,[],rfl,⟨⟨rfl,.inl rfl⟩,by simp⟩,AC _,by unfold maxLen;omega⟩
 ·simp[Value.cells]at Z;obtain⟨rfl,rfl,rfl⟩:=Z;simp only[if_true]at J;subst J;rw[aq4]at X;have Y:∀i,i<m->∃q:AF,(W.cell? ((x.add (i*2)).add 0)=E (R K q.1)/\W.cell? ((x.add (i*2)).add 1)=E (R K q.2))/\I64 q.1/\I64 q.2:=by
   intro i s;obtain⟨a6,B,ht⟩:=X i s;obtain⟨_,a1,C⟩:=World.cells?_some B;obtain⟨e,k,rfl,he,hk⟩:=aqD ht;have h0:=C 0 om;have h1:=C 1 om;exact⟨(e,k),⟨by simpa using h0,by simpa using h1⟩,he,hk⟩
  let f:Nat->AF:=λi=>if X:i<m then Classical.choose (Y i X) else(0,0)
  have V:∀i,i<m->(W.cell? ((x.add (i*2)).add 0)=E (R K (f i).1)/\W.cell? ((x.add (i*2)).add 1)=E (R K (f i).2))/\I64 (f i).1/\I64 (f i).2:=by
   intro i X;have e:f i=Classical.choose (Y i X):=by simp only[f,dif_pos X]
   rw[e];exact Classical.choose_spec (Y i X)
  refine⟨_,len,_,(List.range len).map f,rfl,⟨⟨by rw[GF];simp,?_⟩,λq hq=>?_⟩,hl,hm⟩
  ·by_cases h0:len=0
   ·exact .inl h0
   ·right
    obtain⟨b,off,U⟩:=x;have B:=(V 0 om).1.1;obtain rfl:U=O:=by simpa[Addr.add]using World.cell?_spot B
    refine⟨b,off,rfl,?_,λi u N=>?_⟩
    ·have:=DO W _ B
     rwa[Cf,Cf]at this
    ·have I:=(AP.1 N).1;rw[GF]at I;simp at I;obtain⟨j,hj⟩:∃j,i=j*2∨i=j*2+1:=⟨i / 2,by omega⟩;have A:j<len:=by omega
     have hx:((List.range len).map f)[j]?=E (f j):=by simp[A]
     obtain⟨d0,d1⟩:=aeK hx;obtain⟨⟨g0,g1⟩,_⟩:=V j om;rw[Cf,Cf,DQ]at g0;rw[Cf,Cf]at g1
     rcases hj with rfl|rfl
     ·rw[d0]at N;rw[<-AK N];exact g0
     ·rw[d1]at N;rw[<-AK N,<-Nat.add_assoc];exact g1
  ·simp only[Be,List.mem_range]at hq;obtain⟨i,X,rfl⟩:=hq;exact(V i om).2
end
end
structure Chg(X:Nat->Prop)(w w':World):Prop where
 os:w'.os=w.os
 tape:w'.tape=w.tape
 output:w'.output=w.output
 size:w.heap.size<=w'.heap.size
 block:∀k,k<w.heap.size->¬X k->w'.heap[k]?=w.heap[k]?
section
variable {X Y:Nat->Prop}{a b c:Wa}
theorem Chg.refl(X:Nat->Prop)(w:Wa):Chg X w w:=⟨rfl,rfl,rfl,AC _,λ_ _ _=>rfl⟩
theorem Chg.of_below{B:Nat}(h:Below B a b)(U:∀k,B<=k->k<a.heap.size->X k):Chg X a b:=⟨h.os,h.tape,h.output,h.size,λk hk V=>h.block k (Nat.lt_of_not_le λZ=>V (U k Z hk))⟩
theorem Chg.of_same(h:La a b):Chg X a b:=.of_below h λk h1 h2=>by omega
theorem Chg.mono(h:Chg X a b)(V:∀k,k<a.heap.size->X k->Y k):Chg Y a b:=⟨h.os,h.tape,h.output,h.size,λk hk U=>h.block k hk λZ=>U (V k hk Z)⟩
theorem Chg.trans(h:Chg X a b)(k:Chg Y b c)(N:∀i,i<a.heap.size->Y i->X i):Chg X a c:=⟨k.os.trans h.os,k.tape.trans h.tape,k.output.trans h.output,AS h.size k.size,λi Z V=>(k.block i (Af Z h.size) λU=>V (N i Z U)).trans (h.block i Z V)⟩
theorem Chg.then(h:Chg X a b)(k:Chg X b c):Chg X a c:=h.trans k λ_ _ Z=>Z
theorem Chg.same(h:Chg X a b)(k:La b c):Chg X a c:=h.then (.of_same k)
theorem Chg.grown{row:Option Nat}(h:Chg X a b)(k:b.grownBy c row)(U:∀g,row=E g->g<a.heap.size->X g):Chg X a c:=⟨k.os.trans h.os,k.tape.trans h.tape,k.output.trans h.output,AS h.size k.size,λi Z V=>(k.block i (Af Z h.size) λe=>V (U i e.symm Z)).trans (h.block i Z V)⟩
theorem Chg.set(h:Chg X a b){g i:Nat}{v:Vk}(Z:X g):Chg X a (b.setCell ⟨g,i,O⟩ v):=h.grown (BH b g i v) λk e _=>by cases e;exact Z
theorem Chg.below{B:Nat}(h:Chg X a b)(hB:B<=a.heap.size)(Z:∀k,k<B->¬X k):Below B a b:=⟨h.os,h.tape,h.output,h.size,λk hk=>h.block k (Af hk hB) (Z k hk)⟩
end
theorem Gw{w:Wa}{base n size:Nat}{e:TypeId}{v:Vk}{xs:List Vk}(h:w.ownsRow base e size v n xs):∀k,v.ownBlock=E k->base<=k/\k<w.heap.size:=λk hk=>by
 rcases h.2 with⟨rfl,_⟩|⟨g,cap,U,rfl,V,Z,_⟩
 ·cases hk
 ·cases hk
  exact⟨V,(AD.1 Z).1⟩
theorem NC{w:Wa}{base Z n size:Nat}{e:TypeId}{v:Vk}{xs:List Vk}(h:w.ownsRow base e size v n xs)(U:Z<=base):w.ownsRow Z e size v n xs:=⟨h.1,h.2.imp id λ⟨g,cap,V,h1,h2,r⟩=>⟨g,cap,V,h1,by omega,r⟩⟩
theorem Fu{W V:Wa}{base size n:Nat}{e:TypeId}{v:Vk}{xs:List Vk}(h:W.ownsRow base e size v n xs)(U:∀k,v.ownBlock=E k->V.heap[k]?=W.heap[k]?):V.ownsRow base e size v n xs:=by refine⟨h.1,h.2.imp id ?_⟩;rintro⟨g,cap,Z,rfl,h1,h2,r⟩;exact⟨g,cap,Z,rfl,h1,(U g rfl).trans h2,r⟩
def CO(X:Nat->Prop)(w:Wa)(e:TypeId)(size:Nat)(v:Vk)(n:Nat)(xs:List Vk):Prop:=w.ownsRow 0 e size v n xs/\∀g,v.ownBlock=E g->X g
section
variable {X Y:Nat->Prop}{w w':Wa}{e:TypeId}{size n:Nat}{v:Vk}{xs:List Vk}
theorem CO.lt(h:CO X w e size v n xs):∀g,v.ownBlock=E g->g<w.heap.size:=λg Z=>(Gw h.1 g Z).2
theorem CO.keep(h:CO X w e size v n xs)(U:Chg Y w w')(V:∀g,v.ownBlock=E g->¬Y g):CO X w' e size v n xs:=⟨Fu h.1 λg Z=>U.block g (h.lt g Z) (V g Z),h.2⟩
theorem CO.wide(h:CO X w e size v n xs)(V:∀k,k<w.heap.size->X k->Y k):CO Y w e size v n xs:=⟨h.1,λg Z=>V g (h.lt g Z) (h.2 g Z)⟩
theorem CO.nil(X:Nat->Prop)(w:Wa)(e:TypeId)(size:Nat):CO X w e size (T O 0 0) 0 []:=⟨BN _ _ _ _,λg Z=>by cases Z⟩
end
def Fz(n:Int)(k:Nat):Nat:=((Int.tmod n k+k).tmod k).toNat
theorem alR{n:Int}{k:Nat}(hk:k≠0):(Int.tmod n k+k).tmod k=(Fz n k:Int)/\Fz n k<k/\-(k:Int)<Int.tmod n k/\Int.tmod n k<k:=by
 have h1:-(k:Int)<Int.tmod n k/\Int.tmod n k<k:=by
  have Z:(0:Int)<k:=by omega
  have a:=Int.tmod_lt_of_pos n Z;have b:=Int.tmod_lt_of_pos (-n) Z;rw[Int.neg_tmod]at b;omega
 have h2:0<=(Int.tmod n k+k).tmod k:=Int.tmod_nonneg _ om;have h3:(Int.tmod n k+k).tmod k<k:=Int.tmod_lt_of_pos _ om;unfold Fz;refine⟨by omega,by omega,h1.1,h1.2⟩
theorem acE(n:Int)(a:Option Addr)(k c:Nat)(zs:List Int)(w:Wa)(Z:Sl1 (R K) w a k zs)(hk:k<=1000000) :Calls ZP 43 #[R K n,T a k c] w λe w'=>e=ra (ta (if k=0 then #[R K 0,i6 M] else #[R K (zs.getD (Fz n k) 0),i6 G]))/\w'=w:=by
 by_cases h0:k=0
 ·subst h0;rw[Lq rfl];go_enter func43,ntmps43;go_wp2;go_ret2;exact⟨rfl,rfl⟩
 ·rw[Lc h0];obtain⟨h1,h2,h3,h4⟩:=alR (n:=n) h0;obtain⟨b,off,rfl,I,U⟩:=Z.2.resolve_left h0;have X:zs[Fz n k]?=E (zs.getD (Fz n k) 0):=by
   rw[DZ,Ar (by rw[Z.1];exact h2),CG]
  have c0:=U _ _ X;obtain⟨z,Y⟩:∃z,zs.getD (Fz n k) 0=z:=⟨_,rfl⟩;obtain⟨p,V⟩:∃p,Fz n k=p:=⟨_,rfl⟩;rw[Y]at c0⊢;rw[V]at c0 h1 h2;have C:decide ((k:Int)=0)=M:=by simp;omega
  have D:((k:Int)==0)=M:=by simp;omega
  have e2:decide (k=0)=M:=decide_eq_false h0;have H:IntKind.i64.wrap (Int.tmod n k+k)=Int.tmod n k+k:=by rw[BK];omega
  have J:(0:Int)<=(p:Int):=by omega
  have p1:(p:Int)<(k:Int):=by omega
  have N:=AA h0;clear U X Z Y V h3 h4;go_enter func43,ntmps43;go_wp2;go_ret2;exact⟨rfl,rfl⟩
theorem GU{P:Program}{o:Oper}{a:Act}{Q:Exit->Act->Wa->Prop}{KB:Act->Wa->Prop}{w w':Wa}{v V v':Vk}(s x:Operand)(t:TypeId)(Z:o.guard=O)(y:Nat->Option Bool)(b:Prop)
  (ho:o.op=.call {callee:=.builtin .append,args:=#[s,x],argTypes:=#[t,t]}) (N:a.eval s=v) (U:a.eval x=V) (J:(Builtin.append_ #[t,t] o.type #[v,V]).run P w=.ok v' w') (h:KB (a.put o.dst v') w'):if Region.wanted o y=G then Oper.wp P o a w KB Q else b:=by
 rw[Lq (by unfold Region.wanted;rw[Z])];unfold Oper.wp execOp;simp only[ho,resolve,invoke,builtin,IN,IM,Result.andThen_ok,LI,BO,DE,N,U,J];exact h
structure CN(X:Nat->Prop)(K:Nat)(a:Option Addr)(n c:Nat)(tv:Value)(ans:List Bool)(tk:List AF)(off:Nat)(w:World):Prop where
 box:w.heap[K]?=some (.cells #[T a n c,tv,R IntKind.i64 (off:Int)] 113 (0,0))
 inX:X K
 an:Sl1 i6 w a n ans
 anX:n≠0->∀q,a=some q->X q.block/\q.block≠K/\tv.ownBlock≠some q.block
 row:CO X w 116 2 tv tk.length (AV tk)
 tkK:tv.ownBlock≠some K
def EH(ans:List Bool)(off:Nat):Bool:=ans.isEmpty || ans.getD (off % lc ans) M
section
variable {X Y:Nat->Prop}{KB n c off:Nat}{a:Option Addr}{tv:Vk}{ans:List Bool}{tk:List AF}{w w':Wa}
theorem CN.keep(h:CN X KB a n c tv ans tk off w)(Z:Chg Y w w')(U:∀k,k<w.heap.size->X k->¬Y k):CN X KB a n c tv ans tk off w':=by
 have J:=(AD.1 h.box).1;refine⟨(Z.block KB J (U KB J h.inX)).trans h.box,h.inX,⟨h.an.1,?_⟩,h.anX,h.row.keep Z λg N=>U g (h.row.lt g N) (h.row.2 g N),h.tkK⟩
 by_cases h0:n=0
 ·exact .inl h0
 ·obtain⟨b,o,e,V,I⟩:=h.an.2.resolve_left h0;refine .inr ⟨b,o,e,Af V Z.size,λi x H=>?_⟩;have D:=Z.block b V (U b V (h.anX h0 _ e).1);rw[BC (a:=⟨b,o+i,O⟩) D];exact I i x H
theorem CN.wide(h:CN X KB a n c tv ans tk off w)(Z:∀k,k<w.heap.size->X k->Y k):CN Y KB a n c tv ans tk off w:=by
 refine⟨h.box,Z KB (AD.1 h.box).1 h.inX,h.an,λh0 q V=>?_,h.row.wide Z,h.tkK⟩;obtain⟨h1,h2,h3⟩:=h.anX h0 q V;obtain⟨b,o,e,U,_⟩:=h.an.2.resolve_left h0;rw[V]at e
 cases AK e
 exact⟨Z b U h1,h2,h3⟩
theorem CN.turn{Z:Vk}{tk':List AF}{V:Nat}(h:CN X KB a n c tv ans tk off w)(N:w.heap.size<=w'.heap.size)(s:w'.heap[KB]?=E (i7 #[T a n c,Z,R K (V:Int)] 113 (0,0)))
  (ha:∀k,k<w.heap.size->k≠KB->tv.ownBlock≠E k->w'.heap[k]?=w.heap[k]?) (B:CO Y w' 116 2 Z (lc tk') (AV tk')) (j:Z.ownBlock≠E KB) (v:∀g,Z.ownBlock=E g->tv.ownBlock=E g∨w.heap.size<=g)
  (D:∀k,k<w.heap.size->X k->Y k):CN Y KB a n c Z ans tk' V w':=by
 have J:=(AD.1 h.box).1;refine⟨s,D KB J h.inX,⟨h.an.1,?_⟩,λh0 q H=>?_,B,j⟩
 ·by_cases h0:n=0
  ·exact .inl h0
  ·obtain⟨b,o,e,U,I⟩:=h.an.2.resolve_left h0;obtain⟨_,h2,h3⟩:=h.anX h0 _ e;refine .inr ⟨b,o,e,Af U N,λi x A=>?_⟩;rw[BC (a:=⟨b,o+i,O⟩) (ha b U h2 h3)];exact I i x A
 ·obtain⟨b,o,e,U,I⟩:=h.an.2.resolve_left h0;obtain⟨h1,h2,h3⟩:=h.anX h0 q H;rw[H]at e
  cases AK e
  refine⟨D b U h1,h2,λe2=>?_⟩
  rcases v b e2 with C|C
  ·exact h3 C
  ·omega
end
section
variable {X:Nat->Prop}{KB n c off m c1:Nat}{a a1:Option Addr}{tv:Vk}{ans:List Bool}{tk:List AF}{w w':Wa}
theorem CN.count(h:CN X KB a n c tv ans tk off w):CN X KB a n c tv ans tk (off+1) (w.setCell ⟨KB,2,O⟩ (R K ((off+1:Nat):Int))):=by have hk:∀k,k≠KB->(w.setCell ⟨KB,2,O⟩ (R K ((off+1:Nat):Int))).heap[k]?=w.heap[k]?:=λk hk=>AQ w ⟨KB,2,O⟩ _ k hk;refine h.turn (by simp[World.setCell]) (AJ (i:=2) h.box _) (λk _ Z _=>hk k Z) ⟨Fu h.row.1 λg V=>hk g (λe=>h.tkK (by rw[<-e];exact V)),h.row.2⟩ h.tkK (λg V=>.inl V) λ_ _ U=>U
theorem CN.app(h:CN X KB a n c (T a1 m c1) ans tk off w)(q:AF){V:Vk}{U:Wa}(ho:U.ownsRow 0 116 2 V (lc tk+1) (AV tk++[R K q.1,R K q.2]))(s:(w.alloc (i7 #[R K q.1,R K q.2] 116)).grownBy U (T a1 m c1).ownBlock)
  (j:V.ownBlock=(T a1 m c1).ownBlock∨V.ownBlock=E (w.alloc (i7 #[R K q.1,R K q.2] 116)).heap.size) :
  U.frozen? ⟨KB,1,O⟩=M/\CN (λk=>X k∨w.heap.size<=k) KB a n c V ans (tk++[q]) off (U.setCell ⟨KB,1,O⟩ V)/\Chg X w (U.setCell ⟨KB,1,O⟩ V):=by
 have a2:=(AD.1 h.box).1;have B:=AL w (i7 #[R K q.1,R K q.2] 116);have A:(w.alloc (i7 #[R K q.1,R K q.2] 116)).heap.size=w.heap.size+1:=by simp
 have a6:=s.size;have Z:∀k,k<w.heap.size->(T a1 m c1).ownBlock≠E k->U.heap[k]?=w.heap[k]?:=λk hk H=>(s.block k om (λe=>H e.symm)).trans (B.block k hk);have C:U.heap[KB]?=E (i7 #[T a n c,T a1 m c1,R K (off:Int)] 113 (0,0)):=(Z KB a2 h.tkK).trans h.box;have I:∀g,V.ownBlock=E g->(T a1 m c1).ownBlock=E g∨w.heap.size<=g:=λg e=>by
  rcases j with e2|e2
  ·rw[e2]at e;exact .inl e
  ·rw[e2,A]at e;have:=AK e
   right
   omega
 have N:V.ownBlock≠E KB:=λe=>by
  rcases I KB e with e2|e2
  ·exact h.tkK e2
  ·omega
 have J:∀k,k≠KB->(U.setCell ⟨KB,1,O⟩ V).heap[k]?=U.heap[k]?:=λk hk=>AQ U ⟨KB,1,O⟩ _ k hk;refine⟨by simp[frozen?,C],?_,?_⟩
 ·refine h.turn (by simp[World.setCell];omega) (AJ (i:=1) C V) (λk hk v H=>(J k v).trans (Z k hk H)) ⟨?_,λg D=>?_⟩ N I (λk _ hx=>.inl hx)
  ·have e1:AV (tk++[q])=AV tk++[R K q.1,R K q.2]:=by simp[AV,IH]
   rw[e1,List.length_append];exact Fu ho λg D=>J g λe=>N (by rw[<-e];exact D)
  ·rcases I g D with e|e
   ·exact .inl (h.row.2 g e)
   ·exact .inr e
 ·refine((Chg.of_same B).grown s λg e _=>h.row.2 g e).set h.inX
theorem On(w:Wa)(q:AF):SlK 2 (w.alloc (i7 #[R K q.1,R K q.2] 116)) (E ⟨w.heap.size,0,O⟩) 1 [R K q.1,R K q.2]:=by
 have Z:(w.alloc (i7 #[R K q.1,R K q.2] 116)).heap[w.heap.size]?=E (i7 #[R K q.1,R K q.2] 116 (0,0)):=AT _ _;refine⟨rfl,.inr ⟨_,0,rfl,by simp,λi u V=>?_⟩⟩;have e:(w.alloc (i7 #[R K q.1,R K q.2] 116)).cell? ⟨w.heap.size,0+i,O⟩=(#[R K q.1,R K q.2]:Array Vk)[0+i]?:=by simp only[cell?,Z];simp
 rw[e,DD];show(List.toArray [R K q.1,R K q.2])[i]?=E u;rw[Dy];exact V
end
theorem ado{X:Nat->Prop}{KB n c off:Nat}{a:Option Addr}{tv:Vk}{ans:List Bool}{tk:List AF}(w:Wa)(h:CN X KB a n c tv ans tk off w)(ho:off<=4611686018427387904) :Calls ZP 250 #[L (E ⟨KB,0,O⟩),R K (off:Int)] w λe w'=>e=ra (i6 (EH ans off))/\La w w':=by
 have c0:w.cell? ⟨KB,0,O⟩=E (T a n c):=by simp[cell?,h.box]
 have D:=AA (λq=>AN w q)
 by_cases h0:n=0
 ·have V:EH ans off=G:=by
   have:ans=[]:=OL.1 (by rw[h.an.1,h0]);rw[this];rfl
  have A:decide ((n:Int)=0)=G:=by simp;omega
  have B:((n:Int)==0)=G:=by simp;omega
  rw[V];clear h V h0;go_enter func250,ntmps250;go_upto_region 1 with fail
  go_big_quiet (fail)
  go_wp2;go_ret;exact⟨rfl,D.out _⟩
 ·obtain⟨b,o,rfl,s,I⟩:=h.an.2.resolve_left h0;have Z:=h.an.1;have J:off % n<n:=Ek _ om;obtain⟨y,U⟩:∃y,ans[off % n]?=E y:=⟨ans[off % n]'om,Ar _⟩;have C:=I _ _ U;have V:EH ans off=y:=by
   unfold EH;have N:ans.isEmpty=M:=by cases ans with|nil=>exact absurd Z.symm h0|cons _ _=>rfl
   rw[N,Z,DZ,U]
   rfl
  rw[V];have A:decide ((n:Int)=0)=M:=by simp;omega
  have B:((n:Int)==0)=M:=by simp;omega
  have e2:(off:Int).tmod (n:Int)=((off % n:Nat):Int):=by rw[Jq om];simp
  obtain⟨p,H⟩:∃p,off % n=p:=⟨_,rfl⟩;rw[H]at e2 J C;have v:(0:Int)<=(p:Int):=by omega
  have p1:(p:Int)<(n:Int):=by omega
  clear h V h0 I U H Z;go_enter func250,ntmps250;go_upto_region 1 with fail
  go_big_quiet (fail)
  go_wp2;go_ret;exact⟨rfl,D.out _⟩
theorem aed{X:Nat->Prop}{KB n c off:Nat}{a:Option Addr}{tv:Vk}{ans:List Bool}{tk:List AF}(h:AF)(w:Wa)(hS:CN X KB a n c tv ans tk off w)(ho:off<=1000000)(ht:lc tk<=1000000) :Calls ZP 209 #[L (E ⟨KB,0,O⟩),i8 #[R K h.1,R K h.2]] w λe w'=>e=ra (i6 (EH ans off))/\(∃aw,CN (λk=>X k∨w.heap.size<=k) KB a n c aw ans (if EH ans off then tk++[h] else tk) (off+1) w')/\Chg X w w':=by
 obtain⟨W,hW⟩:∃W,W=w.alloc (i7 #[R K h.1,R K h.2] 116):=⟨_,rfl⟩;have hB:La w W:=by rw[hW];exact AL _ _
 have hO:Bx w.heap.size [i7 #[R K h.1,R K h.2] 116] W:=by rw[hW];exact(Bx.nil _ w).snoc _ rfl
 have aE:W.heap.size=w.heap.size+1:=by rw[hW];simp
 have aF:=(AD.1 hS.box).1;have a7:∀V,La W V->CN X KB a n c tv ans tk off V:=λV hV=>hS.keep (Y:=λ_=>False) (.of_same (hB.trans (hV.mono hB.size))) λ_ _ _ h=>h;have aj:∀d os,Calls ZP 250 #[L (E ⟨KB,0,O⟩),R K (off:Int)] (grow (redrawn W d) os) λe w'=>e=ra (i6 (EH ans off))/\RowKit.Below (grow (redrawn W d) os).heap.size (grow (redrawn W d) os) w':=λd os=>ado _ (a7 _ (Vc W d os)) om;have aC:=AA a7;have k2:∀d os,(grow (redrawn W d) os).cell? ⟨KB,2,O⟩=E (R K (off:Int)):=Vf (by have:=(a7 W (AH _ _)).box;simp[cell?,this]);have aD:IntKind.i64.wrap ((off:Int)+1)=(off:Int)+1:=by rw[BK];omega
 obtain⟨Y,hY⟩:∃y,EH ans off=y:=⟨_,rfl⟩;rw[hY]at aj⊢;have HO:=AA hO;have HB:=AA hB;have HS:=AA hS;clear hS hB hO a7 hY;go_enter func209,ntmps209;go_upto_region 3 with fail
 rw[<-hW];clear hW;refine wp_region_quiet_below mixed kr ?_
 repeat (go_big_quiet_step (exact Eu (aj _ _)))
 refine wpQuiet_nil ?_;rintro _ ⟨⟨dq,ak⟩,rfl⟩;have C:=Vc W dq ak;obtain⟨V,hV⟩:∃V,V=grow (redrawn W dq) ak:=⟨_,rfl⟩;rw[<-hV]at C⊢;clear hV aj k2;have a8:=aC.out V C;have al:La w V:=HB.out.trans (C.mono HB.out.size);have c2:V.cell? ⟨KB,2,O⟩=E (R K (off:Int)):=by simp[cell?,a8.box]
 have f2:V.frozen? ⟨KB,2,O⟩=M:=by simp[frozen?,a8.box]
 have aq:=HO.out.below C;obtain⟨J,N⟩:∃U,U=V.setCell ⟨KB,2,O⟩ (R K ((off:Int)+1)):=⟨_,rfl⟩;have ap:CN X KB a n c tv ans tk (off+1) J:=by rw[N,show(off:Int)+1=((off+1:Nat):Int) by omega];exact a8.count
 have au:Chg X w J:=by rw[N];exact(Chg.of_same al).set HS.out.inX
 have ar:∀i v,(#[R K h.1,R K h.2]:Array Vk)[i]?=E v->J.cell? ⟨w.heap.size,i,O⟩=E v:=λi v hv=>by
  have aB:=(AD.1 HS.out.box).1;have e:J.heap[w.heap.size]?=V.heap[w.heap.size]?:=by rw[N];exact AQ V ⟨KB,2,O⟩ _ _ (by show w.heap.size≠KB;omega)
  have h1:=aq 0 _ rfl;rw[DQ]at h1;simp only[cell?,e,h1];exact hv
 have ab:=AA ap;have j:=AA au;have av:=AA ar;clear a8 aq al C ap au ar
 cases Y with
 |false=>
  go_upto_region 5 with fail
  rw[<-N];clear N;go_wp2;go_ret;exact⟨rfl,⟨tv,ab.out.wide λ_ _ hx=>.inl hx⟩,j.out⟩
 |true=>
  go_upto_region 6 with fail
  rw[<-N];clear N c2 f2;obtain⟨a1,c1,rfl,_,_⟩:=SlK.own ab.out.row.1;obtain⟨i0,hi,az,ay,ax⟩:=Vh IG;have aG:J.cell? ⟨KB,1,O⟩=E (T a1 (lc tk) c1):=by simp[cell?,ab.out.box]
  have x0:J.cell? ⟨w.heap.size,0,O⟩=E (R K h.1):=av.out 0 _ rfl;have x1:J.cell? ⟨w.heap.size,1,O⟩=E (R K h.2):=av.out 1 _ rfl;obtain⟨D,hD⟩:∃D,D=J.drew:=⟨_,rfl⟩;have I:La J D:=by rw[hD];exact AN J 1
  have s:CN X KB a n c (.slice a1 (lc tk) c1) ans tk (off+1) D:=ab.out.keep (Y:=λ_=>False) (.of_same I) λ_ _ _ h=>h;have H:=DJ s.row.1 (AL D (i7 #[.int .i64 h.1,.int .i64 h.2] 116));have ae:=On D h;obtain⟨v1,W1,hr,ag,a6,af⟩:=Gu (P:=ZP) (D.alloc (i7 #[.int .i64 h.1,.int .i64 h.2] 116)) 0 69 69 116 i0 (i8 #[.int .i64 0,.int .i64 0]) 2 16 underlying69 hi az ay ax rfl (by decide) (.slice a1 (lc tk) c1) (lc tk) (AV tk) H (E ⟨D.heap.size,0,O⟩) 1 1 [.int .i64 h.1,.int .i64 h.2] ae (by simp[Value.oneCell']) (by unfold maxLen;omega) om (AR _);obtain⟨a2,c2,aA,_,_⟩:=SlK.own ag;subst aA;obtain⟨g1,g2,g3⟩:=s.app h ag a6 af;have G2:=AA g2;have G3:=AA g3;have aB:=(AD.1 HS.out.box).1;have am:w.heap.size<D.heap.size:=by have h1:=DO J (a:=⟨w.heap.size,0,O⟩) x0;exact Af h1 I.size
  have ao:(T a1 (lc tk) c1).ownBlock≠E w.heap.size:=λe=>by have:=HS.out.row.lt _ e;omega
  have B:∀i v,D.cell? ⟨w.heap.size,i,O⟩=E v->(D.alloc (i7 #[R K h.1,R K h.2] 116)).cell? ⟨w.heap.size,i,O⟩=E v:=λi v hv=>((AL D _).cell (p:=⟨w.heap.size,i,O⟩) am).trans hv;have A:∀i v,D.cell? ⟨w.heap.size,i,O⟩=E v->W1.cell? ⟨w.heap.size,i,O⟩=E v:=λi v hv=>by have e:W1.heap[w.heap.size]?=D.heap[w.heap.size]?:=(a6.block _ (by simp;omega) (λe=>ao e.symm)).trans ((AL D _).block _ am);rw[BC (a:=⟨w.heap.size,i,O⟩) e];exact hv
  have y0:D.cell? ⟨w.heap.size,0,O⟩=E (R K h.1):=(I.cell (p:=⟨w.heap.size,0,O⟩) (DO J _ x0)).trans x0;have y1:D.cell? ⟨w.heap.size,1,O⟩=E (R K h.2):=(I.cell (p:=⟨w.heap.size,1,O⟩) (DO J _ x1)).trans x1;have ai:=AA (Va (B 0 _ y0) (B 1 _ y1));have e1:∀i v,W1.cell? ⟨w.heap.size,i,O⟩=E v->(W1.setCell ⟨KB,1,O⟩ (T a2 (lc tk+1) c2)).cell? ⟨w.heap.size,i,O⟩=E v:=λi v hv=>by have e:(W1.setCell ⟨KB,1,O⟩ (T a2 (lc tk+1) c2)).heap[w.heap.size]?=W1.heap[w.heap.size]?:=AQ W1 ⟨KB,1,O⟩ _ _ (by show w.heap.size≠KB;omega);rw[BC (a:=⟨w.heap.size,i,O⟩) e];exact hv
  have aa:=AA (Va (Va (A 0 _ y0) (A 1 _ y1)) (Va (e1 0 _ (A 0 _ y0)) (e1 1 _ (A 1 _ y1))));have z1:D.cell? ⟨KB,1,O⟩=E (T a1 (lc tk) c1):=by simp[cell?,s.box]
  have z2:(D.alloc (i7 #[R K h.1,R K h.2] 116)).cell? ⟨KB,1,O⟩=E (T a1 (lc tk) c1):=((AL D _).cell (p:=⟨KB,1,O⟩) (DO D _ z1)).trans z1;have z3:∃u,W1.cell? ⟨KB,1,O⟩=E u:=by have e:W1.heap[KB]?=D.heap[KB]?:=(a6.block _ (by have:=DO D _ z1;simp;exact Nat.lt_succ_of_lt this) (λe=>s.tkK e.symm)).trans ((AL D _).block _ (DO D _ z1));exact⟨_,(BC (a:=⟨KB,1,O⟩) e).trans z1⟩
  obtain⟨u3,z3⟩:=z3;have HR:=AA hr;have ac:=AA I;clear g2 g3 ag a6 af H ae s hr B A e1 I ao;refine Ve ?_;refine Vd (S:=λY=>Y.cell? ⟨w.heap.size,0,O⟩=E (R K h.1)/\Y.cell? ⟨w.heap.size,1,O⟩=E (R K h.2)) kr ⟨x0,x1⟩ (λhHeld=>?_);rw[<-hD]at hHeld⊢;clear hD;refine tkA 0 ?_;refine tkA 1 ?_;refine tkA 2 ?_;refine tkA 3 ?_;refine tkW 5 (v:=?_) ?_ ?_;rotate_left
  ·intro V hV;obtain⟨q0,q1⟩:=hV
   first|(go_simp;done)|(go_simp;with_reducible rfl)
  try simp only[pq]
  refine apE 4 6 (λKB Z=>?_) (λKB Z=>?_)
  ·go_simp;refine Z.out _ _ hHeld (λh4=>?_);clear Z KB
   try simp only[pq]
   refine rdy 6 (λKB Z=>?_);go_simp;refine Z.out _ _ (ai.out) (λh6=>?_);clear Z KB
   try simp only[pq]
   refine rdy 7 (λKB Z=>?_);refine GU (.tmp 28) (.tmp 30) 69 rfl _ _ rfl rfl rfl HR.out ?_;refine Z.out _ _ aa.out.1 (λh7=>?_);clear Z KB
   try simp only[pq]
   refine tkA 8 ?_;refine tkA 9 ?_;refine rdy 10 (λKB Z=>?_);go_simp;refine Z.out _ _ aa.out.2 (λh10=>?_);clear Z KB
   try simp only[pq]
   refine Vg kr ?_ _;refine At ?_;go_wp2;go_ret;exact⟨rfl,⟨(T a2 (lc tk+1) c2),(G2.out).wide λk _ hx=>hx.elim .inl λh2=>.inr (AS (AS j.out.size ac.out.size) h2)⟩,(j.out.same ac.out).then G3.out⟩
  ·go_simp;refine Z.out _ _ ai.out (λh6=>?_);clear Z KB
   try simp only[pq]
   refine rdy 4 (λKB Z=>?_);go_simp;refine Z.out _ _ ai.out (λh4=>?_);clear Z KB
   try simp only[pq]
   refine rdy 7 (λKB Z=>?_);refine GU (.tmp 28) (.tmp 30) 69 rfl _ _ rfl rfl rfl HR.out ?_;refine Z.out _ _ aa.out.1 (λh7=>?_);clear Z KB
   try simp only[pq]
   refine tkA 8 ?_;refine tkA 9 ?_;refine rdy 10 (λKB Z=>?_);go_simp;refine Z.out _ _ aa.out.2 (λh10=>?_);clear Z KB
   try simp only[pq]
   refine Vg kr ?_ _;refine At ?_;go_wp2;go_ret;exact⟨rfl,⟨(T a2 (lc tk+1) c2),(G2.out).wide λk _ hx=>hx.elim .inl λh2=>.inr (AS (AS j.out.size ac.out.size) h2)⟩,(j.out.same ac.out).then G3.out⟩
theorem ahb:(ZP.info? 4).map (λi=>(i.zero,i.size,i.bytes))=E (E (i6 M),1,1):=by kernel_rfl
theorem Jz{α:Type}{enc:α->Vk}{w:Wa}{a:Option Addr}{n:Nat}{xs:List α}(h:Sl1 enc w a n xs):SlK 1 w a n (xs.map enc):=by refine⟨by rw[BP,h.1,Hk],h.2.imp id ?_⟩;rintro⟨b,off,e,X,V⟩;refine⟨b,off,e,X,λi u Z=>?_⟩;rw[BU]at Z;obtain⟨x,Y,rfl⟩:=Fo.1 Z;exact V i x Y
theorem acP(a:Option Addr)(n c:Nat)(cs:List Vk)(w:Wa)(H:SlK 1 w a n cs)(Z:∀u∈cs,u.oneCell'=G)(hn:n<=1000000) :Calls ZP 104 #[T a n c] w λe w'=>∃v,e=ra v/\w'.ownsRow w.heap.size 5 1 v n cs/\La w w':=by
 go_enter func104,ntmps104;go_upto_region 1 with fail
 have hu:ZP.underlying 32=E (.slice 5):=underlying32;have s:=Lib.run_eql_slice_nil (P:=ZP) w 32 5 a n c 0 0 hu
 cases a with
 |none=>
  have h0:n=0:=by
   rcases H.2 with h|⟨b,off,e,_⟩
   ·exact h
   ·cases e
  subst h0;have hl:cs=[]:=OL.1 (by rw[H.1,Nat.zero_mul]);subst hl;clear H hn;simp only[Option.isNone]at s;go_wp2;go_ret;exact⟨_,rfl,BN _ _ _ _,AH _ _⟩
 |some p=>
  have HH:=AA H;have D:=AA Z;clear H Z;simp only[Option.isNone]at s;go_upto_region 3 with fail
  clear s;obtain⟨i0,hi,A,B,C⟩:=Vh Gs;have X:(w.alloc (i7 #[] 5)).ownsRow w.heap.size 5 1 (T (E ⟨w.heap.size,0,O⟩) 0 0) 0 []:=⟨rfl,.inr ⟨w.heap.size,0,#[],rfl,AC _,AT w _,AR _,AR _,rfl,by simp⟩⟩;have Y:=AL w (i7 #[] 5);have U:=HH.out.below Y;have Z:∀u∈cs,u.oneCell'=G:=D.out;have V:w.heap.size<=(w.alloc (i7 #[] 5)).heap.size:=by simp
  go_wp2_with (at_builtin;refine JA rfl _ _ 32 rfl w.heap.size 5 i0 (.int .u8 0) 1 1 hu hi A B C rfl (by decide) (T (E ⟨w.heap.size,0,O⟩) 0 0) 0 [] rfl X (E p) n c cs rfl U Z (by unfold maxLen;omega) om V ?_;intro v1 W1 N J I;have a1:=AA N;have a2:=AA J;clear N J I X U Z)
  go_ret;refine⟨v1,rfl,?_,(Y).grown a2.out Y.size (λj e=>by injection e with e;exact Gq e)⟩;have:=a1.out;rw[DD,Av]at this;exact this
theorem ahT(a:Option Addr)(n c:Nat)(cs:List Vk)(w:Wa)(H:SlK 1 w a n cs)(Z:∀u∈cs,u.oneCell'=G)(hn:n<=1000000) :Calls ZP 238 #[T a n c] w λe w'=>∃v,e=ra v/\w'.ownsRow w.heap.size 5 1 v n cs/\La w w':=by
 go_enter func238,ntmps238;go_upto_region 1 with fail
 have hu:ZP.underlying 32=E (.slice 5):=underlying32;have s:=Lib.run_eql_slice_nil (P:=ZP) w 32 5 a n c 0 0 hu
 cases a with
 |none=>
  have h0:n=0:=by
   rcases H.2 with h|⟨b,off,e,_⟩
   ·exact h
   ·cases e
  subst h0;have hl:cs=[]:=OL.1 (by rw[H.1,Nat.zero_mul]);subst hl;clear H hn;simp only[Option.isNone]at s;go_wp2;go_ret;exact⟨_,rfl,BN _ _ _ _,AH _ _⟩
 |some p=>
  have HH:=AA H;have D:=AA Z;clear H Z;simp only[Option.isNone]at s;go_upto_region 3 with fail
  clear s;obtain⟨i0,hi,A,B,C⟩:=Vh Gs;have X:(w.alloc (i7 #[] 5)).ownsRow w.heap.size 5 1 (T (E ⟨w.heap.size,0,O⟩) 0 0) 0 []:=⟨rfl,.inr ⟨w.heap.size,0,#[],rfl,AC _,AT w _,AR _,AR _,rfl,by simp⟩⟩;have Y:=AL w (i7 #[] 5);have U:=HH.out.below Y;have Z:∀u∈cs,u.oneCell'=G:=D.out;have V:w.heap.size<=(w.alloc (i7 #[] 5)).heap.size:=by simp
  go_wp2_with (at_builtin;refine JA rfl _ _ 32 rfl w.heap.size 5 i0 (.int .u8 0) 1 1 hu hi A B C rfl (by decide) (T (E ⟨w.heap.size,0,O⟩) 0 0) 0 [] rfl X (E p) n c cs rfl U Z (by unfold maxLen;omega) om V ?_;intro v1 W1 N J I;have a1:=AA N;have a2:=AA J;clear N J I X U Z)
  go_ret;refine⟨v1,rfl,?_,(Y).grown a2.out Y.size (λj e=>by injection e with e;exact Gq e)⟩;have:=a1.out;rw[DD,Av]at this;exact this
theorem ahR(a:Option Addr)(n c:Nat)(cs:List Vk)(w:Wa)(H:SlK 1 w a n cs)(Z:∀u∈cs,u.oneCell'=G)(hn:n<=1000000) :Calls ZP 94 #[T a n c] w λe w'=>∃v,e=ra v/\w'.ownsRow w.heap.size 4 1 v n cs/\La w w':=by
 go_enter func94,ntmps94;go_upto_region 1 with fail
 have hu:ZP.underlying 27=E (.slice 4):=underlying27;have s:=Lib.run_eql_slice_nil (P:=ZP) w 27 4 a n c 0 0 hu
 cases a with
 |none=>
  have h0:n=0:=by
   rcases H.2 with h|⟨b,off,e,_⟩
   ·exact h
   ·cases e
  subst h0;have hl:cs=[]:=OL.1 (by rw[H.1,Nat.zero_mul]);subst hl;clear H hn;simp only[Option.isNone]at s;go_wp2;go_ret;exact⟨_,rfl,BN _ _ _ _,AH _ _⟩
 |some p=>
  have HH:=AA H;have D:=AA Z;clear H Z;simp only[Option.isNone]at s;go_upto_region 3 with fail
  clear s;obtain⟨i0,hi,A,B,C⟩:=Vh ahb;have X:(w.alloc (i7 #[] 4)).ownsRow w.heap.size 4 1 (T (E ⟨w.heap.size,0,O⟩) 0 0) 0 []:=⟨rfl,.inr ⟨w.heap.size,0,#[],rfl,AC _,AT w _,AR _,AR _,rfl,by simp⟩⟩;have Y:=AL w (i7 #[] 4);have U:=HH.out.below Y;have Z:∀u∈cs,u.oneCell'=G:=D.out;have V:w.heap.size<=(w.alloc (i7 #[] 4)).heap.size:=by simp
  go_wp2_with (at_builtin;refine JA rfl _ _ 27 rfl w.heap.size 4 i0 (i6 M) 1 1 hu hi A B C rfl (by decide) (T (E ⟨w.heap.size,0,O⟩) 0 0) 0 [] rfl X (E p) n c cs rfl U Z (by unfold maxLen;omega) om V ?_;intro v1 W1 N J I;have a1:=AA N;have a2:=AA J;clear N J I X U Z)
  go_ret;refine⟨v1,rfl,?_,(Y).grown a2.out Y.size (λj e=>by injection e with e;exact Gq e)⟩;have:=a1.out;rw[DD,Av]at this;exact this
theorem aqB(a:Option Addr)(n c:Nat)(cs:List Vk)(w:Wa)(H:SlK 2 w a n cs)(Z:∀u∈cs,u.oneCell'=G)(hn:n<=1000000) :Calls ZP 77 #[T a n c] w λe w'=>∃v,e=ra v/\w'.ownsRow w.heap.size 116 2 v n cs/\La w w':=by
 go_enter func77,ntmps77;go_upto_region 1 with fail
 have hu:ZP.underlying 69=E (.slice 116):=underlying69;have s:=Lib.run_eql_slice_nil (P:=ZP) w 69 116 a n c 0 0 hu
 cases a with
 |none=>
  have h0:n=0:=by
   rcases H.2 with h|⟨b,off,e,_⟩
   ·exact h
   ·cases e
  subst h0;have hl:cs=[]:=OL.1 (by rw[H.1,Nat.zero_mul]);subst hl;clear H hn;simp only[Option.isNone]at s;go_wp2;go_ret;exact⟨_,rfl,BN _ _ _ _,AH _ _⟩
 |some p=>
  have HH:=AA H;have D:=AA Z;clear H Z;simp only[Option.isNone]at s;go_upto_region 3 with fail
  clear s;obtain⟨i0,hi,A,B,C⟩:=Vh IG;have X:(w.alloc (i7 #[] 116)).ownsRow w.heap.size 116 2 (T (E ⟨w.heap.size,0,O⟩) 0 0) 0 []:=⟨rfl,.inr ⟨w.heap.size,0,#[],rfl,AC _,AT w _,AR _,AR _,rfl,by simp⟩⟩;have Y:=AL w (i7 #[] 116);have U:=HH.out.below Y;have Z:∀u∈cs,u.oneCell'=G:=D.out;have V:w.heap.size<=(w.alloc (i7 #[] 116)).heap.size:=by simp
  go_wp2_with (at_builtin;refine JA rfl _ _ 69 rfl w.heap.size 116 i0 (i8 #[R K 0,R K 0]) 2 16 hu hi A B C rfl (by decide) (T (E ⟨w.heap.size,0,O⟩) 0 0) 0 [] rfl X (E p) n c cs rfl U Z (by unfold maxLen;omega) om V ?_;intro v1 W1 N J I;have a1:=AA N;have a2:=AA J;clear N J I X U Z)
  go_ret;refine⟨v1,rfl,?_,(Y).grown a2.out Y.size (λj e=>by injection e with e;exact Gq e)⟩;have:=a1.out;rw[DD,Av]at this;exact this
abbrev PlW:=(Option Addr×Nat×Nat)×Bool
def plE(p:PlW):List Vk:=[T p.1.1 p.1.2.1 p.1.2.2,i6 p.2]
def plC(l:List PlW):List Vk:=l.flatMap plE
theorem air(l:List PlW):(plC l).length=lc l*2:=by
 induction l with
 |nil=>rfl
 |cons p l ih=>
  unfold plC at ih⊢;rw[List.flatMap_cons,List.length_append,ih];simp[plE];omega
theorem Hz:∀{l:List PlW}{i:Nat}{p:PlW},l[i]?=E p->(plC l)[i*2]?=E (T p.1.1 p.1.2.1 p.1.2.2)/\(plC l)[i*2+1]?=E (i6 p.2)
 |[],i,p,h=>by simp at h
 |q::l,0,p,h=>by
  cases AK h
  exact⟨rfl,rfl⟩
 |q::l,i+1,p,h=>by
  have:=Hz (l:=l) (i:=i) (p:=p) (by simpa using h);have e:plC (q::l)=T q.1.1 q.1.2.1 q.1.2.2::i6 q.2::plC l:=by simp[plC,plE]
  rw[e,show(i+1)*2=i*2+1+1 by omega];exact this
theorem ak2:∀(l:List PlW)(i:Nat)(p:PlW),plC (l.set i p)=((plC l).set (i*2) (T p.1.1 p.1.2.1 p.1.2.2)).set (i*2+1) (i6 p.2)
 |[],i,p=>by simp[plC]
 |q::l,0,p=>by simp[plC,plE]
 |q::l,i+1,p=>by
  have:=ak2 l i p;have e:∀(q:PlW)(l:List PlW),plC (q::l)=T q.1.1 q.1.2.1 q.1.2.2::i6 q.2::plC l:=λq l=>by simp[plC,plE]
  rw[List.set_cons_succ,e,e,this,show(i+1)*2=i*2+1+1 by omega]
  rfl
structure BZ(X:Nat->Prop)(Q B next:Nat)(pl:List PlW)(w:World):Prop where
 box:w.heap[Q]?=some (.cells #[T (some ⟨B,0,none⟩) pl.length pl.length,R K (next:Int)] 199 (0,0))
 places:w.heap[B]?=some (.cells (plC pl).toArray 264 (0,0))
 inX:X Q/\X B
 ne:Q≠B
 room:1<=pl.length/\pl.length<=16
section
variable {X Y:Nat->Prop}{Q B next:Nat}{pl:List PlW}{w w':Wa}
theorem BZ.keep(h:BZ X Q B next pl w)(N:Chg Y w w')(U:∀k,k<w.heap.size->X k->¬Y k):BZ X Q B next pl w':=by have Z:∀k o,w.heap[k]?=E o->X k->w'.heap[k]?=E o:=λk o hk V=>(N.block k (AD.1 hk).1 (U k (AD.1 hk).1 V)).trans hk;exact⟨Z _ _ h.box h.inX.1,Z _ _ h.places h.inX.2,h.inX,h.ne,h.room⟩
theorem BZ.wide(h:BZ X Q B next pl w)(Z:∀k,k<w.heap.size->X k->Y k):BZ Y Q B next pl w:=⟨h.box,h.places,⟨Z _ (AD.1 h.box).1 h.inX.1,Z _ (AD.1 h.places).1 h.inX.2⟩,h.ne,h.room⟩
theorem BZ.setP(h:BZ X Q B next pl w)(i:Nat)(p:PlW):BZ X Q B next (pl.set i p) ((w.setCell ⟨B,i*2,O⟩ (T p.1.1 p.1.2.1 p.1.2.2)).setCell ⟨B,i*2+1,O⟩ (i6 p.2))/\Chg X w ((w.setCell ⟨B,i*2,O⟩ (T p.1.1 p.1.2.1 p.1.2.2)).setCell ⟨B,i*2+1,O⟩ (i6 p.2)):=by
 obtain⟨V,Z⟩:∃W,W=w.setCell ⟨B,i*2,O⟩ (T p.1.1 p.1.2.1 p.1.2.2):=⟨_,rfl⟩;have h1:=AJ (i:=i*2) h.places (T p.1.1 p.1.2.1 p.1.2.2);rw[<-Z]at h1⊢;have h2:=AJ (i:=i*2+1) h1 (i6 p.2);rw[Fp,Fp,<-ak2]at h2;have U:(V.setCell ⟨B,i*2+1,O⟩ (i6 p.2)).heap[Q]?=w.heap[Q]?:=by rw[AQ V ⟨B,i*2+1,O⟩ _ Q h.ne,Z,AQ w ⟨B,i*2,O⟩ _ Q h.ne]
 refine⟨⟨by rw[BG];exact U.trans h.box,h2,h.inX,h.ne,by rw[BG];exact h.room⟩,?_⟩;rw[Z];exact((Chg.refl X w).set h.inX.2).set h.inX.2
theorem BZ.step(h:BZ X Q B next pl w)(Z:Nat):BZ X Q B Z pl (w.setCell ⟨Q,1,O⟩ (R K (Z:Int)))/\Chg X w (w.setCell ⟨Q,1,O⟩ (R K (Z:Int))):=⟨⟨AJ (i:=1) h.box _,(AQ w ⟨Q,1,O⟩ _ B h.ne.symm).trans h.places,h.inX,h.ne,h.room⟩,(Chg.refl X w).set h.inX.1⟩
end
theorem abJ{X:Nat->Prop}{Q B next:Nat}{pl:List PlW}(w:Wa)(h:BZ X Q B next pl w) :Calls ZP 231 #[L (E ⟨Q,0,O⟩)] w λe w'=>e=ra (R K (lc pl:Int))/\w'=w:=by
 have c0:w.cell? ⟨Q,0,O⟩=E (T (E ⟨B,0,O⟩) (lc pl) (lc pl)):=by simp[cell?,h.box]
 clear h;go_enter func231,ntmps231;go_wp2;go_ret;exact⟨rfl,rfl⟩
theorem ah6{X:Nat->Prop}{Q B next:Nat}{pl:List PlW}(w:Wa)(h:BZ X Q B next pl w) :Calls ZP 66 #[L (E ⟨Q,0,O⟩)] w λe w'=>e=ra (R K (next:Int))/\w'=w:=by
 have c1:w.cell? ⟨Q,1,O⟩=E (R K (next:Int)):=by simp[cell?,h.box]
 clear h;go_enter func66,ntmps66;go_wp2;go_ret;exact⟨rfl,rfl⟩
theorem abP{X:Nat->Prop}{Q B next:Nat}{pl:List PlW}(n:Nat)(w:Wa)(h:BZ X Q B next pl w)(A:n<=4611686018427387904) :Calls ZP 170 #[L (E ⟨Q,0,O⟩),R K (n:Int)] w λe w'=>e=ra (L (E ⟨B,n % lc pl*2,O⟩))/\La w w':=by
 have c0:w.cell? ⟨Q,0,O⟩=E (T (E ⟨B,0,O⟩) (lc pl) (lc pl)):=by simp[cell?,h.box]
 have I:=AA (λq=>AN w q);obtain⟨J,N⟩:=h.room;obtain⟨LO,U⟩:∃LO,lc pl=LO:=⟨_,rfl⟩;rw[U]at c0 J N⊢;have e2:(n:Int).tmod (LO:Int)=((n % LO:Nat):Int):=by rw[Jq om];simp
 have Z:n % LO<LO:=Ek _ om;obtain⟨p,V⟩:∃p,n % LO=p:=⟨_,rfl⟩;rw[V]at e2 Z⊢;have C:(0:Int)<=(p:Int):=by omega
 have D:(p:Int)<(LO:Int):=by omega
 have z0:¬(LO:Int)=0:=by omega
 have H:¬LO=0:=by omega
 clear h V U;go_enter func170,ntmps170;go_upto_region 1 with fail
 go_big_quiet (fail)
 go_wp2;go_ret;exact⟨by simp,I.out _⟩
def Du(next room n:Nat):Bool:=decide (next<=n)&&decide (n-next<room)
theorem aaC{X:Nat->Prop}{Q B next:Nat}{I:List PlW}(n:Nat)(w:Wa)(h:BZ X Q B next I w)(hn:n<=1000000000)(hx:next<=1000000000) :Calls ZP 189 #[L (E ⟨Q,0,O⟩),R K (n:Int)] w λe w'=>e=ra (i6 (Du next (lc I) n))/\La w w':=by
 have c1:w.cell? ⟨Q,1,O⟩=E (R K (next:Int)):=by simp[cell?,h.box]
 have k1:∀d os,(grow (redrawn w d) os).cell? ⟨Q,1,O⟩=E (R K (next:Int)):=Vf c1;have H:∀d os,Calls ZP 231 #[L (E ⟨Q,0,O⟩)] (grow (redrawn w d) os) λe w'=>e=ra (R K (lc I:Int))/\RowKit.Below (grow (redrawn w d) os).heap.size (grow (redrawn w d) os) w':=λd os=>(abJ _ (h.keep (Y:=λ_=>False) (.of_same (Vc w d os)) λ_ _ _ h=>h)).mono λe w' ⟨h1,h2⟩=>⟨h1,by rw[h2];exact AH _ _⟩;obtain⟨LO,v⟩:∃LO,lc I=LO:=⟨_,rfl⟩;rw[v]at H⊢;have J:=AA (λC V=>Vc w C V);clear h v c1
 by_cases Z:next<=n
 ·have d0:decide ((n:Int)>=(next:Int))=G:=by simp;omega
  have U:decide (next<=n)=G:=Vb Z;have e1:IntKind.i64.wrap ((n:Int)-(next:Int))=((n-next:Nat):Int):=by rw[BK];omega
  have N:Du next LO n=decide (n-next<LO):=by unfold Du;rw[U];rfl
  rw[N];obtain⟨m,A⟩:∃m,n-next=m:=⟨_,rfl⟩;rw[A]at e1⊢;obtain⟨D,s⟩:∃b,decide (m<LO)=b:=⟨_,rfl⟩;have j:decide ((m:Int)<(LO:Int))=D:=by rw[<-s,Db];simp
  rw[s];clear N A Z;go_enter func189,ntmps189;go_upto_region 1 with fail
  refine wp_region_quiet_below mixed kr ?_
  repeat (go_big_quiet_step (exact Eu (H _ _)))
  refine wpQuiet_nil ?_;rintro _ ⟨⟨C,V⟩,rfl⟩;go_wp2;go_ret;exact⟨rfl,J.out _ _⟩
 ·have d0:decide ((n:Int)>=(next:Int))=M:=by simp;omega
  have U:decide (next<=n)=M:=decide_eq_false Z;have N:Du next LO n=M:=by unfold Du;rw[U];rfl
  rw[N];clear N Z;go_enter func189,ntmps189;go_upto_region 1 with fail
  refine wp_region_quiet_below mixed kr ?_
  repeat (go_big_quiet_step (exact Eu (H _ _)))
  refine wpQuiet_nil ?_;rintro _ ⟨⟨C,V⟩,rfl⟩;go_wp2;go_ret;exact⟨rfl,J.out _ _⟩
theorem ai7{X:Nat->Prop}{Q B next:Nat}{Z:List PlW}(n m c:Nat)(a:Option Addr)(j:Option Addr×Nat×Nat)(w:Wa)(h:BZ X Q B next Z w)(hn:n<=1000000000)(hx:next<=1000000000)(U:Du next (lc Z) n=G)(hp:Z[n % lc Z]?=E (j,M)) :Calls ZP 201 #[L (E ⟨Q,0,O⟩),R K (n:Int),T a m c] w λe w'=>e=ra (i6 G)/\BZ X Q B next (Z.set (n % lc Z) ((a,m,c),G)) w'/\Chg X w w':=by
 have HA:=aaC n w h hn hx;rw[U]at HA;have HA:=AA HA;have A:Hid (∀V,La w V->BZ X Q B next Z V/\Calls ZP 170 #[L (E ⟨Q,0,O⟩),R K (n:Int)] V λe w'=>e=ra (L (E ⟨B,n % lc Z*2,O⟩))/\La V w'):=λV hV=>by have:=h.keep (Y:=λ_=>False) (.of_same hV) λ_ _ _ h=>h;exact⟨this,abP n V this om⟩
 obtain⟨p,H⟩:∃p,n % lc Z=p:=⟨_,rfl⟩;rw[H]at A hp⊢;have HP:=AA hp;clear h U H hp;go_enter func201,ntmps201
 go_wp2_with (go_at_call 189;refine HA.out.mono ?_;rintro e w1 ⟨rfl,N⟩)
 have a2:=AA (A.out w1 N).2;have v:=AA N;clear N
 go_wp2_with fail
 refine a2.out.mono ?_;rintro e w2 ⟨rfl,C⟩;have J:=v.out.trans (C.mono v.out.size);obtain⟨h2,_⟩:=A.out w2 J;have x1:w2.cell? ⟨B,p*2+1,O⟩=E (i6 M):=by have:=(Hz HP.out).2;simp[cell?,h2.places];exact this
 have I:=AA J;clear C J h2;go_upto_region 3 with fail
 have a1:=AA (A.out w2 I.out).2;clear x1
 go_wp2_with fail
 refine a1.out.mono ?_;rintro e s ⟨rfl,D⟩;have J:=I.out.trans (D.mono I.out.size);obtain⟨h3,_⟩:=A.out s J;have y0:s.cell? ⟨B,p*2,O⟩=E (T j.1 j.2.1 j.2.2):=by have:=(Hz HP.out).1;simp[cell?,h3.places];exact this
 have y1:s.cell? ⟨B,p*2+1,O⟩=E (i6 M):=by have:=(Hz HP.out).2;simp[cell?,h3.places];exact this
 have f0:∀i,s.frozen? ⟨B,i,O⟩=M:=λi=>by simp[frozen?,h3.places]
 have f1:=f0 (p*2);have f2:=f0 (p*2+1);obtain⟨g1,g2⟩:=h3.setP p ((a,m,c),G);have G1:=AA g1;have G2:=AA ((Chg.of_same J).then g2);clear D J h3 g1 g2 f0;go_wp2;go_ret;exact⟨rfl,G1.out,G2.out⟩
abbrev TVw:=Option Addr×Nat×Nat
abbrev svW(v:TVw):Vk:=T v.1 v.2.1 v.2.2
structure BY(X:Nat->Prop)(S:Nat)(a:Option Addr)(n c:Nat)(vs:List TVw)(rs:Lb)(br:Bool)(told:Nat)(w:World):Prop where
 box:w.heap[S]?=some (.cells #[T a n c,i6 br,R K (told:Int)] 186 (0,0))
 inX:X S
 row:Sl1 svW w a n vs
 rowB:n≠0->∀q,a=some q->X q.block/\q.block≠S/\∃cur,w.heap[q.block]?=some (.cells cur 32 (0,0))
 len:vs.length=rs.length
 cap:n<=c
 el:∀(i:Nat)(v:TVw)(xs:List Int),vs[i]?=some v->rs[i]?=some xs->Bys w v.1 v.2.1 xs/\v.2.1<=v.2.2/\(v.2.1≠0->∀q,v.1=some q->X q.block/\q.block≠S/\∀q',a=some q'->q.block≠q'.block)
section
variable {X Y:Nat->Prop}{S n c told m:Nat}{a b:Option Addr}{vs:List TVw}{rs:Lb}{br:Bool}{w w':Wa}{xs:List Int}
theorem Bys.same(h:Bys w b m xs)(Z:w.heap.size<=w'.heap.size)(hk:m≠0->∀q,b=E q->w'.heap[q.block]?=w.heap[q.block]?):Bys w' b m xs:=by
 refine⟨⟨h.1.1,?_⟩,h.2⟩
 by_cases h0:m=0
 ·exact .inl h0
 ·obtain⟨g,o,e,U,V⟩:=h.1.2.resolve_left h0;refine .inr ⟨g,o,e,Af U Z,λi x N=>?_⟩;have J:w'.heap[g]?=w.heap[g]?:=hk h0 ⟨g,o,O⟩ e;rw[BC (a:=⟨g,o+i,O⟩) J];exact V i x N
theorem Bys.lt(h:Bys w b m xs)(h0:m≠0):∀q,b=E q->q.block<w.heap.size:=λq Z=>by
 obtain⟨g,o,e,V,_⟩:=h.1.2.resolve_left h0;rw[Z]at e
 cases AK e
 exact V
theorem BY.keep(h:BY X S a n c vs rs br told w)(N:Chg Y w w')(C:∀k,k<w.heap.size->X k->¬Y k):BY X S a n c vs rs br told w':=by
 have B:=(AD.1 h.box).1;have U:∀k,k<w.heap.size->X k->w'.heap[k]?=w.heap[k]?:=λk hk Z=>N.block k hk (C k hk Z);refine⟨(U S B h.inX).trans h.box,h.inX,⟨h.row.1,?_⟩,λh0 q V=>?_,h.len,h.cap,λi v xs H Z=>?_⟩
 ·by_cases h0:n=0
  ·exact .inl h0
  ·obtain⟨b,o,e,I,Z⟩:=h.row.2.resolve_left h0;refine .inr ⟨b,o,e,Af I N.size,λi x D=>?_⟩;rw[BC (a:=⟨b,o+i,O⟩) (U b I (h.rowB h0 _ e).1)];exact Z i x D
 ·obtain⟨h1,h2,J,h3⟩:=h.rowB h0 q V;exact⟨h1,h2,J,(U _ (AD.1 h3).1 h1).trans h3⟩
 ·obtain⟨h1,h2,h3⟩:=h.el i v xs H Z;exact⟨h1.same N.size λh0 q V=>U _ (h1.lt h0 q V) (h3 h0 q V).1,h2,h3⟩
theorem BY.wide(h:BY X S a n c vs rs br told w)(V:∀k,k<w.heap.size->X k->Y k):BY Y S a n c vs rs br told w:=by
 refine⟨h.box,V S (AD.1 h.box).1 h.inX,h.row,λh0 q Z=>?_,h.len,h.cap,λi v xs J N=>?_⟩
 ·obtain⟨h1,h2,U,h3⟩:=h.rowB h0 q Z;exact⟨V _ (AD.1 h3).1 h1,h2,U,h3⟩
 ·obtain⟨h1,h2,h3⟩:=h.el i v xs J N;exact⟨h1,h2,λh0 q Z=>⟨V _ (h1.lt h0 q Z) (h3 h0 q Z).1,(h3 h0 q Z).2⟩⟩
theorem BY.turn{a2:Option Addr}{I c2 Z:Nat}{V:List TVw}{U:Lb}(h:BY X S a n c vs rs br told w)(a1:w.heap.size<=w'.heap.size)(hb:w'.heap[S]?=E (i7 #[T a2 I c2,i6 br,R K (Z:Int)] 186 (0,0)))
  (ho:∀k,k<w.heap.size->k≠S->(∀q,a=E q->k≠q.block)->w'.heap[k]?=w.heap[k]?) (hr:Sl1 svW w' a2 I V) (hn:I≠0->n≠0/\∀q,a2=E q->(∃q',a=E q'/\q.block=q'.block)/\∃N,w'.heap[q.block]?=E (i7 N 32 (0,0)))
  (hl:lc V=lc U) (hc:I<=c2) (a7:∀B,a2=E B->∃q',a=E q'/\B.block=q'.block)
  (he:∀(i:Nat)(v:TVw)(xs:List Int),V[i]?=E v->U[i]?=E xs->∃(j:Nat)(v0:TVw)(s:List Int),vs[j]?=E v0/\rs[j]?=E s/\Bys w v.1 v.2.1 xs/\v.2.1<=v.2.2/\(v.2.1≠0->∀q,v.1=E q->v0.2.1≠0/\∃J,v0.1=E J/\q.block=J.block)) :
  BY X S a2 I c2 V U br Z w':=by
 refine⟨hb,h.inX,hr,λh0 q A=>?_,hl,hc,λi v xs hv hx=>?_⟩
 ·obtain⟨h1,h2⟩:=hn h0;obtain⟨⟨q',e1,e2⟩,N,h3⟩:=h2 q A;obtain⟨g1,g2,_⟩:=h.rowB h1 q' e1;rw[e2]at h3⊢;exact⟨g1,g2,N,h3⟩
 ·obtain⟨j,v0,s,j1,j2,C,a6,A⟩:=he i v xs hv hx;obtain⟨_,_,g3⟩:=h.el j v0 s j1 j2;refine⟨C.same a1 λh0 q e=>?_,a6,λh0 q e=>?_⟩
  ·obtain⟨h1,J,e0,eb⟩:=A h0 q e;obtain⟨k1,D,H⟩:=g3 h1 J e0;rw[<-eb]at D H;exact ho _ (C.lt h0 q e) D H
  ·obtain⟨h1,J,e0,eb⟩:=A h0 q e;obtain⟨k1,D,H⟩:=g3 h1 J e0;rw[<-eb]at k1 D H;refine⟨k1,D,λB e2=>?_⟩;obtain⟨q',e3,e4⟩:=a7 B e2;rw[e4];exact H q' e3
end
theorem ahB{X:Nat->Prop}{S n c told:Nat}{a:Option Addr}{vs:List TVw}{rs:Lb}{br:Bool}(w:Wa)(h:BY X S a n c vs rs br told w) :Calls ZP 234 #[L (E ⟨S,0,O⟩)] w λe w'=>e=ra (i6 (decide (n=0)))/\w'=w:=by
 have c0:w.cell? ⟨S,0,O⟩=E (T a n c):=by simp[cell?,h.box]
 have Z:((n:Int)==0)=decide (n=0):=by rw[Db];simp
 have e2:decide ((n:Int)=0)=decide (n=0):=by rw[Db];simp
 clear h;go_enter func234,ntmps234;go_wp2;go_ret;refine⟨?_,rfl⟩
 first|rfl|simp|(simp;omega)
theorem aqc{X:Nat->Prop}{S n c told:Nat}{a:Option Addr}{vs:List TVw}{rs:Lb}{br:Bool}(w:Wa)(h:BY X S a n c vs rs br told w) :Calls ZP 76 #[L (E ⟨S,0,O⟩)] w λe w'=>e=ra (i6 br)/\La w w':=by
 have c1:w.cell? ⟨S,1,O⟩=E (i6 br):=by simp[cell?,h.box]
 have Z:=AA (λq=>AN w q);clear h;go_enter func76,ntmps76;go_wp2;go_ret;exact⟨rfl,AH _ _⟩
section
variable {X:Nat->Prop}{S n c told m Ra o:Nat}{a2:Option Addr}{v v2:TVw}{vt:List TVw}{x x2:List Int}{t:Lb}{br:Bool}{w:Wa}
theorem BY.shift(h:BY X S (E ⟨Ra,o,O⟩) (m+1) c (v::vt) (x::t) br told w)(u:Vk)(ha:a2=E ⟨Ra,o,O⟩/\m=0∨a2=E ⟨Ra,o+1,O⟩) :BY X S a2 m (c-1) vt t br told ((w.setCell ⟨Ra,o,O⟩ u).setCell ⟨S,0,O⟩ (T a2 m (c-1)))/\Chg X w ((w.setCell ⟨Ra,o,O⟩ u).setCell ⟨S,0,O⟩ (T a2 m (c-1))):=by
 obtain⟨a1,D,a7,N⟩:=h.rowB om _ rfl;obtain⟨J,V⟩:∃U,U=w.setCell ⟨Ra,o,O⟩ u:=⟨_,rfl⟩;rw[<-V];have A:∀k,k≠Ra->J.heap[k]?=w.heap[k]?:=λk hk=>by rw[V];exact AQ w ⟨Ra,o,O⟩ _ k hk
 have I:∀k,k≠S->(J.setCell ⟨S,0,O⟩ (T a2 m (c-1))).heap[k]?=J.heap[k]?:=λk hk=>AQ J ⟨S,0,O⟩ _ k hk;have s:J.heap.size=w.heap.size:=by rw[V];simp[World.setCell]
 have j:J.heap[S]?=E (i7 #[T (E ⟨Ra,o,O⟩) (m+1) c,i6 br,R K (told:Int)] 186 (0,0)):=(A S λe=>D e.symm).trans h.box;have C:J.heap[Ra]?=E (i7 (a7.setIfInBounds o u) 32 (0,0)):=by rw[V];exact AJ N u
 obtain⟨R',o',e,a8,a6⟩:=h.row.2.resolve_left om
 cases AK e
 have H:∀i,0<i->J.cell? ⟨Ra,o+i,O⟩=w.cell? ⟨Ra,o+i,O⟩:=λi hi=>by simp only[cell?,C,show w.heap[Ra]?=_ from N];simp[Array.getElem?_setIfInBounds];omega
 have Z:∀q,a2=E q->q.block=Ra:=λq B=>by rcases ha with⟨e,_⟩|e<;>(rw[B]at e;cases AK e;rfl)
 refine⟨h.turn (by simp[World.setCell]at s⊢;omega) (AJ (i:=0) j _) (λk _ h1 h2=>(I k h1).trans (A k (h2 _ rfl))) ⟨by have:=h.row.1;simpa using this,?_⟩ (λh0=>⟨by omega,λq B=>⟨⟨_,rfl,Z q B⟩,?_⟩⟩) (by have:=h.len;simpa using this) (by have:=h.cap;omega) (λq B=>⟨_,rfl,Z q B⟩) (λi v3 xs hv hx=>?_),?_⟩
 ·by_cases h0:m=0
  ·exact .inl h0
  ·have ea:a2=E ⟨Ra,o+1,O⟩:=ha.elim (λh=>absurd h.2 h0) id;refine .inr ⟨Ra,o+1,ea,by simp[World.setCell];have:=(AD.1 C).1;exact this,λi y hy=>?_⟩;rw[BC (a:=⟨Ra,o+1+i,O⟩) (I Ra D),show o+1+i=o+(i+1) by omega,H (i+1) om];exact a6 (i+1) y hy
 ·rw[Z q B,I Ra D];exact⟨_,C⟩
 ·obtain⟨g1,g2,g3⟩:=h.el (i+1) v3 xs hv hx;exact⟨i+1,v3,xs,hv,hx,g1,g2,λh0 q e=>⟨h0,q,e,rfl⟩⟩
 ·rw[V];exact((Chg.refl X w).set a1).set h.inX
theorem BY.trim(h:BY X S (E ⟨Ra,o,O⟩) n c (v::vt) (x::t) br told w)(B:n≠0)(D:Bys w v2.1 v2.2.1 x2)(A:v2.2.1<=v2.2.2)(N:v2.2.1≠0->∀q,v2.1=E q->v.2.1≠0/\∃q0,v.1=E q0/\q.block=q0.block) :BY X S (E ⟨Ra,o,O⟩) n c (v2::vt) (x2::t) br told (w.setCell ⟨Ra,o,O⟩ (svW v2))/\Chg X w (w.setCell ⟨Ra,o,O⟩ (svW v2)):=by
 obtain⟨j,a1,U,Z⟩:=h.rowB B _ rfl;have J:∀k,k≠Ra->(w.setCell ⟨Ra,o,O⟩ (svW v2)).heap[k]?=w.heap[k]?:=λk hk=>AQ w ⟨Ra,o,O⟩ _ k hk;have s:=(J S λe=>a1 e.symm).trans h.box;have V:(w.setCell ⟨Ra,o,O⟩ (svW v2)).heap[Ra]?=E (i7 (U.setIfInBounds o (svW v2)) 32 (0,0)):=AJ Z _;obtain⟨R',o',e,a6,I⟩:=h.row.2.resolve_left B
 cases AK e
 have ho:o<U.size:=by
  have h1:=I 0 v rfl;simp only[cell?,show w.heap[Ra]?=_ from Z]at h1;have h2:U[o+0]?=E (svW v):=by simpa using h1
  exact(AD.1 h2).1
 refine⟨h.turn (by simp[World.setCell]) s (λk _ h1 h2=>J k (h2 _ rfl)) ⟨by have:=h.row.1;simpa using this,.inr ⟨Ra,o,rfl,(AD.1 V).1,λi y hy=>?_⟩⟩ (λh0=>⟨B,λq N=>⟨⟨q,N,rfl⟩,by cases AK N;exact⟨_,V⟩⟩⟩) (by have:=h.len;simpa using this) h.cap (λq N=>⟨q,N,rfl⟩) (λi v3 xs C H=>?_),(Chg.refl X w).set j⟩
 ·cases i with
  |zero=>
   cases AK hy
   simp only[cell?,V];simp[ho]
  |succ i=>
   have h1:=I (i+1) y hy;simp only[cell?,show w.heap[Ra]?=_ from Z]at h1;simp only[cell?,V];simp[Array.getElem?_setIfInBounds]at h1⊢;exact h1
 ·cases i with
  |zero=>
   cases AK C
   cases AK H
   exact⟨0,v,x,rfl,rfl,D,A,N⟩
  |succ i=>
   obtain⟨g1,g2,g3⟩:=h.el (i+1) v3 xs C H;exact⟨i+1,v3,xs,C,H,g1,g2,λh0 q e=>⟨h0,q,e,rfl⟩⟩
end
def Dg(Z:Int)(x:List Int):List Int:=if(lc x:Int)<=Z then x else x.take Z.toNat
def GX(Z:Int)(x:List Int)(t:Lb):Lb:=if(lc x:Int)<=Z then t else x.drop Z.toNat::t
def OA(X:Nat->Prop)(S told n:Nat)(x:List Int)(t:Lb)(br:Bool)(Z:Int)(w:Wa)(e:Ending)(w':Wa):Prop:=
 ∃(b':Option Addr)(N J:Nat)(a2:Option Addr)(U c2:Nat)(V:List TVw),e=ra (T b' N J)/\Bys w' b' N (Dg Z x)/\BY X S a2 U c2 V (GX Z x t) br told w'/\Chg X w w'/\U<=n
theorem ai2{X:Nat->Prop}{S n c told:Nat}{a:Option Addr}{vs:List TVw}{x:List Int}{t:Lb}{br:Bool}(Z:Int)(w:Wa)(h:BY X S a n c vs (x::t) br told w)(hm:1<=Z)(hn:n<=1000000) :Calls ZP 235 #[L (E ⟨S,0,O⟩),R K Z] w (OA X S told n x t br Z w):=by
 obtain⟨v,vt,rfl⟩:∃v vt,vs=v::vt:=by
  cases vs with
  |nil=>have:=h.len;simp at this
  |cons v vt=>exact⟨v,vt,rfl⟩
 have ag:n=lc vt+1:=by rw[<-h.row.1];rfl
 subst ag;obtain⟨Ra,o,rfl,ao,a1⟩:=h.row.2.resolve_left om;obtain⟨am,ak,aq,C⟩:=h.rowB om _ rfl;obtain⟨hv,ae,A⟩:=h.el 0 v x rfl rfl;obtain⟨a0,N,c0⟩:=v;dsimp only at hv ae A;have J:lc x=N:=hv.1.1;have s0:w.cell? ⟨S,0,O⟩=E (T (E ⟨Ra,o,O⟩) (lc vt+1) c):=by simp[cell?,h.box]
 have r0:w.cell? ⟨Ra,o,O⟩=E (T a0 N c0):=a1 0 _ rfl;have f0:w.frozen? ⟨Ra,o,O⟩=M:=by simp[frozen?,C]
 have af:=h.cap;have s:∀k,N≠0->(∃q,a0=E q/\q.block=k)->k≠S/\k≠Ra:=λk h0 ⟨q,e,e2⟩=>by obtain⟨_,B,g3⟩:=A h0 q e;exact⟨by rw[<-e2];exact B,by rw[<-e2];exact g3 _ rfl⟩
 have HH:=AA h;have HV:=AA hv
 by_cases I:(N:Int)<=Z
 ·have d0:decide ((N:Int)<=Z)=G:=Vb I;have ht:Dg Z x=x:=by unfold Dg;rw[J,Lq I]
  have hr:GX Z x t=t:=by unfold GX;rw[J,Lq I]
  have HT:=AA ht;have a6:=AA hr;obtain⟨W1,D⟩:∃U,U=w.setCell ⟨Ra,o,O⟩ (T O 0 0):=⟨_,rfl⟩;have ab:W1.heap[S]?=E (i7 #[T (E ⟨Ra,o,O⟩) (lc vt+1) c,i6 br,R K (told:Int)] 186 (0,0)):=by rw[D,AQ w ⟨Ra,o,O⟩ _ S (λe=>ak e.symm)];exact h.box
  have s1:W1.cell? ⟨S,0,O⟩=E (T (E ⟨Ra,o,O⟩) (lc vt+1) c):=by simp[cell?,ab]
  have f1:W1.frozen? ⟨S,0,O⟩=M:=by simp[frozen?,ab]
  have ac:Hid (∀u,Bys ((w.setCell ⟨Ra,o,O⟩ (T O 0 0)).setCell ⟨S,0,O⟩ u) a0 N x):=λu=>hv.same (by simp[World.setCell]) λh0 q e=>by obtain⟨j,B⟩:=s q.block h0 ⟨q,e,rfl⟩;rw[AQ _ ⟨S,0,O⟩ _ _ j,AQ _ ⟨Ra,o,O⟩ _ _ B]
  by_cases aj:c=1
  ·subst aj;have h0:lc vt=0:=by omega
   obtain⟨j,B⟩:=h.shift (a2:=E ⟨Ra,o,O⟩) (T O 0 0) (.inl ⟨rfl,h0⟩);have G1:=AA j;have G2:=AA B;clear j B h hv A s a1 h0 ht hr J C I af;go_enter func235,ntmps235;go_upto_region 4 with fail
   rw[<-D];have a7:=AA D;clear D s0 r0 f0;go_wp2;go_ret;unfold OA;rw[a7.out,HT.out,a6.out];exact⟨a0,N,c0,_,_,_,vt,rfl,ac.out _,G1.out,G2.out,by omega⟩
  ·obtain⟨j,B⟩:=h.shift (a2:=E ⟨Ra,o+1,O⟩) (T O 0 0) (.inr rfl);have G1:=AA j;have G2:=AA B;clear j B h hv A s a1 ht hr J C I;go_enter func235,ntmps235;go_upto_region 4 with fail
   rw[<-D];have a7:=AA D;clear D s0 r0 f0;go_wp2;go_ret;unfold OA;rw[a7.out,HT.out,a6.out];exact⟨a0,N,c0,_,_,_,vt,rfl,ac.out _,G1.out,G2.out,by omega⟩
 ·have d0:decide ((N:Int)<=Z)=M:=decide_eq_false I;obtain⟨k,rfl⟩:=Mb (show 0<=Z by omega);have ht:Dg (k:Int) x=x.take k:=by unfold Dg;rw[J,Lc I,Aa]
  have hr:GX (k:Int) x t=x.drop k::t:=by unfold GX;rw[J,Lc I,Aa]
  have HT:=AA ht;have a6:=AA hr;have ai:k<N:=by omega
  have ap:decide (N<=k)=M:=decide_eq_false om;obtain⟨g,H,rfl,_,_⟩:=hv.1.2.resolve_left om;have aa:∀V,Bys V (E ⟨g,H,O⟩) N x->Bys V (E ⟨g,H+k,O⟩) (N-k) (x.drop k):=λV hV=>by have:=hV.cut (lo:=k) (m:=N-k) om;rw[Ap (by rw[List.length_drop,J];exact AC _),Dw,Cf]at this;exact this
  have a8:∀V,Bys V (E ⟨g,H,O⟩) N x->Bys V (E ⟨g,H,O⟩) k (x.take k):=λV hV=>by
   have:=hV.cut (lo:=0) (m:=k) om;rw[List.drop_zero]at this;have e:(E (⟨g,H,O⟩:Addr)).map (·.add 0)=E ⟨g,H,O⟩:=rfl
   rwa[e]at this
  have k0:(0:Int)<=(k:Int):=by omega
  have k1:(k:Int)<=(N:Int):=by omega
  have k2:k<=N:=by omega
  have k3:(k:Int)<=(c0:Int):=by omega
  have k4:k<=c0:=by omega
  have k5:¬c0=k:=by omega
  have al:Hid (∀q,BY X S (E ⟨Ra,o,O⟩) (lc vt+1) c ((E ⟨g,H,O⟩,N,c0)::vt) (x::t) br told (w.drewN q)/\Bys (w.drewN q) (E ⟨g,H,O⟩) N x/\La w (w.drewN q)):=λq=>⟨h.keep (Y:=λ_=>False) (.of_same (AN w q)) λ_ _ _ h=>h,hv.same (AC _) λ_ _ _=>rfl,AN w q⟩;have HF:Hid (∀V,BY X S (E ⟨Ra,o,O⟩) (lc vt+1) c ((E ⟨g,H,O⟩,N,c0)::vt) (x::t) br told V->Bys V (E ⟨g,H,O⟩) N x->BY X S (E ⟨Ra,o,O⟩) (lc vt+1) c ((E ⟨g,H+k,O⟩,N-k,c0-k)::vt) (x.drop k::t) br told (V.setCell ⟨Ra,o,O⟩ (T (E ⟨g,H+k,O⟩) (N-k) (c0-k)))/\Chg X V (V.setCell ⟨Ra,o,O⟩ (T (E ⟨g,H+k,O⟩) (N-k) (c0-k)))/\Bys (V.setCell ⟨Ra,o,O⟩ (T (E ⟨g,H+k,O⟩) (N-k) (c0-k))) (E ⟨g,H,O⟩) k (x.take k)):=λV hV hb=>by obtain⟨j,B⟩:=hV.trim (v2:=(E ⟨g,H+k,O⟩,N-k,c0-k)) (x2:=x.drop k) om (aa V hb) (by show N-k<=c0-k;omega) (λh0 q e=>⟨by show N≠0;omega,_,rfl,by cases AK e;rfl⟩);refine⟨j,B,a8 _ (hb.same (by simp[World.setCell]) λh0 q e=>?_)⟩;exact AQ V ⟨Ra,o,O⟩ _ _ (s q.block h0 ⟨q,e,rfl⟩).2
  clear h hv A a1 ht hr J C I aa a8 s ai;go_enter func235,ntmps235;go_upto_region 6 with fail
  go_region
  go_wp2;go_ret;unfold OA;rw[HT.out,a6.out];obtain⟨h1,h2,h3⟩:=al.out 1;obtain⟨j,B,g3⟩:=HF.out _ h1 h2;exact⟨E ⟨g,H,O⟩,k,c0,_,_,_,_,rfl,g3,j,(Chg.of_same h3).then B,AC _⟩
def BR(Z:Int):Lb->List Int
 |[]=>[]
 |x::_=>if Z<1 then [] else Dg Z x
def EB(Z:Int):Lb->Lb
 |[]=>[]
 |x::t=>if Z<1 then x::t else GX Z x t
theorem BY.told{X:Nat->Prop}{S n c told:Nat}{a:Option Addr}{J:List TVw}{rs:Lb}{br:Bool}{w:Wa}(h:BY X S a n c J rs br told w)(Z:Nat) :BY X S a n c J rs br Z (w.setCell ⟨S,2,O⟩ (R K (Z:Int)))/\Chg X w (w.setCell ⟨S,2,O⟩ (R K (Z:Int))):=by
 have hk:∀k,k≠S->(w.setCell ⟨S,2,O⟩ (R K (Z:Int))).heap[k]?=w.heap[k]?:=λk hk=>AQ w ⟨S,2,O⟩ _ k hk;refine⟨h.turn (by simp[World.setCell]) (AJ (i:=2) h.box _) (λk _ h1 _=>hk k h1) ⟨h.row.1,?_⟩ (λh0=>⟨h0,λq U=>?_⟩) h.len h.cap (λq U=>⟨q,U,rfl⟩) (λi v xs I V=>?_),(Chg.refl X w).set h.inX⟩
 ·by_cases h0:n=0
  ·exact .inl h0
  ·obtain⟨b,o,e,H,V⟩:=h.row.2.resolve_left h0;obtain⟨_,Y,_⟩:=h.rowB h0 _ e;refine .inr ⟨b,o,e,by simpa[World.setCell]using H,λi x D=>?_⟩;rw[BC (a:=⟨b,o+i,O⟩) (hk b Y)];exact V i x D
 ·obtain⟨_,Y,N,C⟩:=h.rowB h0 q U;exact⟨⟨q,U,rfl⟩,N,(hk _ Y).trans C⟩
 ·obtain⟨A,B,s⟩:=h.el i v xs I V;exact⟨i,v,xs,I,V,A,B,λh0 q e=>⟨h0,q,e,rfl⟩⟩
def anM(X:Nat->Prop)(S told n:Nat)(rs:Lb)(br:Bool)(Z:Int)(w:Wa)(e:Ending)(w':Wa):Prop:=
 ∃(v:Vk)(a2:Option Addr)(V c2:Nat)(Y:List TVw),e=ra (ta #[v,i6 rs.isEmpty])/\Ch w' w.heap.size v (BR Z rs).length (BR Z rs)/\(∀x∈BR Z rs,0<=x/\x<=255)/\BY X S a2 V c2 Y (EB Z rs) br (told+(BR Z rs).length) w'/\Chg X w w'/\V<=n
theorem age{X:Nat->Prop}{S n c told:Nat}{a:Option Addr}{vs:List TVw}{rs:Lb}{br:Bool}(Z:Int)(w:Wa)(h:BY X S a n c vs rs br told w)(hn:n<=1000000)(hl:∀x∈rs,lc x<=1000000)(ht:told<=1000000000) :Calls ZP 192 #[L (E ⟨S,0,O⟩),R K Z] w (anM X S told n rs br Z w):=by
 have H:=ahB w h;have HH:=AA h
 cases rs with
 |nil=>
  have h0:n=0:=by have h1:=h.len;have h2:=h.row.1;simp at h1;rw[h1]at h2;exact h2.symm
  rw[Vb h0]at H;have HE:=AA H;clear h H h0;go_enter func192,ntmps192
  go_wp2_with (go_at_call 234;refine HE.out.mono ?_;rintro e w1 ⟨rfl,rfl⟩)
  go_ret2;exact⟨_,_,_,_,_,rfl,BN _ _ _ _,(by intro x hx;simp[BR]at hx),HH.out,Chg.refl _ _,AC _⟩
 |cons x t=>
  have h0:n≠0:=by have h1:=h.len;have h2:=h.row.1;simp at h1;omega
  rw[decide_eq_false h0]at H;have HE:=AA H;have ae:=AA h0;clear h H h0
  by_cases J:Z<1
  ·have d0:decide (Z<1)=G:=Vb J;have A:BR Z (x::t)=[]:=Lq J;have e2:EB Z (x::t)=x::t:=Lq J;have V:=AA (Va A e2);clear A e2 J;go_enter func192,ntmps192
   go_wp2_with (go_at_call 234;refine HE.out.mono ?_;rintro e w1 ⟨rfl,rfl⟩)
   go_ret2;unfold anM;rw[V.out.1,V.out.2];exact⟨_,_,_,_,_,rfl,BN _ _ _ _,(by intro x hx;simp[BR]at hx),HH.out,Chg.refl _ _,AC _⟩
  ·have d0:decide (Z<1)=M:=decide_eq_false J;have A:BR Z (x::t)=Dg Z x:=Lc J;have e2:EB Z (x::t)=GX Z x t:=Lc J;have V:=AA (Va A e2);have HC:=AA (ai2 Z w HH.out om hn);have D:(Dg Z x).length<=1000000:=by
    have:=hl x sm;unfold Dg
    split
    ·exact this
    ·rw[Ag];omega
   have v:=AA D;clear A e2 J D;go_enter func192,ntmps192;go_upto_region 5 with(go_at_call 234;refine HE.out.mono ?_;rintro e w1 ⟨rfl,rfl⟩)
   go_wp2_with fail
   refine HC.out.mono ?_;rintro e w1 ⟨b',I,c',a2,n2,c2,a1,rfl,N,hs,hc,B⟩;have C:(Dg Z x).length=I:=N.1.1;have aa:=AA (acP b' I c' ((Dg Z x).map (Value.int .u8)) w1 (Jz N.1) (λu hu=>by obtain⟨x,_,rfl⟩:=Be.1 hu;rfl) (by have:=v.out;omega));have ab:=AA N;have HS:=AA hs;have s:=AA hc;have a8:=AA B;have HM:=AA C;clear N hs hc B C
   go_wp2_with fail
   refine aa.out.mono ?_;rintro e j ⟨v2,rfl,ho,hb⟩;obtain⟨b2,k2,a6,_,_⟩:=SlK.own ho;subst a6;have U:BY X S a2 n2 c2 a1 (GX Z x t) br told j:=HS.out.keep (Y:=λ_=>False) (.of_same hb) λ_ _ _ h=>h;have ac:I<=1000000:=by have:=v.out;have:=HM.out;omega
   have s2:j.cell? ⟨S,2,O⟩=E (R K (told:Int)):=by simp[cell?,U.box]
   have f2:j.frozen? ⟨S,2,O⟩=M:=by simp[frozen?,U.box]
   have hw:IntKind.i64.wrap ((told:Int)+(I:Int))=((told+I:Nat):Int):=by rw[BK];omega
   obtain⟨Ta,hT⟩:∃Ta,told+I=Ta:=⟨_,rfl⟩;rw[hT]at hw;obtain⟨g1,g2⟩:=U.told Ta;have G1:=AA g1;have G2:=AA (s.out.same hb |>.then g2);have HO:=AA ho;have HB:=AA hb;have HT:=AA hT;have a7:Hid (∀g,(T b2 I k2).ownBlock=E g->g≠S):=λg e=>by have h1:=(Gw ho g e).1;have h2:=(AD.1 HS.out.box).1;omega
   clear ho hb U g1 g2 hT;go_wp2;go_ret2;unfold anM;rw[V.out.1,V.out.2,HM.out,HT.out];refine⟨_,_,_,_,_,rfl,?_,ab.out.2,G1.out,G2.out,a8.out⟩;refine NC (Fu HO.out λg e=>?_) s.out.size;exact AQ j ⟨S,2,O⟩ _ g (a7.out g e)
def NM(p:AF):List Vk:=[R K p.1,R K p.2]
def CJ(l:List AF):List Vk:=l.flatMap NM
theorem Lh(p:AF)(l:List AF):CJ (p::l)=NM p++CJ l:=by simp[CJ]
theorem agi(l:List AF):(CJ l).length=lc l*2:=by
 induction l with
 |nil=>rfl
 |cons p l ih=>
  rw[Lh,List.length_append,ih,Ao];show 2+lc l*2=_;omega
theorem NO:∀{l:List AF}{i:Nat}{p:AF},l[i]?=E p->(CJ l)[i*2]?=E (R K p.1)/\(CJ l)[i*2+1]?=E (R K p.2)
 |[],i,p,h=>by simp at h
 |q::l,0,p,h=>by
  cases AK h
  exact⟨rfl,rfl⟩
 |q::l,i+1,p,h=>by have:=NO (l:=l) (i:=i) (p:=p) (by simpa using h);rw[Lh,show(i+1)*2=i*2+1+1 by omega];exact this
theorem agv:∀(l:List AF)(i:Nat)(p:AF),CJ (l.set i p)=((CJ l).set (i*2) (R K p.1)).set (i*2+1) (R K p.2)
 |[],i,p=>by simp[CJ]
 |q::l,0,p=>by simp[Lh,NM]
 |q::l,i+1,p=>by
  have:=agv l i p;rw[List.set_cons_succ,Lh,Lh,this,show(i+1)*2=i*2+1+1 by omega]
  rfl
structure AY(X:Nat->Prop)(Q B first many:Nat)(closed:Bool)(ps:List AF)(w:World):Prop where
 box:w.heap[Q]?=some (.cells #[T (some ⟨B,0,none⟩) ps.length ps.length,R K (first:Int),R K (many:Int),i6 closed] 205 (0,0))
 places:w.heap[B]?=some (.cells (CJ ps).toArray 116 (0,0))
 inX:X Q/\X B
 ne:Q≠B
 room:1<=ps.length/\ps.length<=16/\first<ps.length/\many<=ps.length
section
variable {X Y:Nat->Prop}{Q B first many:Nat}{closed:Bool}{ps:List AF}{w w':Wa}
theorem AY.keep(h:AY X Q B first many closed ps w)(N:Chg Y w w')(U:∀k,k<w.heap.size->X k->¬Y k):AY X Q B first many closed ps w':=by have Z:∀k o,w.heap[k]?=E o->X k->w'.heap[k]?=E o:=λk o hk V=>(N.block k (AD.1 hk).1 (U k (AD.1 hk).1 V)).trans hk;exact⟨Z _ _ h.box h.inX.1,Z _ _ h.places h.inX.2,h.inX,h.ne,h.room⟩
theorem AY.below(h:AY X Q B first many closed ps w)(Z:La w w'):AY X Q B first many closed ps w':=h.keep (Y:=λ_=>False) (.of_same Z) λ_ _ _ h=>h
theorem AY.wide(h:AY X Q B first many closed ps w)(Z:∀k,k<w.heap.size->X k->Y k):AY Y Q B first many closed ps w:=⟨h.box,h.places,⟨Z _ (AD.1 h.box).1 h.inX.1,Z _ (AD.1 h.places).1 h.inX.2⟩,h.ne,h.room⟩
def AY.putW(w:Wa)(B i:Nat)(p:AF):Wa:=(w.setCell ⟨B,i*2,O⟩ (R K p.1)).setCell ⟨B,i*2+1,O⟩ (R K p.2)
theorem AY.setP(h:AY X Q B first many closed ps w)(i:Nat)(p:AF):AY X Q B first many closed (ps.set i p) (AY.putW w B i p)/\Chg X w (AY.putW w B i p):=by
 have h0:=h.places;have h1:=AJ (i:=i*2) h0 (R K p.1);have h2:=AJ (i:=i*2+1) h1 (R K p.2);rw[Fp,Fp,<-agv]at h2;have Z:Chg (λk=>k=B) w (AY.putW w B i p):=by unfold AY.putW;exact((Chg.refl (λk=>k=B) w).set (show B=B from rfl)).set (show B=B from rfl)
 have V:(AY.putW w B i p).heap[Q]?=w.heap[Q]?:=Z.block Q (AD.1 h.box).1 h.ne;exact⟨⟨by rw[BG];exact V.trans h.box,h2,h.inX,h.ne,by rw[BG];exact h.room⟩,Z.mono λk _ e=>by rw[e];exact h.inX.2⟩
theorem AY.setM(h:AY X Q B first many closed ps w)(Z:Nat)(V:Z<=lc ps):AY X Q B first Z closed ps (w.setCell ⟨Q,2,O⟩ (R K (Z:Int)))/\Chg X w (w.setCell ⟨Q,2,O⟩ (R K (Z:Int))):=⟨⟨AJ (i:=2) h.box _,(AQ w ⟨Q,2,O⟩ _ B h.ne.symm).trans h.places,h.inX,h.ne,h.room.1,h.room.2.1,h.room.2.2.1,V⟩,(Chg.refl X w).set h.inX.1⟩
theorem AY.setF(h:AY X Q B first many closed ps w)(Z:Nat)(V:Z<lc ps):AY X Q B Z many closed ps (w.setCell ⟨Q,1,O⟩ (R K (Z:Int)))/\Chg X w (w.setCell ⟨Q,1,O⟩ (R K (Z:Int))):=⟨⟨AJ (i:=1) h.box _,(AQ w ⟨Q,1,O⟩ _ B h.ne.symm).trans h.places,h.inX,h.ne,h.room.1,h.room.2.1,V,h.room.2.2.2⟩,(Chg.refl X w).set h.inX.1⟩
theorem AY.setC(h:AY X Q B first many closed ps w)(c2:Bool):AY X Q B first many c2 ps (w.setCell ⟨Q,3,O⟩ (i6 c2))/\Chg X w (w.setCell ⟨Q,3,O⟩ (i6 c2)):=⟨⟨AJ (i:=3) h.box _,(AQ w ⟨Q,3,O⟩ _ B h.ne.symm).trans h.places,h.inX,h.ne,h.room⟩,(Chg.refl X w).set h.inX.1⟩
end
theorem aec{X:Nat->Prop}{Q B first many:Nat}{closed:Bool}{ps:List AF}(w:Wa)(h:AY X Q B first many closed ps w) :Calls ZP 246 #[L (E ⟨Q,0,O⟩)] w λe w'=>e=ra (R K ((lc ps-many:Nat):Int))/\La w w':=by
 have c0:w.cell? ⟨Q,0,O⟩=E (T (E ⟨B,0,O⟩) (lc ps) (lc ps)):=by simp[cell?,h.box]
 have c2:w.cell? ⟨Q,2,O⟩=E (R K (many:Int)):=by simp[cell?,h.box]
 have J:=AA (λq=>AN w q);have N:=h.room;have U:IntKind.i64.wrap ((lc ps:Int)-(many:Int))=((lc ps-many:Nat):Int):=by rw[BK];omega
 obtain⟨LO,V⟩:∃LO,lc ps=LO:=⟨_,rfl⟩;rw[V]at c0 U⊢;obtain⟨MH,Z⟩:∃MH,LO-many=MH:=⟨_,rfl⟩;rw[Z]at U⊢;clear h N V Z;go_enter func246,ntmps246;go_upto_region 1 with fail
 go_big_quiet (fail)
 go_wp2;go_ret;exact⟨rfl,J.out _⟩
theorem ag5{X:Nat->Prop}{Q B first many:Nat}{closed:Bool}{ps:List AF}(w:Wa)(h:AY X Q B first many closed ps w) :Calls ZP 72 #[L (E ⟨Q,0,O⟩)] w λe w'=>e=ra (i6 closed)/\La w w':=by
 have c0:w.cell? ⟨Q,3,O⟩=E (i6 closed):=by simp[cell?,h.box]
 clear h;go_enter func72,ntmps72;go_wp2;go_ret;exact⟨rfl,AH _ _⟩
theorem aml{X:Nat->Prop}{Q B first many:Nat}{closed:Bool}{ps:List AF}(w:Wa)(h:AY X Q B first many closed ps w) :Calls ZP 68 #[L (E ⟨Q,0,O⟩)] w λe w'=>e=ra (R K (many:Int))/\La w w':=by
 have c0:w.cell? ⟨Q,2,O⟩=E (R K (many:Int)):=by simp[cell?,h.box]
 clear h;go_enter func68,ntmps68;go_wp2;go_ret;exact⟨rfl,AH _ _⟩
theorem ajo{X:Nat->Prop}{Q B first many:Nat}{closed:Bool}{ps:List AF}(w:Wa)(h:AY X Q B first many closed ps w) :Calls ZP 205 #[L (E ⟨Q,0,O⟩)] w λe w'=>e=ra (R K ((lc ps-many:Nat):Int))/\La w w':=by
 have V:=AA (aec w h);clear h;go_enter func205,ntmps205
 go_wp2_with (go_at_call 246;refine V.out.mono ?_;rintro e N ⟨rfl,Z⟩;have U:=AA Z;clear Z)
 go_ret;exact⟨rfl,U.out⟩
theorem ahp{X:Nat->Prop}{Q B first many:Nat}{closed:Bool}{ps:List AF}(w:Wa)(h:AY X Q B first many closed ps w) :Calls ZP 245 #[L (E ⟨Q,0,O⟩)] w λe w'=>e=ra (i6 (!closed))/\AY X Q B first many G ps w'/\Chg X w w':=by
 have c3:w.cell? ⟨Q,3,O⟩=E (i6 closed):=by simp[cell?,h.box]
 have I:w.frozen? ⟨Q,3,O⟩=M:=by simp[frozen?,h.box]
 obtain⟨V,Z⟩:=h.setC G;have J:=AA V;have N:=AA Z;have U:=AA h;clear h V Z
 cases closed with
 |true=>
  go_enter func245,ntmps245;go_wp2;go_ret;exact⟨rfl,U.out,Chg.refl _ _⟩
 |false=>
  go_enter func245,ntmps245;go_wp2;go_ret;exact⟨rfl,J.out,N.out⟩
theorem ak7{X:Nat->Prop}{Q B first many:Nat}{closed:Bool}{ps:List AF}(p:AF)(w:Wa)(h:AY X Q B first many closed ps w)(hm:many<lc ps) :Calls ZP 247 #[L (E ⟨Q,0,O⟩),i8 #[R K p.1,R K p.2]] w λe w'=>(∃v,e=ra v)/\AY X Q B first (many+1) closed (ps.set ((first+many) % lc ps) p) w'/\Chg X w w':=by
 obtain⟨W,hW⟩:∃W,W=w.alloc (i7 #[R K p.1,R K p.2] 116):=⟨_,rfl⟩;have hB:La w W:=by rw[hW];exact AL _ _
 have Z:=h.below hB;have D:W.heap[w.heap.size]?=E (i7 #[R K p.1,R K p.2] 116 (0,0)):=by rw[hW];exact AT _ _
 have x0:W.cell? ⟨w.heap.size,0,O⟩=E (R K p.1):=by simp[cell?,D]
 have x1:W.cell? ⟨w.heap.size,1,O⟩=E (R K p.2):=by simp[cell?,D]
 have c0:W.cell? ⟨Q,0,O⟩=E (T (E ⟨B,0,O⟩) (lc ps) (lc ps)):=by simp[cell?,Z.box]
 have c1:W.cell? ⟨Q,1,O⟩=E (R K (first:Int)):=by simp[cell?,Z.box]
 have c2:W.cell? ⟨Q,2,O⟩=E (R K (many:Int)):=by simp[cell?,Z.box]
 obtain⟨r1,r2,r3,r4⟩:=h.room;obtain⟨LO,hL⟩:∃LO,lc ps=LO:=⟨_,rfl⟩;have e1:IntKind.i64.wrap ((first:Int)+(many:Int))=((first+many:Nat):Int):=by rw[BK];omega
 have e2:((first+many:Nat):Int).tmod (LO:Int)=(((first+many) % LO:Nat):Int):=by rw[Jq om];simp
 have N:(first+many) % LO<LO:=Ek _ om;obtain⟨s,j⟩:∃s,first+many=s:=⟨_,rfl⟩;obtain⟨i,hi⟩:∃i,s % LO=i:=⟨_,rfl⟩;rw[hL]at c0⊢;rw[j]at e1 e2 N⊢;rw[hi]at e2 N⊢;have i0:(0:Int)<=(i:Int):=by omega
 have i1:(i:Int)<(LO:Int):=by omega
 have z0:¬(LO:Int)=0:=by omega
 have z1:¬LO=0:=by omega
 obtain⟨q,hq⟩:∃q,ps[i]?=E q:=⟨_,Ar om⟩;obtain⟨A,C⟩:=NO hq;have d0:W.cell? ⟨B,i*2,O⟩=E (R K q.1):=by simp[cell?,Z.places];exact A
 have f0:W.frozen? ⟨B,i*2,O⟩=M:=by simp[frozen?,Z.places]
 have d1:W.cell? ⟨B,i*2+1,O⟩=E (R K q.2):=by simp[cell?,Z.places];exact C
 have f1:W.frozen? ⟨B,i*2+1,O⟩=M:=by simp[frozen?,Z.places]
 have I:AY X Q B first many closed ps W.drew:=Z.below (AN W 1);obtain⟨U,H⟩:=I.setP i p;obtain⟨V,J⟩:∃V,V=(AY.putW W B i p).drew:=⟨_,rfl⟩;have U:AY X Q B first many closed (ps.set i p) V:=by rw[J];exact U
 have H:Chg X W V:=by rw[J];exact(Chg.of_same (AN W 1)).then H
 have k2:V.cell? ⟨Q,2,O⟩=E (R K (many:Int)):=by simp[cell?,U.box]
 have l2:V.frozen? ⟨Q,2,O⟩=M:=by simp[frozen?,U.box]
 have ew:IntKind.i64.wrap ((many:Int)+1)=(many:Int)+1:=by rw[BK];omega
 obtain⟨s1,s2⟩:=U.setM (many+1) (by rw[BG];omega);have S1:=AA s1;have S2:=AA (((Chg.of_same hB).then H).then s2);unfold AY.putW at J;clear h Z D hL j hi hq A C I U H s1 s2 r1 r2 r3 r4 hB;go_enter func247,ntmps247;go_upto_region 1 with fail
 rw[<-hW];clear hW
 go_region
 rw[<-J];clear J c0 c1 c2 d0 f0 x0 d1 f1 x1;go_wp2
 go_end0
 exact⟨⟨_,rfl⟩,S1.out,S2.out⟩
abbrev ByX(X:Nat->Prop)(w:Wa)(v:Vk)(xs:List Int):Prop:=CO X w 5 1 v (lc xs) (xs.map (Value.int .u8))
structure BB(X:Nat->Prop)(lab:Nat->Nat)(B U D:Nat)(fv:Value)(dv:List Value)(size:Nat)(fr:List Int)(us:List Bool)(ds:Lb)(w:World):Prop where
 box:w.heap[B]?=some (.cells #[fv,R K (size:Int),T (some ⟨U,0,none⟩) us.length us.length,T (some ⟨D,0,none⟩) us.length us.length] 210 (0,0))
 used:w.heap[U]?=some (.cells (us.map i6).toArray 4 (0,0))
 data:w.heap[D]?=some (.cells dv.toArray 32 (0,0))
 inX:X B/\X U/\X D
 labs:lab B=1/\lab U=2/\lab D=3
 free:CO X w 3 1 fv fr.length (fr.map (R K))/\∀g,fv.ownBlock=some g->lab g=4
 dl:dv.length=us.length/\ds.length=us.length
 rows:∀(i:Nat)(v:Value)(xs:List Int),dv[i]?=some v->ds[i]?=some xs->ByX X w v xs/\∀g,v.ownBlock=some g->lab g=5+i
section
variable {X Y:Nat->Prop}{lab:Nat->Nat}{B U D size:Nat}{fv:Vk}{dv:List Vk}{fr:List Int}{us:List Bool}{ds:Lb}{w w':Wa}
theorem BB.keep(h:BB X lab B U D fv dv size fr us ds w)(J:Chg Y w w')(N:∀k,k<w.heap.size->X k->¬Y k):BB X lab B U D fv dv size fr us ds w':=by have I:∀k o,w.heap[k]?=E o->X k->w'.heap[k]?=E o:=λk o hk V=>(J.block k (AD.1 hk).1 (N k (AD.1 hk).1 V)).trans hk;refine⟨I _ _ h.box h.inX.1,I _ _ h.used h.inX.2.1,I _ _ h.data h.inX.2.2,h.inX,h.labs,⟨h.free.1.keep J λg Z=>N g (h.free.1.lt g Z) (h.free.1.2 g Z),h.free.2⟩,h.dl,λi v xs C V=>?_⟩;obtain⟨H,A⟩:=h.rows i v xs C V;exact⟨H.keep J λg Z=>N g (H.lt g Z) (H.2 g Z),A⟩
theorem BB.wide(h:BB X lab B U D fv dv size fr us ds w)(Z:∀k,k<w.heap.size->X k->Y k):BB Y lab B U D fv dv size fr us ds w:=by refine⟨h.box,h.used,h.data,⟨Z _ (AD.1 h.box).1 h.inX.1,Z _ (AD.1 h.used).1 h.inX.2.1,Z _ (AD.1 h.data).1 h.inX.2.2⟩,h.labs,⟨h.free.1.wide Z,h.free.2⟩,h.dl,λi v xs N V=>?_⟩;obtain⟨I,J⟩:=h.rows i v xs N V;exact⟨I.wide Z,J⟩
theorem BB.setU(h:BB X lab B U D fv dv size fr us ds w)(n:Nat)(b:Bool):BB X lab B U D fv dv size fr (us.set n b) ds (w.setCell ⟨U,n,O⟩ (i6 b))/\Chg X w (w.setCell ⟨U,n,O⟩ (i6 b)):=by
 obtain⟨s,Z,A⟩:=h.labs;have hk:∀k,lab k≠2->(w.setCell ⟨U,n,O⟩ (i6 b)).heap[k]?=w.heap[k]?:=λk hk=>AQ w ⟨U,n,O⟩ _ k λe=>hk (by rw[e];exact Z);have N:Chg (λk=>k=U) w (w.setCell ⟨U,n,O⟩ (i6 b)):=(Chg.refl _ w).set rfl;refine⟨⟨?_,?_,(hk D om).trans h.data,h.inX,h.labs,⟨h.free.1.keep N λg V e=>?_,h.free.2⟩,by rw[BG];exact h.dl,λi v xs H I=>?_⟩,(Chg.refl X w).set h.inX.2.1⟩
 ·rw[BG];exact(hk B om).trans h.box
 ·have:=AJ (i:=n) h.used (i6 b);rw[Fp]at this;rw[Is];exact this
 ·have:=h.free.2 g V;rw[e,Z]at this;omega
 ·obtain⟨C,J⟩:=h.rows i v xs H I;refine⟨C.keep N λg V e=>?_,J⟩;have:=J g V;rw[e,Z]at this;omega
theorem BB.setD(h:BB X lab B U D fv dv size fr us ds w)(n:Nat){v v':Vk}{xs':List Int}{V:Wa}(hv:dv[n]?=E v)(hr:V.ownsRow 0 5 1 v' (lc xs') (xs'.map (Value.int .u8)))(hg:Chg (λk=>v.ownBlock=E k) w V)(H:∀g,v'.ownBlock=E g->v.ownBlock=E g∨w.heap.size<=g) :BB (λk=>X k∨w.heap.size<=k) (λk=>if w.heap.size<=k then 5+n else lab k) B U D fv (dv.set n v') size fr us (ds.set n xs') (V.setCell ⟨D,n,O⟩ v')/\Chg X w (V.setCell ⟨D,n,O⟩ v')/\V.frozen? ⟨D,n,O⟩=M/\(∃u,V.cell? ⟨D,n,O⟩=E u):=by
 obtain⟨l1,l2,l3⟩:=h.labs;have ab:n<lc dv:=(AP.1 hv).1;have A:n<lc ds:=by have:=h.dl;omega
 obtain⟨x0,a8⟩:∃x,ds[n]?=E x:=⟨ds[n],Ar A⟩;obtain⟨r1,r2⟩:=h.rows n v x0 hv a8;have a7:=(AD.1 h.box).1;have a2:=(AD.1 h.used).1;have a6:=(AD.1 h.data).1;have a1:∀k,k<w.heap.size->lab k≠5+n->V.heap[k]?=w.heap[k]?:=λk hk hl=>hg.block k hk λe=>hl (r2 k e);have C:V.heap[D]?=E (i7 dv.toArray 32 (0,0)):=(a1 D a6 om).trans h.data;have hk:∀k,k≠D->(V.setCell ⟨D,n,O⟩ v').heap[k]?=V.heap[k]?:=λk hk=>AQ V ⟨D,n,O⟩ _ k hk;have I:∀k,k<w.heap.size->lab k≠5+n->lab k≠3->(V.setCell ⟨D,n,O⟩ v').heap[k]?=w.heap[k]?:=λk h1 h2 h3=>(hk k λe=>h3 (by rw[e];exact l3)).trans (a1 k h1 h2);have N:∀k,k<w.heap.size->(if w.heap.size<=k then 5+n else lab k)=lab k:=λk hk=>Lc om;have j:Chg (λk=>lab k=5+n∨lab k=3) w (V.setCell ⟨D,n,O⟩ v'):=(hg.mono λk _ e=>.inl (r2 k e)).set (.inr l3);refine⟨⟨(I B a7 om om).trans h.box,(I U a2 om om).trans h.used,?_,⟨.inl h.inX.1,.inl h.inX.2.1,.inl h.inX.2.2⟩,⟨by rw[N B a7];exact l1,by rw[N U a2];exact l2,by rw[N D a6];exact l3⟩,⟨(h.free.1.keep j λg Z e=>?_).wide λk _ J=>.inl J,λg Z=>?_⟩,by rw[BG,BG];exact h.dl,λi u xs hu J=>?_⟩,?_,?_,?_⟩
 ·have:=AJ (i:=n) C v'
  rwa[Fp]at this
 ·have:=h.free.2 g Z;omega
 ·rw[N g (h.free.1.lt g Z)];exact h.free.2 g Z
 ·by_cases s:i=n
  ·subst s;rw[FU ab]at hu;rw[FU A]at J
   cases AK hu
   cases AK J
   have aa:v'.ownBlock≠E D:=λe=>by
    rcases H D e with e2|e2
    ·have:=r2 D e2;omega
    ·omega
   refine⟨⟨Fu hr λg Z=>hk g λe=>aa (by rw[<-e];exact Z),λg Z=>?_⟩,λg Z=>?_⟩
   ·rcases H g Z with e|e
    ·exact .inl (r1.2 g e)
    ·exact .inr e
   ·rcases H g Z with e|e
    ·rw[N g (r1.lt g e)];exact r2 g e
    ·exact Lq e
  ·rw[FH (λe=>s e.symm)]at hu J;obtain⟨g1,g2⟩:=h.rows i u xs hu J;refine⟨(g1.keep j λg Z e=>?_).wide λk _ J=>.inl J,λg Z=>?_⟩
   ·have:=g2 g Z;omega
   ·rw[N g (g1.lt g Z)];exact g2 g Z
 ·exact(hg.mono λk _ e=>r1.2 k e).set h.inX.2.2
 ·simp[frozen?,C]
 ·exact⟨v,by simp[cell?,C];exact hv⟩
theorem BB.setF(h:BB X lab B U D fv dv size fr us ds w){fv':Vk}{fr':List Int}{V:Wa}(hr:V.ownsRow 0 3 1 fv' (lc fr') (fr'.map (R K)))(hg:Chg (λk=>fv.ownBlock=E k) w V)(I:∀g,fv'.ownBlock=E g->fv.ownBlock=E g∨w.heap.size<=g) :BB (λk=>X k∨w.heap.size<=k) (λk=>if w.heap.size<=k then 4 else lab k) B U D fv' dv size fr' us ds (V.setCell ⟨B,0,O⟩ fv')/\Chg X w (V.setCell ⟨B,0,O⟩ fv')/\V.frozen? ⟨B,0,O⟩=M/\(∃u,V.cell? ⟨B,0,O⟩=E u):=by
 obtain⟨j,l2,l3⟩:=h.labs;have s:=(AD.1 h.box).1;have A:=(AD.1 h.used).1;have v:=(AD.1 h.data).1;have C:∀k,k<w.heap.size->lab k≠4->V.heap[k]?=w.heap[k]?:=λk hk hl=>hg.block k hk λe=>hl (h.free.2 k e);have H:=(C B s om).trans h.box;have hk:∀k,k≠B->(V.setCell ⟨B,0,O⟩ fv').heap[k]?=V.heap[k]?:=λk hk=>AQ V ⟨B,0,O⟩ _ k hk;have J:∀k,k<w.heap.size->lab k≠4->lab k≠1->(V.setCell ⟨B,0,O⟩ fv').heap[k]?=w.heap[k]?:=λk h1 h2 h3=>(hk k λe=>h3 (by rw[e];exact j)).trans (C k h1 h2);have N:∀k,k<w.heap.size->(if w.heap.size<=k then 4 else lab k)=lab k:=λk hk=>Lc om;have a2:Chg (λk=>lab k=4∨lab k=1) w (V.setCell ⟨B,0,O⟩ fv'):=(hg.mono λk _ e=>.inl (h.free.2 k e)).set (.inr j);have a1:fv'.ownBlock≠E B:=λe=>by
  rcases I B e with e2|e2
  ·have:=h.free.2 B e2;omega
  ·omega
 refine⟨⟨AJ (i:=0) H fv',(J U A om om).trans h.used,(J D v om om).trans h.data,⟨.inl h.inX.1,.inl h.inX.2.1,.inl h.inX.2.2⟩,⟨by rw[N B s];exact j,by rw[N U A];exact l2,by rw[N D v];exact l3⟩,⟨⟨Fu hr λg Z=>hk g λe=>a1 (by rw[<-e];exact Z),λg Z=>?_⟩,λg Z=>?_⟩,h.dl,λi u xs hu hx=>?_⟩,?_,?_,?_⟩
 ·rcases I g Z with e|e
  ·exact .inl (h.free.1.2 g e)
  ·exact .inr e
 ·rcases I g Z with e|e
  ·rw[N g (h.free.1.lt g e)];exact h.free.2 g e
  ·exact Lq e
 ·obtain⟨g1,g2⟩:=h.rows i u xs hu hx;refine⟨(g1.keep a2 λg Z e=>?_).wide λk _ hx=>.inl hx,λg Z=>?_⟩
  ·have:=g2 g Z;omega
  ·rw[N g (g1.lt g Z)];exact g2 g Z
 ·exact(hg.mono λk _ e=>h.free.1.2 k e).set h.inX.1
 ·simp[frozen?,H]
 ·exact⟨fv,by simp[cell?,H]⟩
end
end Go.Proofs.YtaamacoicojhnaaGreat
