/- Proofs over the given program, part 5. -/
import Derived.Test.YtaamacoicojhnaaGreatZH4
set_option linter.unusedVariables false
set_option linter.unusedSimpArgs false
set_option maxRecDepth 100000
set_option maxHeartbeats 16000000
open Go.Proofs.Tryz
open Go.Proofs.Tryz renaming prog→ZP
open Go.World(cell? frozen?)
open Option renaming some→E,none→O
open Go.Value renaming int→R,slice→T,pointer→L,bool→i6,tuple→ta,agg→i8
open Go.IntKind renaming i64→K
open Bool renaming false→M,true→G
open Go renaming World→Wa,Value→Vh
open Go.Ending renaming returned→ra
open Go.Obj renaming cells→i7
open List renaming length→lc
namespace Go.Proofs.YtaamacoicojhnaaGreat
open Go.RowKit Go.Sort
section
attribute[local go_sem] Oper.semAt_some
attribute[local simp] Ak Al
attribute[local go_sem] Ak Al
theorem alk:(ZP.info? 30).map (λi=>(i.zero,i.size,i.bytes))=E (E (T O 0 0),1,24):=by kernel_rfl
theorem Mc.frozen{W:Wa}{B:Nat}{LO:List Int}{m n:Int}{row:Vh}{fold:Bool}{Z:Vh}{lo Y:Int}{wd:Vh}(h:Mc W B LO m n row fold Z lo Y wd)(i:Nat):W.frozen? ⟨B,i,O⟩=M:=by have h2:=h.box;simp[frozen?,h2]
theorem aj0{W:Wa}{Gd:Nat}{cs:Array Vh}{t:TypeId}(h:W.heap[Gd]?=E (i7 cs t (0,0)))(i:Nat):W.frozen? ⟨Gd,i,O⟩=M:=by simp[frozen?,h]
theorem ad6(fold:Bool)(a:Option Addr)(y ca:Nat)(wss:La)(w:Wa)(hA:Wds w a y wss)(bp:y<=1000000)(hM:∀x∈wss,lc x<=1000000)(hT:(Ad fold wss).length<=1000000)(hr:An fold wss=G) :Calls ZP 52 #[i8 (AM fold a y ca)] w λe w'=>∃(B Ra ew wc:Nat)(a' wa:Option Addr),e=ra (ta #[L (E ⟨B,0,O⟩),R K 0])/\MOK w' B fold wss (Au wss) ((Dm wss (AB wss).length:Nat):Int) Ra a' y ew wa wc/\Bt w w'/\Il w.heap.size w' B Ra a' y ew wss wa:=by
 have hB:=AL w (i7 (AM fold a y ca) 24);obtain⟨W0,bt⟩:∃W,W=w.alloc (i7 (AM fold a y ca) 24):=⟨_,rfl⟩;have aE:W0.heap[w.heap.size]?=E (i7 (AM fold a y ca) 24 (0,0)):=by rw[bt];exact AT _ _
 rw[<-bt]at hB;have c0:W0.cell? ⟨w.heap.size,0,O⟩=E (i6 fold):=by simp[cell?,aE]
 have c1:W0.cell? ⟨w.heap.size,1,O⟩=E (T a y ca):=by simp[cell?,aE]
 have bo:CI (AG wss)=E (AB wss,wss):=Fy.2 ⟨IY hr,rfl,rfl⟩;have aP:(AB wss).length<=400:=Hx bo;have f8:1<=Ah fold wss/\Ah fold wss<=257:=Hb _ _ _;have bv:=okT hr (λx hx c hc=>hA.bytes x hx c hc);have ef:=Oi bv;have d9:=OZ bv;have bD:=AA hA.len;have HD:=AA (λV (I:Bt w V)=>aha fold a y ca wss V (hA.below I) bp hM hT hr);have eD:=AA (λV (I:Bt w V)=>abH fold a y ca wss V (hA.below I) bp hM hT hr);have eH:=AA (λV (I:Bt w V)=>alD fold a y ca wss V (hA.below I) bp hM);have eI:=AA (λV (I:Bt w V)=>aev fold a y ca wss V (hA.below I) bp);have eO:=AA (λ(t:TV) V (hT:Tri V t (AG wss)) (hb:t.un<=140737488351232)=>ak6 t (AG wss) (AB wss) wss V hT hb bo);have df:=AA (λ(t:TV) V (hT:Tri V t (AG wss)) (hb:t.un<=140737488351232)=>akF t (AG wss) (AB wss) wss V hT hb bo);obtain⟨LO,hL⟩:∃LO,BF fold wss=LO:=⟨_,rfl⟩;have aa:lc LO=256:=by rw[<-hL];exact Jc _ _
 have de:Hid ((AB wss).length<=400):=aP;have fT:=AA d9;have fS:=AA bv;obtain⟨n,hn⟩:∃n,(AB wss).length=n:=⟨_,rfl⟩;obtain⟨m,hm⟩:∃m,Ah fold wss=m:=⟨_,rfl⟩;obtain⟨k,hk⟩:∃k,m*n=k:=⟨_,rfl⟩;have aB:k<=257*400:=by rw[<-hk];exact GR om om
 have fl:=AA hL;have HN:=AA hn;have HM:=AA hm;have fm:=AA hk;rw[hL,hm,hn,hk]at HD;rw[hn]at eO df;have eE:Hid (Hu (m:Int) k=(n:Int)):=by rw[Hid,<-hk,<-hm,<-hn,<-d9];exact ef
 clear hA hr bo bv hL hn hm hk aP d9 ef;refine Hc func52 rfl ?_;simp only[ntmps52,Cw,Ao,Bw,Nat.reduceAdd,Nat.reduceSub,Dd,Dc,DX,Da,Av,CT];go_upto_region 1 with fail
 rw [<-bt];clear bt;have fs:=AA (HD.out W0 hB);go_upto_region 2 with (first
  |(refine wpList_store_row rfl 146 _ _ rfl _ _ rfl rfl 146 _ (heap_alloc_new _ _) (anq aa _ _) (aoH aa _ _) (afb _ _ _ rfl) ?_)
  |(go_at_call 86;refine fs.out.mono ?_;rintro e w3 ⟨Ra,rfl,aL,fa,bq⟩))
 rw[World.setRow_alloc_new];have aH:=hB.trans (bq.mono hB.size);have fg:Hid (w.heap.size<=Ra):=AS hB.size fa;obtain⟨w4,bm⟩:∃w4,w4=w3.alloc (i7 (dvC LO m (T (E ⟨Ra,0,O⟩) k k)).toArray 146):=⟨_,rfl⟩;have bb:Bt w w4:=by rw[bm];exact aH.alloc aH.size _
 have aS:Bt w3 w4:=by rw[bm];exact AL _ _
 have bA:=Dv.new w3 LO m (T (E ⟨Ra,0,O⟩) k k) aa;rw[<-bm]at bA⊢;have ar:AU Ra (FN fold wss) w4:=(aS.block Ra aL.lt).trans aL;have aX:w4.heap[w.heap.size]?=E (i7 (AM fold a y ca) 24 (0,0)):=(aS.block _ (by have:=(AD.1 aE).1;have:=bq.size;omega)).trans ((bq.block _ (AD.1 aE).1).trans aE);have d0:w4.cell? ⟨w.heap.size,0,O⟩=E (i6 fold):=by simp[cell?,aX]
 have d1:w4.cell? ⟨w.heap.size,1,O⟩=E (T a y ca):=by simp[cell?,aX]
 have ff:=AA (eD.out w4 bb);have fw:w3.heap.size<w4.heap.size:=bA.lt;clear bm c0 c1 aS aL bq hB aE;go_upto_region 5 with(go_at_call 87;refine ff.out.mono ?_;rintro e w5 ⟨t,rfl,cZ,aC⟩;obtain⟨ua,un,uc,da,dn,dc,xa,xn,xc,ba,bn,bc⟩:=t;simp only[TV.cells])
 have ea:un<=140737488351232:=by have h1:=cZ.up.1;have h2:=alp wss;have h3:=de.out;dsimp only at h1;omega
 have fM:=bb.trans (aC.mono bb.size);obtain⟨w6,bl⟩:∃w6,w6=w5.alloc (i7 #[T ua un uc,T da dn dc,T xa xn xc,T ba bn bc] 150):=⟨_,rfl⟩;have bU:Bt w5 w6:=by rw[bl];exact AL _ _
 have aw:w6.heap[w5.heap.size]?=E (i7 #[T ua un uc,T da dn dc,T xa xn xc,T ba bn bc] 150 (0,0)):=by rw[bl];exact AT _ _
 have aU:=cZ.below bU;have bK:Bt w4 w6:=aC.trans (bU.mono aC.size);rw[<-bl];clear bl;have eN:=AA (eO.out _ w6 aU ea);have e0:w6.cell? ⟨w5.heap.size,0,O⟩=E (T ua un uc):=by simp[cell?,aw]
 have e1:w6.cell? ⟨w5.heap.size,1,O⟩=E (T da dn dc):=by simp[cell?,aw]
 have e2:w6.cell? ⟨w5.heap.size,2,O⟩=E (T xa xn xc):=by simp[cell?,aw]
 have e3:w6.cell? ⟨w5.heap.size,3,O⟩=E (T ba bn bc):=by simp[cell?,aw]
 clear d0 d1 cZ;go_upto_region 8 with(go_at_call 88;refine eN.out.mono ?_;rintro e C ⟨q,rfl,cS,fF,cX⟩)
 have aj:Bt w4 C:=bK.trans (cX.mono bK.size);clear e0 e1 e2 e3;go_upto_region 10 with fail
 have ev:Bt w C:=bb.trans (aj.mono bb.size);have ag:=AA ev;have bO:=aU.below cX;have bf:=AA bO;have db:=bA.below aj;have fI:w3.heap.size<C.heap.size:=db.lt;have HK:Hid (∀V,Bt C V->Dv V w3.heap.size LO m (T (E ⟨Ra,0,O⟩) k k)):=λV I=>db.below I;have d4:C.heap[w.heap.size]?=E (i7 (AM fold a y ca) 24 (0,0)):=(aj.block _ (AD.1 aX).1).trans aX;have eF:Hid (∀V,Bt C V->V.cell? ⟨w.heap.size,0,O⟩=E (i6 fold)/\V.cell? ⟨w.heap.size,1,O⟩=E (T a y ca)):=λV I=>by have h:=(I.block _ (AD.1 d4).1).trans d4;exact⟨by simp[cell?,h],by simp[cell?,h]⟩
 have bu:C.heap[w5.heap.size]?=E (i7 #[T ua un uc,T da dn dc,T xa xn xc,T ba bn bc] 150 (0,0)):=(cX.block _ (AD.1 aw).1).trans aw;have eB:Hid (∀V,Bt C V->V.cell? ⟨w5.heap.size,0,O⟩=E (T ua un uc)/\V.cell? ⟨w5.heap.size,1,O⟩=E (T da dn dc)/\V.cell? ⟨w5.heap.size,2,O⟩=E (T xa xn xc)/\V.cell? ⟨w5.heap.size,3,O⟩=E (T ba bn bc)):=λV I=>by have h:=(I.block _ (AD.1 bu).1).trans bu;exact⟨by simp[cell?,h],by simp[cell?,h],by simp[cell?,h],by simp[cell?,h]⟩
 have bg:Hid ((ZP.info? 144).map (·.size)=E (LO.map (R K)).length):=by rw[Hid,BP,aa];kernel_rfl
 have bY:Hid ((ZP.info? 146).map (·.size)=E (dvC LO m (T (E ⟨Ra,0,O⟩) k k)).toArray.size):=by rw[Hid,Ko aa];exact Nl
 obtain⟨bd,ay⟩:∃Z,tbC LO m n (T (E ⟨Ra,0,O⟩) k k)=Z:=⟨_,rfl⟩;have eA:Hid (lc bd=259):=by rw[Hid,<-ay];exact ajU aa _ _ _
 have bX:=AA ay;obtain⟨ZT,cY⟩:∃Z,bd.toArray=Z:=⟨_,rfl⟩;have ey:=AA cY;have bi:Hid (ZP.built 157 [(0,i8 (LO.map (R K)).toArray),(1,R K m),(2,R K n),(3,T (E ⟨Ra,0,O⟩) k k)]=E ZT):=by rw[Hid,<-cY,<-ay];exact adQ LO m n _ k k aa
 have eC:Hid (w5.heap.size<C.heap.size):=(AD.1 bu).1;clear ay cY db d4 bu bO aw aX bA aU ev;refine Code.wp_mono (Q:=apB (λa' V=>∃(p8 H cv:Nat)(av:Option Addr)(ZM:Array Vh)(x9 dY cO cN cM cL cK cJ cI cH cG cF cE cD cC cB cA cz cy cx cw cu ct cr cq cp co cn cm cl ck cj ci ch cg cf ce cd cc cb:Vh),a'={tmps:=List.toArray (Value.agg (AM fold a y ca)::L (E ⟨w.heap.size,0,O⟩)::L O::R K 0::L (E ⟨w3.heap.size,0,O⟩)::R K 0::L (E ⟨w5.heap.size,0,O⟩)::T (E ⟨q,0,O⟩) n n::L (E ⟨p8,0,O⟩)::x9::dY::cO::cN::cM::cL::cK::cJ::cI::cH::cG::cF::cE::cD::cC::cB::cA::cz::cy::cx::cw::cu::ct::cr::cq::cp::co::cn::cm::cl::ck::cj::ci::ch::cg::cf::ce::cd::cc::cb::undef::undef::undef::undef::undef::undef::undef::undef::undef::undef::undef::undef::undef::undef::undef::undef::undef::undef::undef::undef::undef::undef::undef::undef::undef::undef::undef::undef::undef::undef::undef::undef::undef::undef::undef::undef::undef::undef::undef::undef::[]),defers:=[]}/\Boxed V p8 88 (L (E ⟨H,0,O⟩))/\V.heap[H]?=E (i7 ZM 162 (0,0))/\(bd++[i6 fold,T av y cv,R K (Au wss),R K ((Dm wss n:Nat):Int),T O 0 0]).toArray=ZM/\BI V C.heap.size (T av y cv) wss/\Bt C V/\C.heap.size<=p8/\C.heap.size<=H/\y<=cv/\H≠p8)) (λe a' Y hM=>?_) ?_
 ·cases e<;>first|exact absurd hM id|skip
  obtain⟨p8,H,cv,av,ZM,x9,dY,cO,cN,cM,cL,cK,cJ,cI,cH,cG,cF,cE,cD,cC,cB,cA,cz,cy,cx,cw,cu,ct,cr,cq,cp,co,cn,cm,cl,ck,cj,ci,ch,cg,cf,ce,cd,cc,cb,rfl,hP,bB,aD,ej,hHeld,f3,cV,aQ,aZ⟩:=hM;simp only[Exit.then];go_upto_region 11 with fail
  have bw:Mc Y H LO m n (T (E ⟨Ra,0,O⟩) k k) fold (T av y cv) (Au wss) ((Dm wss n:Nat):Int) (T O 0 0):=⟨by rw[bB,<-aD,<-bX.out,amL],aa⟩;have eM:=AA ej;clear ej bB aD bi ey bX eA bY bg eH eI df eE HD eD HK;have cR:=hP.lt;have f5:=bw.lt;have dd:Hid (H≠p8):=aZ;have eQ:Hid (∀X:Wa,(Instr.makeSlice 160 (R K (n:Int)) (R K (n:Int))).run ZP X=.ok (T (E ⟨X.heap.size,0,O⟩) n n) (X.alloc (i7 (GW n) 30))):=λX=>by
   obtain⟨i0,hi,bk,aJ,bj⟩:=Ve alk;have aP:=de.out;rw[HN.out]at aP;have h:=run_makeSlice (P:=ZP) (w:=X) 160 30 i0 (.slice O 0 0) underlying160 hi bk .i64 .i64 (n:Int) (n:Int) om om (by rw[aJ];omega) (by rw[bj];omega) om;rw[aJ]at h;have e1:(n:Int).toNat*1=n:=by omega
   rw[e1,agW,Aa]at h;exact h
  have KP:Hid (∀X,(DW Y.heap.size H Y X/\∃wd,Mc X H LO m n (T (E ⟨Ra,0,O⟩) k k) fold (T av y cv) (Au wss) ((Dm wss n:Nat):Int) (wd))->X.cell? ⟨p8,0,O⟩=E (L (E ⟨H,0,O⟩))/\X.cell? ⟨H,257,O⟩=E (R K (n:Int))):=λX hX=>⟨(BC (a:=⟨p8,0,O⟩) (hX.1.1 p8 cR (Ne.symm dd.out))).trans hP.cell,by obtain⟨wd,h⟩:=hX.2;exact h.cells.2.1⟩;refine Vb ?_;refine Va (S:=λX=>DW Y.heap.size H Y X/\∃wd,Mc X H LO m n (T (E ⟨Ra,0,O⟩) k k) fold (T av y cv) (Au wss) ((Dm wss n:Nat):Int) (wd)) kr ⟨⟨λ_ _ _=>rfl,AC _⟩,_,bw.below (AN Y 1)⟩ (λaY=>?_);obtain⟨Y1,bs⟩:∃W,W=Y.drew:=⟨_,rfl⟩;have ak:Bt Y Y1:=by rw[bs];exact AN Y 1
  have bR:=bw.below ak;have bH:Hid (Y1.heap.size=Y.heap.size):=by rw[Hid,bs];rfl
  rw[<-bs]at aY⊢;clear bs;refine tkB 0 KP.out ?_;refine tkB 1 KP.out ?_;refine tkA 2 ?_;refine tkA 3 ?_;refine tkA 4 ?_;refine tkB 5 KP.out ?_;refine rdy 6 (λKB J=>?_);have f7:=eQ.out Y1;go_simp;obtain⟨Y2,aT⟩:∃W,W=Y1.alloc (i7 (GW n) 30):=⟨_,rfl⟩;have a7:Bt Y1 Y2:=by rw[aT];exact AL _ _
  have d8:Y2.heap[Y1.heap.size]?=E (i7 (GW n) 30 (0,0)):=by rw[aT];exact heap_alloc_new _ _
  have aB:DW Y.heap.size H Y Y2:=by rw[aT];exact aaq aY.1 _
  rw[<-aT];clear aT f7;have a8:=bR.below a7;obtain⟨Gd,d6⟩:∃Gd,Y1.heap.size=Gd:=⟨_,rfl⟩;have bx:Hid (Gd=Y.heap.size):=by rw[Hid,<-d6];exact bH.out
  rw[d6]at d8⊢;clear d6;refine J.out _ _ ⟨aB,_,a8⟩ (λeh=>?_);clear J KB aY
  try simp only[pq]
  refine tkA 7 ?_;refine tkA 8 ?_;refine rdy 9 (λKB J=>?_);have c0:=a8.cells.2.2.2.2.2.2.2;have c1:=a8.frozen 263;have c2:=a8.lt;go_simp;have al:=a8.setW (T (E ⟨Gd,0,O⟩) n n);have d7:Gd≠H:=by have:=bx.out;omega
  have b8:=(AQ Y2 ⟨H,263,O⟩ (T (E ⟨Gd,0,O⟩) n n) Gd d7).trans d8;have bV:Bt C Y2:=hHeld.trans ((ak.trans (a7.mono ak.size)).mono hHeld.size);have aH:=bV.setCell (p:=⟨H,263,O⟩) cV (T (E ⟨Gd,0,O⟩) n n);have b6:=((eM.out.below ak).below a7).turned (BH Y2 H 263 (T (E ⟨Gd,0,O⟩) n n)) a8.box (Lj kr) (Lj kr);have aF:=(AQ Y2 ⟨H,263,O⟩ (T (E ⟨Gd,0,O⟩) n n) p8 (Ne.symm dd.out)).trans ((aB.1 p8 cR (Ne.symm dd.out)).trans hP);have cU:DW Y.heap.size H Y (Y2.setCell ⟨H,263,O⟩ (T (E ⟨Gd,0,O⟩) n n)):=⟨λi h1 h2=>(AQ Y2 ⟨H,263,O⟩ _ i h2).trans (aB.1 i h1 h2),by have:=aB.2;simpa[World.setCell]using this⟩;obtain⟨Y3,ee⟩:∃W,W=Y2.setCell ⟨H,263,O⟩ (T (E ⟨Gd,0,O⟩) n n):=⟨_,rfl⟩;rw[<-ee]at al b8 aH b6 aF cU⊢;have f2:Hid (Gd<Y3.heap.size):=(AD.1 b8).1;have aF:Boxed Y3 p8 88 (L (E ⟨H,0,O⟩)):=aF;clear ee;refine J.out _ _ ⟨cU,_,al⟩ (λeg=>?_);clear J KB eh eg cU aB a8 bR bw ak a7 bV c0 c1 c2 d8 hP hHeld eM KP eQ f5 bH
  try simp only[pq]
  refine Vd kr ?_ _;refine At ?_;have es:=GP.new b8;have fo:=AA b8;have eL:=AA b6;have eU:=AA aH;have ap:=AA al;have eJ:=AA aF;have c0:=aF.cell;have c1:=al.cells.2.1;have b7:Hid (Gd≠H):=d7;have eT:Hid (C.heap.size<=H):=cV;have bS:Hid (Gd≠p8):=by have:=bx.out;rw[Hid];omega
  have bz:Hid (C.heap.size<=Gd):=by have:=bx.out;rw[Hid];omega
  have eX:n=xn:=by have h:=bf.out.wrd.1;dsimp only at h;rw[(Jt wss).1,HN.out]at h;exact h
  obtain rfl:=eX;have f4:0<n:=by rw[<-HN.out];exact(AP.1 (CM wss)).1
  obtain⟨b0,o0,dZ,bN,hcw⟩:=bf.out.wrd.2.resolve_left (by dsimp only;omega);dsimp only at dZ;subst dZ;have ft:Hid (∀(i:Nat)(v:Int),(AG wss).wrd[i]?=E v->C.cell? ⟨b0,o0+i,O⟩=E (R K v)):=hcw;have bZ:Hid (b0<C.heap.size):=bN;have fi:=AA cS;have ed:Hid (q<C.heap.size):=cS.lt;have bC:Hid (n<=400):=by have:=de.out;rw[HN.out]at this;exact this
  clear b8 b6 aH al aF d7 cR bx cV f3 aZ hcw bN cS f4
  go_wp2_with fail
  refine wp_loop (λa' w'=>∃(node:Nat)(ds:List Deferred)(y63 y9 dX dW dV dU dT dS dR dQ dP dO dN dM dL dK dJ dI dH dG dF dE dD dC dB dA dz dy dx dw dv du dr dq dp dm dk di dh dg:Vh),(y63=R K (node:Int)/\node<=n/\Hid (GP Gd n ((List.range node).map (CA wss)) w')/\Hid (Y3.grownBy w' (E Gd))/\Hid (FE C.heap.size w' ds))/\a'={tmps:=List.toArray (Value.agg (AM fold a y ca)::L (E ⟨w.heap.size,0,O⟩)::L O::R K 0::L (E ⟨w3.heap.size,0,O⟩)::R K 0::L (E ⟨w5.heap.size,0,O⟩)::T (E ⟨q,0,O⟩) n n::L (E ⟨p8,0,O⟩)::y9::dX::cO::cN::cM::cL::cK::cJ::cI::cH::cG::cF::cE::cD::cC::cB::cA::cz::cy::cx::cw::cu::ct::cr::cq::cp::co::cn::cm::cl::ck::cj::ci::ch::cg::cf::ce::cd::cc::cb::dW::dV::dU::dT::dS::dR::dQ::dP::dO::dN::dM::dL::dK::R K (n:Int)::y63::dJ::dI::dH::dG::dF::dE::dD::dC::dB::dA::dz::dy::dx::dw::dv::du::dr::dq::dp::dm::dk::di::dh::dg::undef::[]),defers:=ds}) (λa' _=>n-(intOf (a'.tmps.getD 63 undef)).toNat) ⟨0,[],_,_,_,_,_,_,_,_,_,_,_,_,_,_,_,_,_,_,_,_,_,_,_,_,_,_,_,_,_,_,_,_,_,_,_,_,_,_,_,_,⟨rfl,AR _,es,(⟨rfl,rfl,rfl,AC _,λ_ _ _=>rfl⟩:Y3.grownBy Y3 (E Gd)),trivial⟩,rfl⟩ ?_;rintro a' wr ⟨node,ds,y63,y9,dX,dW,dV,dU,dT,dS,dR,dQ,dP,dO,dN,dM,dL,dK,dJ,dI,dH,dG,dF,dE,dD,dC,dB,dA,dz,dy,dx,dw,dv,du,dr,dq,dp,dm,dk,di,dh,dg,⟨rfl,fH,HF,aI,HC⟩,rfl⟩;have am:Hid (Bt C wr):=eU.out.grown aI.out eU.out.size (λj e=>by cases e;exact bz.out);have cT:Hid (∀i,i<Y3.heap.size->i≠Gd->wr.heap[i]?=Y3.heap[i]?):=λi h1 h2=>aI.out.block i h1 (λe=>h2 (by cases e;rfl));have d5:Boxed wr p8 88 (L (E ⟨H,0,O⟩)):=(cT.out p8 eJ.out.lt (Ne.symm bS.out)).trans eJ.out;have eG:=AA d5;clear c0 c1;have c0:=d5.cell;clear d5 es
  by_cases ai:node<n
  ·have hd:decide ((node:Int)<(n:Int))=G:=by simp;omega
   obtain⟨e0,e1,e2,e3⟩:=eB.out wr am.out;have l5:w5.heap.size<wr.heap.size:=Af eC.out am.out.size;have l8:p8<wr.heap.size:=eG.out.lt
   go_wp2_with (go_at_call 93;refine(ain ⟨ua,un,uc,da,dn,dc,E ⟨b0,o0,O⟩,n,xc,ba,bn,bc⟩ (E ⟨q,0,O⟩) n n (node:Int) _).mono ?_;rintro e U ⟨rfl,ab⟩)
   try simp only[TV.cells]
   obtain⟨U,ab⟩:∃W,W=((((wr.alloc (i7 #[R K (node:Int)] 3)).alloc (i7 #[T ua un uc,T da dn dc,T (E ⟨b0,o0,O⟩) n xc,T ba bn bc] 150)).alloc (i7 #[T (E ⟨q,0,O⟩) n n] 30)).alloc (i7 #[R K (node:Int)] 3)):=⟨_,rfl⟩;have hO:Bx wr.heap.size [i7 #[R K (node:Int)] 3,i7 #[T ua un uc,T da dn dc,T (E ⟨b0,o0,O⟩) n xc,T ba bn bc] 150,i7 #[T (E ⟨q,0,O⟩) n n] 30,i7 #[R K (node:Int)] 3] U:=by rw[ab];exact((((Bx.nil _ wr).snoc _ rfl).snoc _ sm).snoc _ sm).snoc _ sm
   have ae:Bt wr U:=by rw[ab];exact(((AL wr _).alloc sm _).alloc (by simp;omega) _).alloc (by simp;omega) _
   have fv:U.heap.size=wr.heap.size+1+1+1+1:=by rw[ab];simp
   rw[<-ab];clear ab e0 e1 e2 e3;have eq:Boxed U wr.heap.size 3 (R K (node:Int)):=hO 0 _ rfl;have eo:U.heap[wr.heap.size+1]?=_:=hO 1 _ rfl;have em:Boxed U (wr.heap.size+1+1) 30 (T (E ⟨q,0,O⟩) n n):=hO 2 _ rfl;have ek:Boxed U (wr.heap.size+1+1+1) 3 (R K (node:Int)):=hO 3 _ rfl;have az:Bt C U:=am.out.trans (ae.mono am.out.size);have bI:AU q (Bk wss) U:=(az.block q ed.out).trans fi.out;have bT:Gd<wr.heap.size:=Af f2.out aI.out.size;have f1:=am.out.size;have fG:q<Gd:=Af ed.out bz.out;have fK:b0<Gd:=Af bZ.out bz.out;have cQ:=aez wss (wr.heap.size+1+1+1) (wr.heap.size+1+1) (wr.heap.size+1) q n b0 o0 xc n node _ _ _ (λk=>k<U.heap.size/\k≠Gd) 8 U eo bI HN.out (by have:=bC.out;omega) (λi v hv=>(az.cell (p:=⟨b0,o0+i,O⟩) bZ.out).trans (ft.out i v hv)) em ek ⟨⟨by omega,by omega⟩,⟨by omega,by omega⟩,⟨by omega,by omega⟩,⟨by omega,by omega⟩,⟨by omega,by omega⟩⟩ (λk hk=>hk.1) ⟨by omega,by omega,by omega,by omega⟩ ai;obtain⟨vs,cP,e8,eW,aN,aK⟩:=HF.out;have eV:((List.range node).map (CA wss)).length=node:=by simp
   have e7:vs[node]?=E (O,0,0):=by
    have h1:node<lc vs:=by omega
    have h2:=aN node vs[node] om (by simp[h1]);rw[Ar h1,h2]
   have bG:vs.set node (O,0,0)=vs:=by
    apply Hn
    intro i;rw[Gr]
    split
    ·rename_i h;subst h;rw[Lc om,e7]
    ·rfl
   have bJ:U.heap[Gd]?=E (i7 (vs.map svV).toArray 30 (0,0)):=(ae.block Gd bT).trans cP;have eS:FD Gd U.heap.size vs node [] U:=⟨(O,0,0),by rw[bG];exact bJ,BN _ _ _ _⟩;have ez:=AA cP;have ax:Hid (lc vs=n):=e8;have eP:=AA aN;have fh:=AA aK;have fk:=AA eq;have fz:=AA az;have bW:=AA ae;have bQ:Boxed U p8 88 (L (E ⟨H,0,O⟩)):=(ae.block p8 l8).trans eG.out;have eK:=AA bQ;have er:Hid (H<wr.heap.size):=Af ap.out.lt aI.out.size;have eR:Hid (U.cell? ⟨H,263,O⟩=E (T (E ⟨Gd,0,O⟩) n n)):=(BC (a:=⟨H,263,O⟩) ((ae.block H er.out).trans (cT.out H ap.out.lt (Ne.symm b7.out)))).trans ap.out.cells.2.2.2.2.2.2.2;have eY:(CA wss node).length<=1000000:=by have:=LL wss node;have:=bC.out;omega
   clear cP e8 aN aK eq eo em ek hO az ae bI bG e7 bJ bQ eW
   apply amM rfl (enters_of func137 kr rfl) cQ (λr hr=>by rw [hr];omega) GD (JR λk hk=>hk.1) (λ_=>rfl) (hKr:=λ_ _ _=>rfl)
    (λs W=>FD Gd U.heap.size vs node s W/\((∀k,k<U.heap.size->k≠Gd/\k≠wr.heap.size+1+1+1->W.heap[k]?=U.heap[k]?)/\U.heap.size<=W.heap.size)/\RowKit.Below Gd U W)
    (λ_ _ _=>False)
   case hI=>exact BL.and (aft om om id) (BL.and (ahk (Gd:=Gd) (λk _ h=>h.2)) (BL.below om om (λr hr=>by rw[hr];omega)))
   case hIx=>exact λ_ _ _ _ _ hs _ _=>hs
   case h0=>exact⟨eS,⟨λ_ _ _=>rfl,AC _⟩,Jj _ _⟩
   case hassign=>
    intro l x W KB J;unfold OX
    gi_wp2
    exact J
   case hbody=>
    rintro l s u W ⟨⟨⟨va,vn,vc⟩,hv,ac⟩,⟨aG,f0⟩,b9⟩ fx
    try dsimp only
    obtain⟨fO,fN,he,fy,_⟩:=Co (enc:=R K) ac;simp only[svV,IL]at he;obtain⟨rfl,rfl,rfl⟩:=he;have fL:lc s<=1000:=by have:=bC.out;omega
    obtain⟨i0,hi,bk,aJ,bj⟩:=Ve JS;have fj:=AA ac;have HV:=AA hv;have fd:Gd<W.heap.size:=by omega
    have KC:Hid (∀X,DW U.heap.size Gd W X->X.cell? ⟨p8,0,O⟩=E (L (E ⟨H,0,O⟩))/\X.cell? ⟨H,263,O⟩=E (T (E ⟨Gd,0,O⟩) n n)/\X.cell? ⟨wr.heap.size,0,O⟩=E (R K (node:Int))):=λX hX=>by have h1:∀k,k<wr.heap.size+1->k≠Gd->X.heap[k]?=U.heap[k]?:=λk ha hb=>(hX.1 k om hb).trans (aG k om ⟨hb,by omega⟩);exact⟨(BC (a:=⟨p8,0,O⟩) (h1 p8 om (Ne.symm bS.out))).trans eK.out.cell,(BC (a:=⟨H,263,O⟩) (h1 H (by have:=er.out;omega) (Ne.symm b7.out))).trans eR.out,(BC (a:=⟨wr.heap.size,0,O⟩) (h1 wr.heap.size om om)).trans fk.out.cell⟩
    have i1:(0:Int)<=(node:Int):=by omega
    have i2:(node:Int)<(n:Int):=by omega
    clear hv ac cQ c0
    gi_wp2
    have eZ:W.drew.heap[Gd]?=E (i7 ((vs.set node (va,lc s,vc)).map svV).toArray 30 (0,0)):=HV.out;have au:W.drew.ownsRow U.heap.size 3 1 (T va (lc s) vc) (lc s) (s.map (R K)):=fj.out;have be:=AA eZ;have aA:Hid (FB W.drew U.heap.size (T va (lc s) vc) s):=au;have ec:SlK 1 (W.drew.alloc (i7 #[R K u] 3)) (E ⟨W.drew.heap.size,0,O⟩) 1 [R K u]:=ane W.drew u;refine aa4 (S:=DW U.heap.size Gd W) mixed kr ⟨λ_ _ _=>rfl,(by show U.heap.size<=W.heap.size;omega)⟩ (λhHeld=>?_);refine tkB 0 KC.out ?_;refine tkB 1 KC.out ?_;refine tkB 2 KC.out ?_;refine tkB 3 KC.out ?_;refine tkB 4 KC.out ?_;refine tkB 5 KC.out ?_;refine tkB 6 KC.out ?_;refine tkB 7 KC.out ?_;refine tkB 8 KC.out ?_;refine tkB 9 KC.out ?_;refine tkB 10 KC.out ?_;refine tkA 12 ?_;refine apE 11 13 (λKB J=>?_) (λKB J=>?_)
    ·have c6:=FD.cell (B:=0) be.out (by rw[ax.out];exact ai);have A:=hHeld;go_simp;refine J.out _ _ ?_ (λN=>?_)
     ·exact A
     clear J KB hHeld A;have hHeld:=N;clear N
     try simp only[pq]
     refine rdy 13 (λKB J=>?_);have A:=hHeld;go_simp;refine J.out _ _ ?_ (λN=>?_)
     ·exact aaq A _
     clear J KB hHeld A c6;have hHeld:=N;clear N
     try simp only[pq]
     refine rdy 14 (λKB J=>?_);refine Mi kr ?_;refine NT _ _ _ 30 rfl U.heap.size 3 i0 (.int .i64 0) 1 8 underlying30 hi bk aJ bj rfl (by decide) _ _ _ rfl (au.alloc _) (E ⟨W.drew.heap.size,0,O⟩) 1 1 [.int .i64 u] rfl ec (by simp[Value.oneCell']) (by unfold maxLen;omega) om (by show U.heap.size<=(W.heap.push _).size;simp;omega) ?_;intro v' aq a6 a1 f9;obtain⟨g',ao,rfl⟩:=ownsRow_succ a6;obtain⟨b1,b2,b3,b4,b5⟩:=FD.app (u:=(E ⟨g',0,O⟩,lc s+1,ao)) be.out aA.out om (by show U.heap.size<=W.heap.size;omega) a6 a1;have d1:=FD.cell (B:=0) b1 (by rw[ax.out];exact ai);have d2:=aj0 b1 node;have d3:Gd<aq.heap.size:=(AD.1 b1).1;have ad:∀k,k<U.heap.size->(Value.slice va (lc s) vc).ownBlock≠E k:=λk hk e=>by have:=(BA aA.out k e).1;omega
     have aW:DW U.heap.size Gd W aq:=⟨λk h1 h2=>(a1.block k (by show k<(W.heap.push _).size;simp;omega) (λe=>ad k h1 e.symm)).trans ((AL W.drew _).block k (by show k<W.heap.size;omega)),AS (by show U.heap.size<=(W.heap.push _).size;simp;omega) a1.size⟩;refine J.out _ _ aW (λN=>?_);clear J KB hHeld;have hHeld:=N;clear N
     try simp only[pq]
     refine tkA 15 ?_;refine rdy 16 (λKB J=>?_);go_simp;have aV:DW U.heap.size Gd W (aq.setCell ⟨Gd,node,O⟩ (T (E ⟨g',0,O⟩) (lc s+1) ao)):=⟨λk h1 h2=>b4 k h1 h2,by have h1:=aW.2;simpa[World.setCell]using h1⟩;refine J.out _ _ ?_ (λN=>?_)
     ·exact aV
     clear J KB hHeld N;refine Vd kr ?_ _;refine Gn.normal ?_
     gi_wp2
     exact⟨(show KeepsOthers W _ from⟨b3.size,b3.same⟩).from _,λk hk=>b4 k hk.1 hk.2,b2,⟨λk h1 h2=>(b4 k h1 h2.1).trans (aG k h1 h2),aV.2⟩,b9.trans (((AN W 1).mono om).trans b5)⟩
    ·have A:=hHeld;go_simp;refine J.out _ _ ?_ (λN=>?_)
     ·exact aaq A _
     clear J KB hHeld A;have hHeld:=N;clear N
     try simp only[pq]
     refine rdy 11 (λKB J=>?_);have c6:=FD.cell (B:=0) be.out (by rw[ax.out];exact ai);have c8:=FD.cell (B:=0) HV.out (by rw[ax.out];exact ai);have c7:=FD.cell (B:=0) ((Bg W.drew (i7 #[R K u] 3) Gd fd).trans be.out) (by rw[ax.out];exact ai);have A:=hHeld;go_simp;refine J.out _ _ ?_ (λN=>?_)
     ·exact A
     clear J KB hHeld A c7 c6 c8;have hHeld:=N;clear N
     try simp only[pq]
     refine rdy 14 (λKB J=>?_);refine Mi kr ?_;refine NT _ _ _ 30 rfl U.heap.size 3 i0 (.int .i64 0) 1 8 underlying30 hi bk aJ bj rfl (by decide) _ _ _ rfl (au.alloc _) (E ⟨W.drew.heap.size,0,O⟩) 1 1 [.int .i64 u] rfl ec (by simp[Value.oneCell']) (by unfold maxLen;omega) om (by show U.heap.size<=(W.heap.push _).size;simp;omega) ?_;intro v' aq a6 a1 f9;obtain⟨g',ao,rfl⟩:=ownsRow_succ a6;obtain⟨b1,b2,b3,b4,b5⟩:=FD.app (u:=(E ⟨g',0,O⟩,lc s+1,ao)) be.out aA.out om (by show U.heap.size<=W.heap.size;omega) a6 a1;have d1:=FD.cell (B:=0) b1 (by rw[ax.out];exact ai);have d2:=aj0 b1 node;have d3:Gd<aq.heap.size:=(AD.1 b1).1;have ad:∀k,k<U.heap.size->(Value.slice va (lc s) vc).ownBlock≠E k:=λk hk e=>by have:=(BA aA.out k e).1;omega
     have aW:DW U.heap.size Gd W aq:=⟨λk h1 h2=>(a1.block k (by show k<(W.heap.push _).size;simp;omega) (λe=>ad k h1 e.symm)).trans ((AL W.drew _).block k (by show k<W.heap.size;omega)),AS (by show U.heap.size<=(W.heap.push _).size;simp;omega) a1.size⟩;refine J.out _ _ aW (λN=>?_);clear J KB hHeld;have hHeld:=N;clear N
     try simp only[pq]
     refine tkA 15 ?_;refine rdy 16 (λKB J=>?_);go_simp;have aV:DW U.heap.size Gd W (aq.setCell ⟨Gd,node,O⟩ (T (E ⟨g',0,O⟩) (lc s+1) ao)):=⟨λk h1 h2=>b4 k h1 h2,by have h1:=aW.2;simpa[World.setCell]using h1⟩;refine J.out _ _ ?_ (λN=>?_)
     ·exact aV
     clear J KB hHeld N;refine Vd kr ?_ _;refine Gn.normal ?_
     gi_wp2
     exact⟨(show KeepsOthers W _ from⟨b3.size,b3.same⟩).from _,λk hk=>b4 k hk.1 hk.2,b2,⟨λk h1 h2=>(b4 k h1 h2.1).trans (aG k h1 h2),aV.2⟩,b9.trans (((AN W 1).mono om).trans b5)⟩
   case hstop=>exact λ_ _ _ _ _ _ h _=>h.elim
   case hdone=>
    rintro D zs W hD hS ⟨hH,⟨aG,f0⟩,b9⟩ eu;subst hS;have af:∀i,i<wr.heap.size->i≠Gd->W.heap[i]?=wr.heap[i]?:=λi h1 h2=>(aG i om ⟨h2,by omega⟩).trans (bW.out.block i h1);have eb:wr.heap.size<=W.heap.size:=by omega
    have fq:Hid (GP Gd n ((List.range (node+1)).map (CA wss)) W):=by rw[Hid,El,Aj];exact GP.step ez.out ax.out eV ai eP.out fh.out om hH af eb
    have aR:=(bW.out.mono (DP bT)).trans b9;have fp:Hid (Y3.grownBy W (E Gd)):=adm aI.out ⟨aR.os,aR.tape,aR.output,aR.size,λi hi aO=>af i hi (λe=>aO (by rw[e]))⟩;have fu:Hid (FE C.heap.size W ({target:=.collected D,args:=#[]}::ds)):=FE.push HC.out af (λl e=>by rw[ez.out]at e;cases e) om eu f1;clear hH aG b9 aR af cQ eu eS;have aP:=bC.out;dsimp only
    go_wp2_with fail
    refine⟨⟨node+1,_,_,_,_,_,_,_,_,_,_,_,_,_,_,_,_,_,_,_,_,_,_,_,_,_,_,_,_,_,_,_,_,_,_,_,_,_,_,_,_,_,⟨by simp,by omega,fq,fp,fu⟩,rfl⟩,?_⟩;show n-(intOf (R K ((node:Int)+1))).toNat<n-(intOf (R K (node:Int))).toNat;simp only[intOf];omega
  ·have hd:decide ((node:Int)<(n:Int))=M:=by simp;omega
   have aO:Hid (node=n):=by rw[Hid];omega
   go_wp2_with fail
   show LeavesInM Fence.wide 9 ZP _ _ _ _ .returning wr;refine apl (Q:=C.heap.size) ds wr am.out.size HC.out (λW' hT=>⟨_,results_tmp2 rfl _ _ _,?_⟩);have e5:=eL.out.turned aI.out fo.out (Lj kr) (Lj kr);have e4:=e5;obtain⟨a9,c9,e9,fJ,bF⟩:=e5.wds;rw[bD.out]at e9 bF
   cases e9
   have fc:=aj.block Ra ar.lt;have fb:Ra<C.heap.size:=Af ar.lt aj.size;have ad:=HF.out.far (q:=w.heap.size) (AS ag.out.size bz.out);rw[aO.out]at ad;have et:Il w.heap.size wr H Ra av y cv wss (E ⟨Gd,0,O⟩):=⟨AS ag.out.size eT.out,fg.out,e4.lower ag.out.size,by rw[HN.out];exact ad⟩;refine⟨H,Ra,cv,n,av,E ⟨Gd,0,O⟩,rfl,hT.mok ⟨?_,?_,?_,?_⟩,ag.out.trans ((am.out.trans hT.1).mono ag.out.size),et.kept hT.kept⟩
   ·rw[fl.out,HM.out,HN.out,fm.out];exact⟨(cT.out H ap.out.lt (Ne.symm b7.out)).trans ap.out.box,aa⟩
   ·exact(am.out.block Ra fb).trans (fc.trans ar)
   ·exact bF
   ·rw[HN.out];have hl:=HF.out.lls (by simp;exact aO.out);rw[aO.out]at hl;exact hl
 refine Vb ?_;refine Va (S:=Bt C) kr (AN C 1) (λhHeld=>?_);obtain⟨w8,e6⟩:∃W,W=C.drew:=⟨_,rfl⟩;rw[<-e6]at hHeld⊢;clear e6;refine tkA 0 ?_;refine' wpAnyH_take (i:=1) (v:=_) (by simp only[pD,pE,pF];rfl) (by as_aux_lemma=>kernel_rfl) (by as_aux_lemma=>kernel_rfl) (by as_aux_lemma=>kernel_rfl) (λ_ _ _ h=>h) (yieldsIf_load_mid (by rfl) _ _ rfl w3.heap.size 0 rfl (LO.map (Value.int .i64)) _ (λV I=>(HK.out V I).range) underlying144 rfl bg.out) (by assumption) ?_
 try simp only[pq]
 refine tkA 2 ?_;refine tkW 3 (v:=?_) ?_ ?_;rotate_left
 ·intro V I;have r0:=(HK.out V I).cells.1
  first|(go_simp;done)|(go_simp;with_reducible rfl)
 try simp only[pq]
 refine' wpAnyH_take (i:=4) (v:=_) (by simp only[pD,pE,pF];rfl) (by as_aux_lemma=>kernel_rfl) (by as_aux_lemma=>kernel_rfl) (by as_aux_lemma=>kernel_rfl) (λ_ _ _ h=>h) (aaS (by rfl) _ _ rfl w3.heap.size rfl 146 _ (0,0) _ (λV I=>(HK.out V I).box) underlying146 rfl bY.out) (by assumption) ?_
 try simp only[pq]
 refine tkA 6 ?_;refine tkW 7 (v:=?_) ?_ ?_;rotate_left
 ·intro V I;have r0:=(HK.out V I).cells.2
  first|(go_simp;done)|(go_simp;with_reducible rfl)
 try simp only[pq]
 refine tkB 9 eF.out ?_;refine tkB 11 eF.out ?_;refine tkB 13 eB.out ?_;refine apJ 17 (λv V=>∃p,v=L (E ⟨p,0,O⟩)/\Boxed V p 88 (L O)/\C.heap.size<=p) ?_ ?_ (λD=>?_)
 ·rintro _ V V' ⟨p,rfl,b,h⟩ hb;exact⟨p,rfl,(hb.block _ b.lt).trans b,h⟩
 ·intro f V I _ KB J;go_simp;exact J _ _ (I.alloc I.size _) ⟨_,rfl,Boxed.new _ _ _,I.size⟩ (AL _ _)
 refine Oo D 5 (λv _=>v=R K n) ?_ ?_
 ·rintro f (rfl|⟨vk,rfl⟩) V I-KB J<;>(try simp only[pq]at J⊢)<;>go_simp<;>(go_at_call 89;refine(ab7 LO m (E ⟨Ra,0,O⟩) k k _ aa om).mono ?_;rintro e V5 ⟨rfl,aC⟩;rw[eE.out];exact J _ _ (I.trans (aC.mono I.size)) rfl aC)
 rintro _ w9 hHeld-rfl
 try simp only[pq]
 refine apH D 8 (v:=i8 ZT) ?_ ?_
 ·rintro f (rfl|⟨vk,rfl⟩)<;>(try simp only[pq])<;>exact Iz (by rfl) _ _ rfl ZT (by go_simp;exact bi.out)
 try simp only[pq]
 refine Oo D 10 (λv V=>∃av cv,v=i8 #[i6 fold,T av y cv]/\y<=cv/\BI V C.heap.size (T av y cv) wss) ?_ ?_
 ·rintro f (rfl|⟨vk,rfl⟩) V I-KB J<;>(try simp only[pq]at J⊢)<;>go_simp<;>(go_at_call 90;refine(eH.out _ (ag.out.trans (I.mono ag.out.size))).mono ?_;rintro e fR ⟨v,rfl,ac,bM⟩;obtain⟨av,cv,rfl,aQ,-⟩:=ac.wds;rw[bD.out]at aQ;have aM:=BI.lower ac I.size;rw[bD.out]at aM;rw[bD.out];exact J _ _ (I.trans (bM.mono I.size)) ⟨_,_,rfl,aQ,aM⟩ bM)
 rintro _ fE hHeld-⟨av,cv,rfl,aQ,a2⟩
 try simp only[pq]
 obtain⟨ZM,aD⟩:∃Z,(bd++[i6 fold,T av y cv,R K (Au wss),R K ((Dm wss n:Nat):Int),T O 0 0]).toArray=Z:=⟨_,rfl⟩;have bE:Hid (ZP.built 162 [(0,i8 ZT),(1,i8 #[i6 fold,T av y cv]),(2,R K (Au wss)),(3,R K ((Dm wss n:Nat):Int))]=E ZM):=by rw[Hid,<-aD,<-ey.out];exact aad bd fold av y cv _ _ eA.out
 have fe:=AA aD;clear aD;refine Oo D 12 (λv _=>v=R K (Au wss)) ?_ ?_
 ·rintro f (rfl|⟨vk,rfl⟩) V I-KB J<;>(try simp only[pq]at J⊢)<;>go_simp<;>(go_at_call 91;refine(eI.out _ (ag.out.trans (I.mono ag.out.size))).mono ?_;rintro e fQ ⟨rfl,a7⟩;exact J _ _ (I.trans (a7.mono I.size)) rfl a7)
 rintro _ fD hHeld hb rfl
 replace a2:=a2.below hb
 clear hb
 try simp only[pq]
 refine Oo D 14 (λv _=>v=R K ((Dm wss n:Nat):Int)) ?_ ?_
 ·rintro f (rfl|⟨vk,rfl⟩) V I-KB J<;>(try simp only[pq]at J⊢)<;>go_simp<;>(go_at_call 92;refine(df.out _ _ (bf.out.below I) ea).mono ?_;rintro e fP ⟨rfl,bL⟩;exact J _ _ (I.trans (bL.mono I.size)) rfl bL)
 rintro _ fC hHeld hb rfl
 replace a2:=a2.below hb
 clear hb
 try simp only[pq]
 refine apH D 15 (v:=i8 ZM) ?_ ?_
 ·rintro f (rfl|⟨vk,rfl⟩)<;>(try simp only[pq])<;>exact Iz (by rfl) _ _ rfl ZM (by go_simp;exact bE.out)
 try simp only[pq]
 refine Oo D 16 (λv V=>∃p,v=L (E ⟨p,0,O⟩)/\V.heap[p]?=E (i7 ZM 162 (0,0))/\C.heap.size<=p) ?_ ?_
 ·rintro f (rfl|⟨vk,rfl⟩) V I-KB J<;>(try simp only[pq]at J⊢)<;>go_simp<;>exact J _ _ (I.alloc I.size _) ⟨_,rfl,heap_alloc_new _ _,I.size⟩ (AL _ _)
 rintro _ fB hHeld hb ⟨pM,rfl,bh,bB⟩
 replace a2:=a2.below hb
 clear hb
 try simp only[pq]
 refine apI D ?_;rintro _ fA hHeld hb-⟨pP,rfl,bP,ei⟩
 replace a2:=a2.below hb
 replace bh:=(hb.block _ (AD.1 bh).1).trans bh
 have aZ:pM≠pP:=by rintro rfl;cases bh.symm.trans bP
 try simp only[pq]
 refine rdy 18 (λKB J=>?_);have q0:=bP.cell;have q1:=bP.frozen;have q2:=bP.lt;go_simp;refine J.out _ _ (hHeld.setCell ei _) (λN=>?_)
 try simp only[pq]
 refine Vd kr ?_ _;refine At ?_;exact⟨_,_,cv,av,ZM,_,_,_,_,_,_,_,_,_,_,_,_,_,_,_,_,_,_,_,_,_,_,_,_,_,_,_,_,_,_,_,_,_,_,_,_,_,_,_,_,rfl,bP.set _,(AQ _ _ _ _ aZ).trans bh,fe.out,a2.turned (BH _ _ 0 _) bP (Lj kr) (Lj kr),N,ei,bB,aQ,aZ⟩
end
def ownW(ws:La)(b:List Int):List Int:=if b∈ws then [CW ws b] else []
def DF(ws:La):List Int->List Int
 |[]=>[]
 |c::b=>ownW ws (c::b)++DF ws b
section
variable {ws:La}
theorem LU(h0:[] ∉ ws):∀b,DF ws (lsf (AB ws) b)=DF ws b
 |[]=>by have:=Gb (AB ws) [];rw[List.suffix_nil.1 this]
 |c::b=>by
  by_cases h:(c::b)∈AB ws
  ·rw[Lu h]
  ·have Y:(c::b) ∉ ws:=λX=>by
    obtain⟨w,Z⟩:=DR X;obtain⟨j,_,V,_⟩:=adL Z sm;exact h (List.mem_of_getElem? V)
   have e:lsf (AB ws) (c::b)=lsf (AB ws) b:=al2 (b:=c::b) (k:=0) sm h;rw[e,LU h0 b]
   conv=>rhs;unfold DF ownW
   rw[Lb Y,Av]
theorem ajb(h0:∀x∈ws,lc x≠0){z:Nat}{x:List Int}(Z:(AB ws)[z]?=E x):∃v:Int,(AG ws).wrd[z]?=E v/\ownW ws x=if 0<=v then [v] else []:=by
 refine⟨CW ws x,alj Z,?_⟩;unfold ownW
 by_cases h:x∈ws
 ·rw[Lc h,Lc];unfold CW;rw[Lc h];omega
 ·rw[Lb h,abt h,Lb (by decide)]
theorem OU(h0:∀x∈ws,lc x≠0):∀{z:Nat}{x:List Int},(AB ws)[z]?=E x->CA ws z=DF ws x:=by
 intro z;have N:[] ∉ ws:=λB=>h0 [] B rfl
 induction z using Nat.strongRecOn with
 |_ z ih=>
  intro x Y;have I:=(AP.1 Y).1
  by_cases X:z=0
  ·subst X;rw[CM]at Y;have:=AK Y;subst this;exact afO ws
  ·have U:x≠[]:=λe=>X ((EM Y).2 e);obtain⟨v,D,ho⟩:=ajb h0 Y;rw[acI om I D,<-ho];obtain⟨k,h1,_,h3,h4⟩:=Nh Y;have V:=h3 om;obtain⟨u,H,C⟩:=ajb h0 h4;have hk:CA ws (nx ws z)=DF ws (EC (AB ws) x):=by
    rw[ajZ om I h1 H]
    by_cases Z:0<=u
    ·rw[Lc Z];exact ih k V h4
    ·rw[Lb Z];have e:=ih k V h4
     by_cases J:k=0
     ·subst J;rw[Lk];exact e
     ·rw[acI om om H,Lb Z,Av]at e;exact e
   rw[hk]
   cases x with
   |nil=>exact absurd rfl U
   |cons c b=>
    rw[show EC (AB ws) (c::b)=lsf (AB ws) b from rfl,LU N b]
    rfl
end
theorem Od(ws:La)(c:Int)(t:List Int):DF ws (c::t)=(if(c::t)∈ws then [CW ws (c::t)] else [])++DF ws t:=rfl
theorem aqq:((ZP.fieldsOf 116).toList.map λf=>(f.name,f.type,f.offset))=[("End",3,0),("Word",3,1)]:=by kernel_rfl
theorem apV(d:Nat)(xs ys:Array Vh)(Y Z:List Field)(h:Y.map (λf=>(f.name,f.type,f.offset))=Z.map (λf=>(f.name,f.type,f.offset))):Op.eqFields d xs ys Y=Op.eqFields d xs ys Z:=by
 induction Y generalizing Z with
 |nil=>cases Z with
  |nil=>rfl
  |cons g Z=>simp at h
 |cons f Y ih=>cases Z with
  |nil=>simp at h
  |cons g Z=>
   simp only[BO,MY,Jk]at h;obtain⟨⟨h1,h2,h3⟩,h4⟩:=h;simp only[Op.eqFields,h1,h2,h3,ih Z h4]
theorem aqh(x y:AF)(W:Wa):(Op.equalIn 10000 116 (i8 #[R K x.1,R K x.2]) (i8 #[R K y.1,R K y.2])).run ZP W=.ok (decide (x=y)) W:=by
 rw[run_equalIn_agg W 9999 116 _ _ kr kr];rw[apV 9999 _ _ _ [⟨ "End",3,0,M,"","",0⟩,⟨ "Word",3,1,M,"","",0⟩] aqq];have h0:∀W:Wa,(part 3 #[R K x.1,R K x.2] 0).run ZP W=.ok (R K x.1) W:=λW=>by kernel_rfl
 have h1:∀W:Wa,(part 3 #[R K x.1,R K x.2] 1).run ZP W=.ok (R K x.2) W:=λW=>by kernel_rfl
 have Y:∀W:Wa,(part 3 #[R K y.1,R K y.2] 0).run ZP W=.ok (R K y.1) W:=λW=>by kernel_rfl
 have Z:∀W:Wa,(part 3 #[R K y.1,R K y.2] 1).run ZP W=.ok (R K y.2) W:=λW=>by kernel_rfl
 simp only[Op.eqFields,IN,Sem.run_ite,IM,h0,h1,Y,Z,Result.andThen_ok,run_equalIn_int _ _ _ _ _ _ _ underlying3];obtain⟨a,b⟩:=x;obtain⟨c,d⟩:=y
 by_cases X:a=c<;>by_cases e2:b=d<;>simp[X,e2]
theorem ar9(x y:AF)(W:Wa):(binOp .neq 116 (i8 #[R K x.1,R K x.2]) (i8 #[R K y.1,R K y.2])).run ZP W=.ok (i6 (!decide (x=y))) W:=by
 rw[run_neq_struct,aqh]
 rfl
theorem aqF:ZP.eqGuardType ZP.depth 116=M:=by kernel_rfl
theorem PY{w:Wa}{a:Option Addr}{n:Nat}{l:List AF}(h:SlK 2 w a n (AV l)):lc l=n:=by have:=h.1;rw[GF]at this;omega
theorem aqO{w:Wa}{a:Option Addr}{n:Nat}{l:List AF}(h:SlK 2 w a n (AV l)){k:Nat}(hk:k<n) :∃b off x,a=E ⟨b,off,O⟩/\b<w.heap.size/\w.cell? ⟨b,off+k*2,O⟩=E (R K x.1)/\w.cell? ⟨b,off+k*2+1,O⟩=E (R K x.2)/\l[k]?=E x:=by have V:=PY h;obtain⟨b,off,e,Z,X⟩:=h.2.resolve_left om;obtain⟨x,Y⟩:∃x,l[k]?=E x:=⟨l[k]'om,by simp⟩;obtain⟨c0,c1⟩:=aeK Y;exact⟨b,off,x,e,Z,X _ _ c0,by rw[Nat.add_assoc];exact X _ _ c1,Y⟩
theorem apY(a b:Option Addr)(X ca J cb:Nat)(l m:List AF)(w:Wa)(C:SlK 2 w a X (AV l))(hB:SlK 2 w b J (AV m))(a1:X<=4611686018427387904) :Calls ZP 40 #[T a X ca,T b J cb] w λe w'=>e=ra (i6 (decide (l=m)))/\Bt w w':=by
 have j:=AA (PY C);have s:=AA (PY hB);have a2:=aqF
 by_cases D:X=J
 ·subst D;go_enter func40,ntmps40;go_wp2
  go_loopw[5] (λi wr=>∃k:Nat,k<=X/\i=R K k/\Hid (l.take k=m.take k)/\Bt w wr) (λi _=>X-(intOf i).toNat)
  case atStart=>exact⟨0,AR _,rfl,by simp[Hid],AH _ _⟩
  case round=>
   obtain⟨k,hk,rfl,v,Y⟩:=hrel
   by_cases N:k<X
   ·obtain⟨b1,o1,x,rfl,a7,x0,x1,H⟩:=aqO (C.below Y) N;obtain⟨b2,o2,y,rfl,a6,y0,y1,I⟩:=aqO (hB.below Y) N;have A:=AA H;have B:=AA I;clear H I;have hd:decide ((k:Int)<X)=G:=by simp;omega
    have V:=λW=>ar9 x y W
    by_cases h:x=y
    ·have U:Hid (l.take (k+1)=m.take (k+1)):=by rw[As A.out,As B.out,v.out,h];rfl
     have Z:decide (x=y)=G:=by simp[h]
     rw[Z]at V;clear h Z;go_wp2
     go_quiet (fail)
     go_wp2
     go_roundw
     case rel=>exact⟨k+1,by omega,by go_num,U,Y.trans ⟨rfl,rfl,rfl,AC _,λ_ _=>rfl⟩⟩
     case measure=>simp[intOf];omega
    ·have U:Hid (decide (l=m)=M):=by
      have:l≠m:=λe=>by have h1:=A.out;rw[e,B.out]at h1;exact h (AK h1).symm
      simp[Hid,this]
     have Z:decide (x=y)=M:=by simp[h]
     rw[Z]at V;clear h Z;go_wp2
     go_quiet (fail)
     go_wp2;go_ret;exact⟨by rw[U.out];rfl,Y.trans ⟨rfl,rfl,rfl,AC _,λ_ _=>rfl⟩⟩
   ·obtain rfl:k=X:=by omega
    have U:Hid (decide (l=m)=G):=by have h:=v.out;rw[Ap (by rw[j.out];exact AC _),Ap (by rw[s.out];exact AC _)]at h;simp[Hid,h]
    go_wp2;go_ret;exact⟨by rw[U.out];rfl,Y⟩
 ·have U:Hid (decide (l=m)=M):=by
   have:l≠m:=λe=>D (by rw[<-j.out,<-s.out,e]);simp[Hid,this]
  have V:((X:Int) != (J:Int))=G:=by simp;omega
  go_enter func40,ntmps40;go_wp2;go_ret;exact⟨by rw[U.out];rfl,AH _ _⟩
theorem aqd(a b:Option Addr)(Z U Y V:Nat)(l m:List AF)(w:Wa)(N:Hts w a Z l)(hB:Hts w b Y m)(X:Z<=4611686018427387904) :Calls ZP 40 #[T a Z U,T b Y V] w λe w'=>e=ra (i6 (decide (l=m)))/\Bt w w':=apY a b Z U Y V l m w N.1 hB.1 X
theorem ahJ(B:Nat)(LO:List Int)(m:Int)(n j:Nat)(row:Vh)(fold:Bool)(D:Vh)(lo C:Int)(H:Option Addr)(wc:Nat)(W:La)(xs:List Int)(w:Wa)(h:Mc w B LO m (n:Int) row fold D lo C (T H n wc))(hW:Lls w H n W)(s:j<n)(y:W[j]?=E xs)(a1:lc xs<=1000000) :Calls ZP 273 #[L (E ⟨B,0,O⟩),R K (j:Int)] w λe w'=>∃v,e=ra v/\FB w' w.heap.size v xs/\Bt w w':=by
 obtain⟨i0,hi,N,U,V⟩:=Ve JS;obtain⟨b,off,a',l,c,ys,rfl,a6,I,A,J,a2⟩:=hW.at_ s;obtain rfl:ys=xs:=by have:=A.symm.trans y;cases this;rfl
 have hl:=J.1;have s0:=h.cells.2.2.2.2.2.2.2;have Y:=Nk B LO m n row fold D lo C (T (E ⟨b,off,O⟩) n wc) j w h;rw[show decide (0<=(j:Int)/\(j:Int)<(n:Int))=G by simp;omega]at Y;have HI:=AA Y;have HS:=AA J;have i1:(0:Int)<=(j:Int):=by omega
 have i2:(j:Int)<(n:Int):=by omega
 subst hl;clear Y h hW y A J s;go_enter func273,ntmps273
 go_wp2_with (first
  |(go_at_call 271;refine HI.out.mono ?_;rintro e w4 ⟨rfl,rfl⟩)
  |(at_builtin;refine Mf rfl _ _ 30 rfl (enc:=Value.int .i64) (λ_=>rfl) w.heap.size 3 i0 (.int .i64 0) 8 underlying30 hi N U V rfl _ 0 [] rfl (BN _ _ _ _) a' _ c ys rfl HS.out (by unfold maxLen;omega) om (AC _) ?_;intro v' w5 Z X a7))
 go_ret;refine⟨_,rfl,?_,(AH _ _).grown X (AC _) (λk e=>by cases e)⟩
 simpa[FB]using Z
theorem afA(B:Nat)(LO:List Int)(m n:Int)(row:Vh)(fold:Bool)(Y:Vh)(lo X:Int)(wd:Vh)(j:Int)(w:Wa)(h:Mc w B LO m n row fold Y lo X wd)(V:j<0∨n<=j) :Calls ZP 273 #[L (E ⟨B,0,O⟩),R K j] w λe w'=>∃v,e=ra v/\FB w' w.heap.size v []/\Bt w w':=by
 have Z:=Nk B LO m n row fold Y lo X wd j w h;rw[show decide (0<=j/\j<n)=M by simp;omega]at Z;have U:=AA Z;clear Z h V;go_enter func273,ntmps273
 go_wp2_with (go_at_call 271;refine U.out.mono ?_;rintro e w4 ⟨rfl,rfl⟩)
 go_ret;exact⟨_,rfl,BN _ _ _ _,AH _ _⟩
def Dz(wss:La)(node:Int):List Int:=if 0<=node/\node<((AB wss).length:Int) then CA wss node.toNat else []
theorem af6{B Ra U N wc:Nat}{fold:Bool}{wss:La}{lo Y:Int}{a V:Option Addr}(node:Int)(w:Wa)(h:MOK w B fold wss lo Y Ra a U N V wc)(Z:(Dz wss node).length<=1000000) :Calls ZP 273 #[L (E ⟨B,0,O⟩),R K node] w λe w'=>∃v,e=ra v/\FB w' w.heap.size v (Dz wss node)/\Bt w w':=by
 unfold Dz at Z⊢
 by_cases X:0<=node/\node<((AB wss).length:Int)
 ·rw[Lc X]at Z⊢;obtain⟨j,rfl⟩:∃k:Nat,node=(k:Int):=⟨node.toNat,by omega⟩;rw[Aa]at Z⊢;exact ahJ B _ _ _ j _ fold _ lo Y _ _ _ _ w h.mc h.lls om (by rw[BU,It om];rfl) Z
 ·rw[Lb X];exact afA B _ _ _ _ fold _ lo Y _ node w h.mc om
theorem aik(p:Vh)(node at_:Int)(xs:List Int)(w:Wa)(a7:lc xs<=1000000)
  (hw:∀V,Bt w V->Calls ZP 273 #[p,R K node] V λe w'=>∃v,e=ra v/\FB w' V.heap.size v xs/\Bt V w') :
  Calls ZP 244 #[p,R K node,R K at_] w λe w'=>∃v,e=ra v/\Ax w' w.heap.size v (xs.map λx=>(at_,x))/\Bt w w':=by
 obtain⟨i0,hi,A,B,C⟩:=Ve IG;have HW:=AA hw;clear hw;go_enter func244,ntmps244;go_upto_region 2 with fail
 go_wp2_with (go_at_call 273;refine(HW.out _ (AH _ _)).mono ?_;rintro e U ⟨v,rfl,Y,I⟩;obtain⟨a1,c1,rfl,aa,H⟩:=Co Y)
 have ac:=AA Y;have a2:=AA H;clear Y H
 go_loopw[7,14] (λv i wr=>∃k:Nat,k<=lc xs/\i=R K k/\Bt U wr/\Ax wr U.heap.size v ((xs.take k).map λx=>(at_,x))) (λ_ i _=>lc xs-(intOf i).toNat)
 case atStart=>exact⟨0,AR _,rfl,AH _ _,by simpa[Ax,AV]using BN U U.heap.size 116 2⟩
 case round=>
  obtain⟨k,hk,rfl,X,Z⟩:=hrel
  by_cases y:k<lc xs
  ·have hd:decide ((k:Int)<(lc xs:Int))=G:=by simp;omega
   obtain⟨b0,o0,x,e0,ab,cx,hx⟩:=DG (a2.out.below X) y;subst e0;have i1:(0:Int)<=(k:Int):=by omega
   have i2:(k:Int)<(lc xs:Int):=by omega
   have HX:=AA hx;obtain⟨m,D⟩:∃m,((xs.take k).map λx=>(at_,x)).length=m:=⟨_,rfl⟩;have a8:m=k:=by rw[<-D,BP,Ag];omega
   unfold Ax at Z;rw[D]at Z;have HM:=AA D;clear D hx
   go_wp2_with (at_builtin;refine wpList_append_own _ rfl _ _ 69 rfl U.heap.size 116 i0 (i8 #[.int .i64 0,.int .i64 0]) 2 16 underlying69 hi A B C rfl (by decide) _ _ _ rfl (Z.alloc _) ⟨wr.heap.size,0,O⟩ 1 1 [.int .i64 at_,.int .i64 x] rfl rfl (GI _ _ rfl) (by simp[Value.oneCell']) (by unfold maxLen;omega) om (by have:=X.size;simp;omega) ?_;intro v' w5 N J a6)
   have s:Bt U w5:=(X.alloc (by have:=X.size;omega) _).grown J (by have:=X.size;simp;omega) (λj hj=>(Z.lt j hj).1)
   go_roundw
   case rel=>
    refine⟨k+1,by omega,by go_num,s,?_⟩;unfold Ax;rw[As HX.out,Aj,List.length_append,HM.out];show w5.ownsRow U.heap.size 116 2 v' (m+1) (AV (((xs.take k).map λx=>(at_,x))++[(at_,x)]));rw[afo];exact N
   case measure=>simp[intOf];omega
  ·obtain rfl:k=lc xs:=by omega
   have hd:decide ((lc xs:Int)<(lc xs:Int))=M:=by simp
   rw[Hl]at Z;go_wp2;go_ret;exact⟨_,rfl,Go.Joins.ownsRow_le Z I.size,I.trans (X.mono I.size)⟩
theorem aih{B Ra U J wc:Nat}{fold:Bool}{wss:La}{lo X:Int}{a Y:Option Addr}(node at_:Int)(w:Wa)(h:MOK w B fold wss lo X Ra a U J Y wc)(Z:(Dz wss node).length<=1000000) :Calls ZP 244 #[L (E ⟨B,0,O⟩),R K node,R K at_] w λe w'=>∃v,e=ra v/\Ax w' w.heap.size v ((Dz wss node).map λx=>(at_,x))/\Bt w w':=aik _ node at_ _ w Z (λV N=>af6 node V (h.below N) Z)
theorem aer:∀(l:La)(k:Nat),∃N:Nat,l.foldl (λn w=>max n (lc w:Int)) (k:Int)=(N:Int)/\k<=N/\(∀y∈l,lc y<=N)/\∀My,k<=My->(∀y∈l,lc y<=My)->N<=My
 |[],k=>⟨k,rfl,AC _,λy Z=>by simp at Z,λMy h _=>h⟩
 |x::l,k=>by
  obtain⟨N,h1,h2,h3,h4⟩:=aer l (max k (lc x));refine⟨N,?_,by omega,λy Z=>?_,λMy hk Y=>h4 My (by have:=Y x (List.mem_cons_self ..);omega) λy Z=>Y y (MT _ Z)⟩
  ·rw[List.foldl_cons,<-h1];congr 1;omega
  ·rcases CR.1 Z with rfl|Z
   ·omega
   ·exact h3 y Z
theorem acs(l:La):∃N:Nat,Au l=(N:Int)/\(∀y∈l,lc y<=N)/\∀My,(∀y∈l,lc y<=My)->N<=My:=by obtain⟨N,h1,_,h3,h4⟩:=aer l 0;exact⟨N,h1,h3,λMy Z=>h4 My (AR _) Z⟩
theorem amq{LO F:List Int}{m j c:Nat}{y:Int}(h:goD LO (m:Int) F (j:Int) c=E y)(V:lc LO=256)(X:c<256):∃v:Nat,LO[c]?=E (v:Int)/\v<m/\F[j*m+v]?=E y:=by
 obtain⟨v,Z⟩:∃v,LO[c]?=E v:=⟨LO[c]'om,by simp⟩;unfold goD at h;rw[Z,CG]at h
 split at h
 ·exact absurd h sm
 ·rename_i Y
  obtain⟨v,rfl⟩:∃k:Nat,v=(k:Int):=⟨v.toNat,by omega⟩;refine⟨v,Z,by omega,?_⟩;rw[show((j:Int)*(m:Int)+(v:Int)).toNat=j*m+v by rw[<-Iy];omega]at h;exact h
theorem ali(B Ra:Nat)(LO F:List Int)(m j c Z c0:Nat)(y n:Int)(fold:Bool)(H:Vh)(lo A:Int)(wd:Vh)(w:Wa)(h:Mc w B LO m n (T (E ⟨Ra,0,O⟩) Z c0) fold H lo A wd)(U:Sl1 (R K) w (E ⟨Ra,0,O⟩) Z F)(hn:Z<=1000000000)(hc:c<256)(N:goD LO (m:Int) F (j:Int) c=E y) :Calls ZP 272 #[L (E ⟨B,0,O⟩),R K (j:Int),.int .u8 (c:Int)] w λe w'=>e=ra (R K y)/\Bt w w':=by
 obtain⟨v,J,a1,V⟩:=amq N h.len hc;have c1:(j:Int)*(m:Int)=((j*m:Nat):Int):=(Iy _ _).symm;obtain⟨P,I⟩:∃P,j*m=P:=⟨_,rfl⟩;rw[I]at c1 V;have s:P+v<Z:=by have:=(AP.1 V).1;have:=U.1;omega
 obtain⟨b0,o0,x,e0,X,cx,Y⟩:=DG U s
 cases e0
 obtain rfl:x=y:=by have:=Y.symm.trans V;cases this;rfl
 obtain⟨D,s1,s2⟩:=Lq (h.cls J) (Lq h.cells.1 h.cells.2.2.1);have i1:(0:Int)<=(c:Int):=by omega
 have i2:(c:Int)<256:=by omega
 have l2:(0:Int)<=(P:Int)+(v:Int):=by omega
 have l3:(P:Int)+(v:Int)<(Z:Int):=by omega
 have e1:wrap64 ((j:Int)*(m:Int))=(P:Int):=by rw[c1];unfold wrap64;omega
 have hB:=h.lt;have f0:∀d os,(grow (redrawn w d) os).cell? ⟨B,c,O⟩=E (R K (v:Int)):=λd os=>((Kf w d os).cell (p:=⟨B,c,O⟩) hB).trans D;have f1:∀d os,(grow (redrawn w d) os).cell? ⟨B,256,O⟩=E (R K (m:Int)):=λd os=>((Kf w d os).cell (p:=⟨B,256,O⟩) hB).trans s1;have f2:∀d os,(grow (redrawn w d) os).cell? ⟨B,258,O⟩=E (T (E ⟨Ra,0,O⟩) Z c0):=λd os=>((Kf w d os).cell (p:=⟨B,258,O⟩) hB).trans s2;have f3:∀d os,(grow (redrawn w d) os).cell? ⟨Ra,0+(P+v),O⟩=E (R K x):=λd os=>((Kf w d os).cell (p:=⟨Ra,0+(P+v),O⟩) X).trans cx;simp only[DD]at f3;clear I U V Y N J h X hB;go_enter func272,ntmps272
 go_wp2_with fail
 refine wp_region_quiet_below mixed kr ?_
 repeat (go_big_quiet_step (fail))
 refine wpQuiet_nil ?_;rintro _ ⟨⟨dq,C⟩,rfl⟩;go_wp2;go_ret;exact⟨rfl,Kf _ _ _⟩
theorem ajh(B Ra:Nat)(LO F:List Int)(m j c Z c0:Nat)(y n:Int)(fold:Bool)(Y:Vh)(lo X:Int)(wd:Vh)(w:Wa)(h:Mc w B LO m n (T (E ⟨Ra,0,O⟩) Z c0) fold Y lo X wd)(J:Sl1 (R K) w (E ⟨Ra,0,O⟩) Z F)(I:Z<=1000000000)(D:c<256)(H:(j:Int)<n)(N:goD LO (m:Int) F (j:Int) c=E y) :Calls ZP 243 #[L (E ⟨B,0,O⟩),R K (j:Int),.int .u8 (c:Int)] w λe w'=>e=ra (ta #[R K y,i6 G])/\Bt w w':=by
 have C:=AA (ali B Ra LO F m j c Z c0 y n fold Y lo X wd w h J I D N);have V:=Nk B LO m n (T (E ⟨Ra,0,O⟩) Z c0) fold Y lo X wd j w h;rw[show decide (0<=(j:Int)/\(j:Int)<n)=G by simp;omega]at V;have A:=AA V;clear V h J N H;go_enter func243,ntmps243
 go_wp2_with (first
  |(go_at_call 271;refine A.out.mono ?_;rintro e w4 ⟨rfl,rfl⟩)
  |(go_at_call 272;refine C.out.mono ?_;rintro e w4 ⟨rfl,U⟩))
 go_ret2;exact⟨rfl,U⟩
theorem ah4(B:Nat)(LO:List Int)(m n:Int)(row:Vh)(fold:Bool)(Y:Vh)(lo X:Int)(wd:Vh)(j:Int)(c:Nat)(w:Wa)(h:Mc w B LO m n row fold Y lo X wd)(V:j<0∨n<=j) :Calls ZP 243 #[L (E ⟨B,0,O⟩),R K j,.int .u8 (c:Int)] w λe w'=>e=ra (ta #[R K 0,i6 M])/\w=w':=by
 have Z:=Nk B LO m n row fold Y lo X wd j w h;rw[show decide (0<=j/\j<n)=M by simp;omega]at Z;have U:=AA Z;clear Z h V;go_enter func243,ntmps243
 go_wp2_with (go_at_call 271;refine U.out.mono ?_;rintro e w4 ⟨rfl,rfl⟩)
 go_ret2;exact⟨rfl,rfl⟩
theorem ahN{B Ra J C wc:Nat}{fold:Bool}{wss:La}{lo Z:Int}{a N:Option Addr}(node:Int)(c:Nat)(w:Wa)(h:MOK w B fold wss lo Z Ra a J C N wc)(Y:OkT fold wss)(H:Ah fold wss*(AB wss).length<=1000000000)(U:c<256) :Calls ZP 243 #[L (E ⟨B,0,O⟩),R K node,.int .u8 (c:Int)] w λe w'=>e=ra (apk (goD (BF fold wss) (Ah fold wss) (FN fold wss) node c))/\Bt w w':=by
 by_cases X:node<0∨((AB wss).length:Int)<=node
 ·rw[anF Y X];exact(ah4 B _ _ _ _ fold _ lo Z _ node c w h.mc X).mono λe w' ⟨h1,h2⟩=>⟨h1,by rw[<-h2];exact AH _ _⟩
 ·obtain⟨j,rfl⟩:∃k:Nat,node=(k:Int):=⟨node.toNat,by omega⟩;obtain⟨x,I⟩:∃x,(AB wss)[j]?=E x:=⟨(AB wss)[j]'om,by simp⟩;have V:=aju Y I U;rw[V];have D:Sl1 (R K) w (E ⟨Ra,0,O⟩) (Ah fold wss*(AB wss).length) (FN fold wss):=by
   rw[<-OZ Y];exact h.row.sl1
  exact ajh B Ra _ _ _ j c _ _ _ _ fold _ lo Z _ w h.mc D H U om V
theorem af2(B:Nat)(LO:List Int)(m n:Int)(row:Vh)(fold:Bool)(Z:Vh)(lo Y:Int)(wd:Vh)(w:Wa)(h:Mc w B LO m n row fold Z lo Y wd) :Calls ZP 269 #[L (E ⟨B,0,O⟩)] w λe w'=>e=ra (R K n)/\w=w':=by have c5:=h.cells.2.1;clear h;go_enter func269,ntmps269;go_wp2;go_ret;exact⟨rfl,rfl⟩
theorem ad1(B:Nat)(LO:List Int)(m n:Int)(row:Vh)(fold:Bool)(Z:Vh)(lo Y:Int)(wd:Vh)(w:Wa)(h:Mc w B LO m n row fold Z lo Y wd) :Calls ZP 95 #[L (E ⟨B,0,O⟩)] w λe w'=>e=ra (R K lo)/\w=w':=by have c5:=h.cells.2.2.2.2.2.1;clear h;go_enter func95,ntmps95;go_wp2;go_ret;exact⟨rfl,rfl⟩
theorem aqH{w:Wa}{n:Nat}(l:List AF)(Y:∀h∈l,I64 h.1/\I64 h.2)(h:w.heap.size=n):Hts (w.alloc (i7 (AV l).toArray 116)) (E ⟨n,0,O⟩) (lc l) l:=by
 refine⟨⟨GF l,.inr ⟨n,0,rfl,by simp[h],λi u Z=>?_⟩⟩,Y⟩;have:=GI (w:=w) (AV l).toArray 116 h i u (by simpa using Z)
 rwa[Cf]at this
structure ET(W0:World)(B:Nat)(fold:Bool)(wss:La)(V:World):Prop where
 ex:∃(R la ca wc:Nat)(a wa:Option Addr),MOK V B fold wss (Au wss) ((Dm wss (AB wss).length:Nat):Int) R a la ca wa wc/\la<=1000000
 ok:OkT fold wss
 tab:Ah fold wss*(AB wss).length<=1000000000
 len:∀x∈wss,x.length<=1000000
 nod:(AB wss).length<=1000000
 bel:Bt W0 V
section
variable {W0 V V':Wa}{B:Nat}{fold:Bool}{wss:La}
theorem ET.below(h:ET W0 B fold wss V)(Z:Bt V V'):ET W0 B fold wss V':=by obtain⟨⟨Ra,X,U,wc,a,Y,h1,h2⟩,h3,h4,h5,h6,h7⟩:=h;exact⟨⟨Ra,X,U,wc,a,Y,h1.below Z,h2⟩,h3,h4,h5,h6,h7.trans (Z.mono h7.size)⟩
theorem ah9(wss:La)(node:Int)(h:(AB wss).length<=1000000):(Dz wss node).length<=1000000:=by
 unfold Dz
 split
 ·have:=LL wss node.toNat;omega
 ·simp
theorem ET.step(h:ET W0 B fold wss V)(node:Int)(c:Nat)(Z:c<256) :Calls ZP 243 #[L (E ⟨B,0,O⟩),R K node,.int .u8 (c:Int)] V λe w'=>e=ra (apk (goD (BF fold wss) (Ah fold wss) (FN fold wss) node c))/\Bt V w':=by obtain⟨⟨Ra,X,U,wc,a,Y,h1,h2⟩,h3,h4,h5,h6,h7⟩:=h;exact ahN node c V h1 h3 h4 Z
theorem ET.hits(h:ET W0 B fold wss V)(node at_:Int)(Y:I64 at_)(Z:∀x∈Dz wss node,I64 x) :Calls ZP 244 #[L (E ⟨B,0,O⟩),R K node,R K at_] V λe w'=>∃(a:Option Addr)(c:Nat),e=ra (T a (Dz wss node).length c)/\Hts w' a (Dz wss node).length ((Dz wss node).map λx=>(at_,x))/\Ax w' V.heap.size (T a (Dz wss node).length c) ((Dz wss node).map λx=>(at_,x))/\Bt V w':=by
 obtain⟨⟨Ra,D,A,wc,a,H,h1,h2⟩,h3,h4,h5,h6,h7⟩:=h;refine(aih node at_ V h1 (ah9 wss node h6)).mono ?_;rintro e w' ⟨v,rfl,ho,J⟩;obtain⟨I,c1,rfl,C,X⟩:=Ax.hts ho (λh N=>by obtain⟨x,U,rfl⟩:=Be.1 N;exact⟨Y,Z x U⟩)
 rw[BP]at X ho⊢;exact⟨I,c1,rfl,X,ho,J⟩
theorem ET.states(h:ET W0 B fold wss V) :Calls ZP 269 #[L (E ⟨B,0,O⟩)] V λe w'=>e=ra (R K ((AB wss).length:Int))/\V=w':=by obtain⟨⟨Ra,Y,X,wc,a,Z,h1,h2⟩,h3,h4,h5,h6,h7⟩:=h;exact af2 B _ _ _ _ _ _ _ _ _ V h1.mc
theorem ET.longest(h:ET W0 B fold wss V) :Calls ZP 95 #[L (E ⟨B,0,O⟩)] V λe w'=>e=ra (R K (Au wss))/\V=w':=by obtain⟨⟨Ra,Y,X,wc,a,Z,h1,h2⟩,h3,h4,h5,h6,h7⟩:=h;exact ad1 B _ _ _ _ _ _ _ _ _ V h1.mc
end
structure Hj(q B:Nat)(fold:Bool)(wss:La)(V:World):Prop where
 ex:∃(R la ca wc:Nat)(a wa:Option Addr),MOK V B fold wss (Au wss) ((Dm wss (AB wss).length:Nat):Int) R a la ca wa wc/\la<=1000000/\Il q V B R a la ca wss wa
 ok:OkT fold wss
 tab:Ah fold wss*(AB wss).length<=1000000000
 len:∀x∈wss,x.length<=1000000
 nod:(AB wss).length<=1000000
theorem Hj.kept{q B:Nat}{fold:Bool}{wss:La}{V V':Wa}(h:Hj q B fold wss V)(hk:EF q V V'):Hj q B fold wss V':=by obtain⟨⟨Ra,Y,X,wc,a,Z,h1,h2,h8⟩,h3,h4,h5,h6⟩:=h;exact⟨⟨Ra,Y,X,wc,a,Z,h8.mok hk h1,h2,h8.kept hk⟩,h3,h4,h5,h6⟩
theorem Hj.use{q B:Nat}{fold:Bool}{wss:La}{V:Wa}(h:Hj q B fold wss V):ET V B fold wss V:=by obtain⟨⟨Ra,Y,X,wc,a,Z,h1,h2,h8⟩,h3,h4,h5,h6⟩:=h;exact⟨⟨Ra,Y,X,wc,a,Z,h1,h2⟩,h3,h4,h5,h6,AH _ _⟩
theorem adn(fold:Bool)(a:Option Addr)(Z D:Nat)(wss:La)(w:Wa)(H:Wds w a Z wss)(Y:Z<=1000000)(I:∀x∈wss,lc x<=1000000)(s:(Ad fold wss).length<=1000000)(X:An fold wss=G) :Calls ZP 52 #[i8 (AM fold a Z D)] w λe w'=>∃B,e=ra (ta #[L (E ⟨B,0,O⟩),R K 0])/\Hj w.heap.size B fold wss w'/\Bt w w':=by have N:=okT X (λx A c v=>H.bytes x A c v);have U:(AB wss).length<=400:=Hx (Fy.2 ⟨IY X,rfl,rfl⟩);have y:Ah fold wss<=257:=(Hb _ _ _).2;refine(ad6 fold a Z D wss w H Y I s X).mono ?_;rintro e w' ⟨B,Ra,J,wc,j,C,h1,h2,h3,h4⟩;exact⟨B,h1,⟨⟨Ra,Z,J,wc,j,C,h2,Y,h4⟩,N,AS (GR y U) om,I,by omega⟩,h3⟩
theorem KY{ws:La}(Z:ws.Nodup)(h0:∀y∈ws,lc y≠0){v:Int}:∀{b:List Int},v∈DF ws b↔∃(k:Nat)(y:List Int),ws[k]?=E y/\y <:+b/\v=(k:Int)
 |[]=>by
  constructor
  ·intro h;exact absurd h (by simp[DF])
  ·rintro⟨k,y,hk,X,_⟩;rw[List.suffix_nil]at X;subst X;exact absurd rfl (h0 [] (List.mem_of_getElem? hk))
 |c::b=>by
  have V:=KY Z h0 (v:=v) (b:=b);rw[Od,Bf,V]
  constructor
  ·rintro(h|⟨k,y,h1,h2,h3⟩)
   ·by_cases Y:(c::b)∈ws
    ·rw[Lc Y,Fq]at h;obtain⟨k,hk⟩:=DR Y;exact⟨k,_,hk,List.suffix_refl _,by rw[h,CV Z hk]⟩
    ·rw[Lb Y]at h;simp at h
   ·exact⟨k,y,h1,List.suffix_cons_iff.2 (.inr h2),h3⟩
  ·rintro⟨k,y,h1,h2,h3⟩
   rcases List.suffix_cons_iff.1 h2 with rfl|h2
   ·left
    rw[Lc (List.mem_of_getElem? h1),Fq,h3,CV Z h1]
   ·exact .inr ⟨k,y,h1,h2,h3⟩
section
variable {fold:Bool}{ws:La}
theorem akH(x:List Int):∀y:List Int,lsf (AB ws) (lsf (AB ws) x++y)=lsf (AB ws) (x++y):=by
 intro y
 induction y generalizing x with
 |nil=>
  rw[Cx,Cx];exact Lu (Id (List.mem_of_getElem? (CM ws)) x)
 |cons c y ih=>
  rw[show lsf (AB ws) x++c::y=(lsf (AB ws) x++[c])++y by simp,show x++c::y=(x++[c])++y by simp];rw[<-ih (lsf (AB ws) x++[c]),<-(alt x c).2.2,ih (x++[c])]
end
def EN(fold:Bool)(ws:La)(z:Nat)(c:Int):Nat:=(KT ws (lsf (AB ws) (((AB ws)[z]?).getD []++[fcB fold c]))).toNat
def Bp(fold:Bool)(ws:La)(z:Nat)(b:List Int):Nat:=b.foldl (EN fold ws) z
def BQ(fold:Bool)(ws:La):Nat->Int->List Int->List AF
 |_,_,[]=>[]
 |z,at_,c::b=>(CA ws (EN fold ws z c)).map (λv=>((at_+1,v):AF))++BQ fold ws (EN fold ws z c) (at_+1) b
section
variable {fold:Bool}{ws:La}
theorem aiN(z:Nat):Bp fold ws z []=z:=rfl
theorem acj(z:Nat)(c:Int)(b:List Int):Bp fold ws z (c::b)=Bp fold ws (EN fold ws z c) b:=rfl
theorem No(z:Nat)(b d:List Int):Bp fold ws z (b++d)=Bp fold ws (Bp fold ws z b) d:=by simp[Bp,FI]
theorem JE(z:Nat)(at_:Int):∀(b d:List Int),BQ fold ws z at_ (b++d)=BQ fold ws z at_ b++BQ fold ws (Bp fold ws z b) (at_+lc b) d
 |b,d=>by
  induction b generalizing z at_ with
  |nil=>simp[BQ,Bp]
  |cons c b ih=>
   simp only[CT,BQ,acj,ih,CE,Ao,LK,Int.natCast_one];rw[show at_+1+(lc b:Int)=at_+((lc b:Int)+1) by omega]
theorem KU{z:Nat}{x:List Int}(Z:(AB ws)[z]?=E x)(c:Int):(AB ws)[EN fold ws z c]?=E (lsf (AB ws) (x++[fcB fold c]))/\KT ws (lsf (AB ws) (x++[fcB fold c]))=(EN fold ws z c:Int):=by obtain⟨j,h1,h2,h3⟩:=anI (Id (List.mem_of_getElem? (CM ws)) (x++[fcB fold c]));unfold EN;rw[Z,CG,h2,Aa];exact⟨h1,rfl⟩
theorem adr{z:Nat}{x:List Int}(Z:(AB ws)[z]?=E x):∀b:List Int,(AB ws)[Bp fold ws z b]?=E (lsf (AB ws) (x++AO fold b)):=by
 intro b
 induction b generalizing z x with
 |nil=>
  rw[aiN,show AO fold []=[] by rw[Fg];rfl,Cx,Z,Lu (List.mem_of_getElem? Z)]
 |cons c b ih=>
  rw[acj,ih (KU Z c).1,akH,Nm,Nm,BO,CE]
  rfl
theorem JY{z:Nat}(Z:z<(AB ws).length)(b:List Int):Bp fold ws z b<(AB ws).length:=(AP.1 (adr (Ar Z) b)).1
end
theorem afY{wss:La}(V:lc wss<=1000000)(X:wss.Nodup)(h0:∀x∈wss,lc x≠0)(node:Int):∀v∈Dz wss node,I64 v:=by
 intro v Z;unfold Dz at Z
 split at Z
 ·obtain⟨x,Y⟩:∃x,(AB wss)[node.toNat]?=E x:=⟨_,Ar om⟩;rw[OU h0 Y,KY X h0]at Z;obtain⟨k,y,h1,_,rfl⟩:=Z;have:=(AP.1 h1).1;unfold I64;omega
 ·simp at Z
section
attribute[local go_sem] Oper.semAt_some
attribute[local simp] Ak Al
attribute[local go_sem] Ak Al
def KA(n:Nat)(z at_:Int):Bool:=decide ((0<=z/\z<(n:Int))/\0<=at_/\at_<=4611686020574871551)
end
section
attribute[local go_sem] Oper.semAt_some
attribute[local simp] Ak Al
attribute[local go_sem] Ak Al
def amS(b base:Nat)(l:List AF)(W:Wa):Prop:=∃v,Boxed W b 69 v/\Ax W base v l
end
theorem Mx{fold:Bool}{ws:La}:∀(b:List Int)(z:Nat)(at_:Int),z<(AB ws).length->(BQ fold ws z at_ b).length<=(AB ws).length*lc b
 |[],z,at_,_=>by simp[BQ]
 |c::b,z,at_,hz=>by have Z:(AB ws)[z]?=E (AB ws)[z]:=Ar hz;have Y:=(AP.1 (KU (fold:=fold) Z c).1).1;have X:=Mx (fold:=fold) b (EN fold ws z c) (at_+1) Y;have h9:=LL ws (EN fold ws z c);simp only[BQ,List.length_append,BP,Ao];rw[Nat.mul_succ];omega
theorem abE{fold:Bool}{wss:La}(Z:An fold wss=G):(AB wss).length<=1000/\∀(node:Int),∀v∈Dz wss node,I64 v:=by have h1:(AB wss).length<=400:=Hx (Fy.2 ⟨IY Z,rfl,rfl⟩);obtain⟨V,_,X,_⟩:=EI Z;exact⟨by omega,λnode=>afY om (Fv Z).1 (λx Y=>(X x Y).1) node⟩
section
open Go.ChangeShapes Go.WideShapes Go.ChangeAt Go.RowKit Go.Joins Go.Deep
section
variable {H:Type}{enc:TypeId×Vh->H}{W:Wa}{r:Reach}{base:Nat}{d:DataW H}{p:List MemPlace}{v:Vh}
theorem afu{C:Nat}{v:Vh}{x:DataW H×List MemPlace}(hf:DataW.trod enc ZP W 0 (λ_=>G) G C 27 [v]=E x) :∃(a:Option Addr)(len cap:Nat)(zs:List Bool),v=T a len cap/\Sl1 i6 W a len zs/\len<=cap/\cap<=maxLen:=by
 rcases open_slice underlying27 hf with⟨Z,_⟩|⟨x,l,c,m,n,D,Pl,Z,_,hl,hm,U,_,X⟩
 ·simp at Z;exact⟨O,0,0,[],Z,⟨rfl,.inl rfl⟩,AC _,by unfold maxLen;omega⟩
 ·simp at Z;simp only[if_true]at U;subst U;rw[aaL]at X;have Y:∀i,i<m->∃q:Bool,W.cell? ((x.add (i*1)).add 0)=E (i6 q):=by
   intro i y;obtain⟨j,B,ht⟩:=X i y;obtain⟨_,N,s⟩:=World.cells?_some B
   match j,N with
   |[c0],_=>
    obtain⟨q,e,_⟩:=DataW.trod_bool underlying4 ht;simp at e;exact⟨q,by rw[<-e];exact s 0 sm⟩
  let f:Nat->Bool:=λi=>if X:i<m then Classical.choose (Y i X) else M
  have I:∀i,i<m->W.cell? ((x.add (i*1)).add 0)=E (i6 (f i)):=by
   intro i X;have e:f i=Classical.choose (Y i X):=by simp only[f,dif_pos X]
   rw[e];exact Classical.choose_spec (Y i X)
  refine⟨E x,l,_,(List.range l).map f,Z,⟨by simp,?_⟩,hl,hm⟩
  by_cases h0:l=0
  ·exact .inl h0
  ·right
   have a1:=hl;obtain⟨b,off,V⟩:=x;have B:=I 0 om;obtain rfl:V=O:=by simpa[Addr.add]using World.cell?_spot B
   refine⟨b,off,rfl,?_,λi u A=>?_⟩
   ·have:=DO W _ B
    rwa[Cf,Cf]at this
   ·have J:=(AP.1 A).1;simp at J;have:=I i om;rw[Cf,Cf,Hk,DQ]at this;simp[J]at A;rw[this,A]
theorem aqA(Y:Value.okWide ZP W r base 27 v)(h:DataW.Trod enc ZP W 0 (λ_=>G) G 27 v d p) :∃(a:Option Addr)(len cap:Nat)(zs:List Bool),v=T a len cap/\Sl1 i6 W a len zs/\len<=cap/\cap<=maxLen:=by obtain⟨a,len,cap,rfl⟩:=okWide_slice underlying27 Y;obtain⟨Z,X⟩:=h;exact afu X
end
end
section
open Go.ChangeShapes Go.WideShapes Go.ChangeAt Go.RowKit Go.Joins Go.Deep
section
variable {H:Type}{enc:TypeId×Vh->H}{W:Wa}{r:Reach}{base:Nat}{d:DataW H}{p:List MemPlace}{v:Vh}
theorem aqV(Y:Value.okWide ZP W r base 22 v)(h:DataW.Trod enc ZP W 0 (λ_=>G) G 22 v d p) :∃(a:Option Addr)(len cap:Nat)(wss:La),v=T a len cap/\Wds W a len wss/\len<=cap/\cap<=maxLen:=by obtain⟨a,len,cap,rfl⟩:=okWide_slice underlying22 Y;obtain⟨Z,X⟩:=h;have e:Value.cells (.slice a len cap)=#[.slice a len cap]:=rfl;exact adU X
end
end
section
open Go.ChangeShapes Go.WideShapes Go.ChangeAt Go.RowKit Go.Joins Go.Deep
theorem aq4:ZP.cellsOf 59=2:=by kernel_rfl
section
variable {H:Type}{enc:TypeId×Vh->H}{W:Wa}{r:Reach}{base:Nat}{d:DataW H}{p:List MemPlace}{v:Vh}
theorem aqR(Z:Value.okWide ZP W r base 4 v)(h:DataW.Trod enc ZP W 0 (λ_=>G) G 4 v d p):∃b:Bool,v=.bool b:=okWide_bool underlying4 Z
theorem aqD{Y:Nat}{cs:List Vh}{x:DataW H×List MemPlace}(h:DataW.trod enc ZP W 0 (λ_=>G) G Y 59 cs=E x):∃e k:Int,cs=[R K e,R K k]/\I64 e/\I64 k:=by
 obtain⟨xs,n,_,_,J,Z,N⟩:=DataW.trod_struct underlying59 h;rw[aq4]at J
 match cs,J with
 |[c0,c1],_=>
  have U:lc xs=2:=Z;obtain⟨s,V⟩:∃y,xs[0]?=E y:=⟨xs[0]'om,by simp⟩;obtain⟨A,X⟩:∃y,xs[1]?=E y:=⟨xs[1]'om,by simp⟩;have h0:=N 0;simp only[pD,pE,pF,DC,forall_eq',Jd,V]at h0;obtain⟨e,D,_,B⟩:=DataW.trod_int underlying3 h0;have h1:=N 1;simp only[pD,pE,pF,DC,forall_eq',Jd,X]at h1;obtain⟨k,I,_,C⟩:=DataW.trod_int underlying3 h1;simp at D I;exact⟨e,k,by rw[D,I],ar4 B,ar4 C⟩
theorem aqw(hv:Value.okWide ZP W r base 49 v)(h:DataW.Trod enc ZP W 0 (λ_=>G) G 49 v d p) :∃(a:Option Addr)(len cap:Nat)(l:List AF),v=T a len cap/\Hts W a len l/\len<=cap/\cap<=maxLen:=by
 obtain⟨a,len,cap,rfl⟩:=okWide_slice underlying49 hv;obtain⟨a2,hf⟩:=h
 rcases open_slice underlying49 hf with⟨Z,_⟩|⟨x,l,c,m,n,D,Pl,Z,_,hl,hm,J,_,X⟩
 ·simp[Value.cells]at Z;obtain⟨rfl,rfl,rfl⟩:=Z;exact⟨O,0,0,[],rfl,⟨⟨rfl,.inl rfl⟩,by simp⟩,AC _,by unfold maxLen;omega⟩
 ·simp[Value.cells]at Z;obtain⟨rfl,rfl,rfl⟩:=Z;simp only[if_true]at J;subst J;rw[aq4]at X;have Y:∀i,i<m->∃q:AF,(W.cell? ((x.add (i*2)).add 0)=E (R K q.1)/\W.cell? ((x.add (i*2)).add 1)=E (R K q.2))/\I64 q.1/\I64 q.2:=by
   intro i y;obtain⟨a6,B,ht⟩:=X i y;obtain⟨_,a1,C⟩:=World.cells?_some B;obtain⟨e,k,rfl,he,hk⟩:=aqD ht;have h0:=C 0 om;have h1:=C 1 om;exact⟨(e,k),⟨by simpa using h0,by simpa using h1⟩,he,hk⟩
  let f:Nat->AF:=λi=>if X:i<m then Classical.choose (Y i X) else(0,0)
  have V:∀i,i<m->(W.cell? ((x.add (i*2)).add 0)=E (R K (f i).1)/\W.cell? ((x.add (i*2)).add 1)=E (R K (f i).2))/\I64 (f i).1/\I64 (f i).2:=by
   intro i X;have e:f i=Classical.choose (Y i X):=by simp only[f,dif_pos X]
   rw[e];exact Classical.choose_spec (Y i X)
  refine⟨_,len,_,(List.range len).map f,rfl,⟨⟨by rw[GF];simp,?_⟩,λq s=>?_⟩,hl,hm⟩
  ·by_cases h0:len=0
   ·exact .inl h0
   ·right
    obtain⟨b,off,U⟩:=x;have B:=(V 0 om).1.1;obtain rfl:U=O:=by simpa[Addr.add]using World.cell?_spot B
    refine⟨b,off,rfl,?_,λi u N=>?_⟩
    ·have:=DO W _ B
     rwa[Cf,Cf]at this
    ·have I:=(AP.1 N).1;rw[GF]at I;simp at I;obtain⟨j,hj⟩:∃j,i=j*2∨i=j*2+1:=⟨i / 2,by omega⟩;have A:j<len:=by omega
     have hx:((List.range len).map f)[j]?=E (f j):=by simp[A]
     obtain⟨d0,d1⟩:=aeK hx;obtain⟨⟨g0,g1⟩,_⟩:=V j om;rw[Cf,Cf,DQ]at g0;rw[Cf,Cf]at g1
     rcases hj with rfl|rfl
     ·rw[d0]at N;rw[<-AK N];exact g0
     ·rw[d1]at N;rw[<-AK N,<-Nat.add_assoc];exact g1
  ·simp only[Be,List.mem_range]at s;obtain⟨i,X,rfl⟩:=s;exact(V i om).2
end
end
structure Chg(X:Nat->Prop)(w w':World):Prop where
 os:w'.os=w.os
 tape:w'.tape=w.tape
 output:w'.output=w.output
 size:w.heap.size<=w'.heap.size
 block:∀k,k<w.heap.size->¬X k->w'.heap[k]?=w.heap[k]?
section
variable {X Y:Nat->Prop}{a b c:Wa}
theorem Chg.refl(X:Nat->Prop)(w:Wa):Chg X w w:=⟨rfl,rfl,rfl,AC _,λ_ _ _=>rfl⟩
theorem Chg.of_below{B:Nat}(h:Below B a b)(U:∀k,B<=k->k<a.heap.size->X k):Chg X a b:=⟨h.os,h.tape,h.output,h.size,λk hk V=>h.block k (Nat.lt_of_not_le λZ=>V (U k Z hk))⟩
theorem Chg.of_same(h:Bt a b):Chg X a b:=.of_below h λk h1 h2=>by omega
theorem Chg.mono(h:Chg X a b)(V:∀k,k<a.heap.size->X k->Y k):Chg Y a b:=⟨h.os,h.tape,h.output,h.size,λk hk U=>h.block k hk λZ=>U (V k hk Z)⟩
theorem Chg.trans(h:Chg X a b)(k:Chg Y b c)(N:∀i,i<a.heap.size->Y i->X i):Chg X a c:=⟨k.os.trans h.os,k.tape.trans h.tape,k.output.trans h.output,AS h.size k.size,λi Z V=>(k.block i (Af Z h.size) λU=>V (N i Z U)).trans (h.block i Z V)⟩
theorem Chg.then(h:Chg X a b)(k:Chg X b c):Chg X a c:=h.trans k λ_ _ Z=>Z
theorem Chg.same(h:Chg X a b)(k:Bt b c):Chg X a c:=h.then (.of_same k)
theorem Chg.grown{row:Option Nat}(h:Chg X a b)(k:b.grownBy c row)(U:∀g,row=E g->g<a.heap.size->X g):Chg X a c:=⟨k.os.trans h.os,k.tape.trans h.tape,k.output.trans h.output,AS h.size k.size,λi Z V=>(k.block i (Af Z h.size) λe=>V (U i e.symm Z)).trans (h.block i Z V)⟩
theorem Chg.set(h:Chg X a b){g i:Nat}{v:Vh}(Z:X g):Chg X a (b.setCell ⟨g,i,O⟩ v):=h.grown (BH b g i v) λk e _=>by cases e;exact Z
theorem Chg.below{B:Nat}(h:Chg X a b)(hB:B<=a.heap.size)(Z:∀k,k<B->¬X k):Below B a b:=⟨h.os,h.tape,h.output,h.size,λk hk=>h.block k (Af hk hB) (Z k hk)⟩
end
theorem Gw{w:Wa}{base n size:Nat}{e:TypeId}{v:Vh}{xs:List Vh}(h:w.ownsRow base e size v n xs):∀k,v.ownBlock=E k->base<=k/\k<w.heap.size:=λk hk=>by
 rcases h.2 with⟨rfl,_⟩|⟨g,cap,U,rfl,V,Z,_⟩
 ·cases hk
 ·cases hk
  exact⟨V,(AD.1 Z).1⟩
theorem NC{w:Wa}{base Z n size:Nat}{e:TypeId}{v:Vh}{xs:List Vh}(h:w.ownsRow base e size v n xs)(U:Z<=base):w.ownsRow Z e size v n xs:=⟨h.1,h.2.imp id λ⟨g,cap,V,h1,h2,r⟩=>⟨g,cap,V,h1,by omega,r⟩⟩
theorem Fu{W V:Wa}{base size n:Nat}{e:TypeId}{v:Vh}{xs:List Vh}(h:W.ownsRow base e size v n xs)(U:∀k,v.ownBlock=E k->V.heap[k]?=W.heap[k]?):V.ownsRow base e size v n xs:=by refine⟨h.1,h.2.imp id ?_⟩;rintro⟨g,cap,Z,rfl,h1,h2,r⟩;exact⟨g,cap,Z,rfl,h1,(U g rfl).trans h2,r⟩
def CO(X:Nat->Prop)(w:Wa)(e:TypeId)(size:Nat)(v:Vh)(n:Nat)(xs:List Vh):Prop:=w.ownsRow 0 e size v n xs/\∀g,v.ownBlock=E g->X g
section
variable {X Y:Nat->Prop}{w w':Wa}{e:TypeId}{size n:Nat}{v:Vh}{xs:List Vh}
theorem CO.lt(h:CO X w e size v n xs):∀g,v.ownBlock=E g->g<w.heap.size:=λg Z=>(Gw h.1 g Z).2
theorem CO.keep(h:CO X w e size v n xs)(U:Chg Y w w')(V:∀g,v.ownBlock=E g->¬Y g):CO X w' e size v n xs:=⟨Fu h.1 λg Z=>U.block g (h.lt g Z) (V g Z),h.2⟩
theorem CO.wide(h:CO X w e size v n xs)(V:∀k,k<w.heap.size->X k->Y k):CO Y w e size v n xs:=⟨h.1,λg Z=>V g (h.lt g Z) (h.2 g Z)⟩
theorem CO.nil(X:Nat->Prop)(w:Wa)(e:TypeId)(size:Nat):CO X w e size (T O 0 0) 0 []:=⟨BN _ _ _ _,λg Z=>by cases Z⟩
end
def Fz(n:Int)(k:Nat):Nat:=((Int.tmod n k+k).tmod k).toNat
theorem alR{n:Int}{k:Nat}(hk:k≠0):(Int.tmod n k+k).tmod k=(Fz n k:Int)/\Fz n k<k/\-(k:Int)<Int.tmod n k/\Int.tmod n k<k:=by
 have h1:-(k:Int)<Int.tmod n k/\Int.tmod n k<k:=by
  have Z:(0:Int)<k:=by omega
  have a:=Int.tmod_lt_of_pos n Z;have b:=Int.tmod_lt_of_pos (-n) Z;rw[Int.neg_tmod]at b;omega
 have h2:0<=(Int.tmod n k+k).tmod k:=Int.tmod_nonneg _ om;have h3:(Int.tmod n k+k).tmod k<k:=Int.tmod_lt_of_pos _ om;unfold Fz;refine⟨by omega,by omega,h1.1,h1.2⟩
theorem acE(n:Int)(a:Option Addr)(k c:Nat)(zs:List Int)(w:Wa)(Z:Sl1 (R K) w a k zs)(hk:k<=1000000) :Calls ZP 43 #[R K n,T a k c] w λe w'=>e=ra (ta (if k=0 then #[R K 0,i6 M] else #[R K (zs.getD (Fz n k) 0),i6 G]))/\w'=w:=by
 by_cases h0:k=0
 ·subst h0;rw[Lc rfl];go_enter func43,ntmps43;go_wp2;go_ret2;exact⟨rfl,rfl⟩
 ·rw[Lb h0];obtain⟨h1,h2,h3,h4⟩:=alR (n:=n) h0;obtain⟨b,off,rfl,I,U⟩:=Z.2.resolve_left h0;have X:zs[Fz n k]?=E (zs.getD (Fz n k) 0):=by
   rw[DZ,Ar (by rw[Z.1];exact h2),CG]
  have c0:=U _ _ X;obtain⟨z,Y⟩:∃z,zs.getD (Fz n k) 0=z:=⟨_,rfl⟩;obtain⟨p,V⟩:∃p,Fz n k=p:=⟨_,rfl⟩;rw[Y]at c0⊢;rw[V]at c0 h1 h2;have C:decide ((k:Int)=0)=M:=by simp;omega
  have D:((k:Int)==0)=M:=by simp;omega
  have e2:decide (k=0)=M:=decide_eq_false h0;have H:IntKind.i64.wrap (Int.tmod n k+k)=Int.tmod n k+k:=by rw[BK];omega
  have J:(0:Int)<=(p:Int):=by omega
  have p1:(p:Int)<(k:Int):=by omega
  have N:=AA h0;clear U X Z Y V h3 h4;go_enter func43,ntmps43;go_wp2;go_ret2;exact⟨rfl,rfl⟩
theorem GU{P:Program}{o:Oper}{a:Act}{Q:Exit->Act->Wa->Prop}{KB:Act->Wa->Prop}{w w':Wa}{v V v':Vh}(s x:Operand)(t:TypeId)(Z:o.guard=O)(y:Nat->Option Bool)(b:Prop)
  (ho:o.op=.call {callee:=.builtin .append,args:=#[s,x],argTypes:=#[t,t]}) (N:a.eval s=v) (U:a.eval x=V) (J:(Builtin.append_ #[t,t] o.type #[v,V]).run P w=.ok v' w') (h:KB (a.put o.dst v') w'):if Region.wanted o y=G then Oper.wp P o a w KB Q else b:=by
 rw[Lc (by unfold Region.wanted;rw[Z])];unfold Oper.wp execOp;simp only[ho,resolve,invoke,builtin,IN,IM,Result.andThen_ok,LI,BO,DE,N,U,J];exact h
structure CN(X:Nat->Prop)(K:Nat)(a:Option Addr)(n c:Nat)(tv:Value)(ans:List Bool)(tk:List AF)(off:Nat)(w:World):Prop where
 box:w.heap[K]?=some (.cells #[T a n c,tv,R IntKind.i64 (off:Int)] 113 (0,0))
 inX:X K
 an:Sl1 i6 w a n ans
 anX:n≠0->∀q,a=some q->X q.block/\q.block≠K/\tv.ownBlock≠some q.block
 row:CO X w 116 2 tv tk.length (AV tk)
 tkK:tv.ownBlock≠some K
def EH(ans:List Bool)(off:Nat):Bool:=ans.isEmpty || ans.getD (off % lc ans) M
section
variable {X Y:Nat->Prop}{KB n c off:Nat}{a:Option Addr}{tv:Vh}{ans:List Bool}{tk:List AF}{w w':Wa}
theorem CN.keep(h:CN X KB a n c tv ans tk off w)(Z:Chg Y w w')(U:∀k,k<w.heap.size->X k->¬Y k):CN X KB a n c tv ans tk off w':=by
 have J:=(AD.1 h.box).1;refine⟨(Z.block KB J (U KB J h.inX)).trans h.box,h.inX,⟨h.an.1,?_⟩,h.anX,h.row.keep Z λg N=>U g (h.row.lt g N) (h.row.2 g N),h.tkK⟩
 by_cases h0:n=0
 ·exact .inl h0
 ·obtain⟨b,o,e,V,I⟩:=h.an.2.resolve_left h0;refine .inr ⟨b,o,e,Af V Z.size,λi x H=>?_⟩;have D:=Z.block b V (U b V (h.anX h0 _ e).1);rw[BC (a:=⟨b,o+i,O⟩) D];exact I i x H
theorem CN.wide(h:CN X KB a n c tv ans tk off w)(Z:∀k,k<w.heap.size->X k->Y k):CN Y KB a n c tv ans tk off w:=by
 refine⟨h.box,Z KB (AD.1 h.box).1 h.inX,h.an,λh0 q V=>?_,h.row.wide Z,h.tkK⟩;obtain⟨h1,h2,h3⟩:=h.anX h0 q V;obtain⟨b,o,e,U,_⟩:=h.an.2.resolve_left h0;rw[V]at e
 cases AK e
 exact⟨Z b U h1,h2,h3⟩
theorem CN.turn{Z:Vh}{tk':List AF}{V:Nat}(h:CN X KB a n c tv ans tk off w)(N:w.heap.size<=w'.heap.size)(v:w'.heap[KB]?=E (i7 #[T a n c,Z,R K (V:Int)] 113 (0,0)))
  (ha:∀k,k<w.heap.size->k≠KB->tv.ownBlock≠E k->w'.heap[k]?=w.heap[k]?) (B:CO Y w' 116 2 Z (lc tk') (AV tk')) (s:Z.ownBlock≠E KB) (y:∀g,Z.ownBlock=E g->tv.ownBlock=E g∨w.heap.size<=g)
  (D:∀k,k<w.heap.size->X k->Y k):CN Y KB a n c Z ans tk' V w':=by
 have J:=(AD.1 h.box).1;refine⟨v,D KB J h.inX,⟨h.an.1,?_⟩,λh0 q H=>?_,B,s⟩
 ·by_cases h0:n=0
  ·exact .inl h0
  ·obtain⟨b,o,e,U,I⟩:=h.an.2.resolve_left h0;obtain⟨_,h2,h3⟩:=h.anX h0 _ e;refine .inr ⟨b,o,e,Af U N,λi x A=>?_⟩;rw[BC (a:=⟨b,o+i,O⟩) (ha b U h2 h3)];exact I i x A
 ·obtain⟨b,o,e,U,I⟩:=h.an.2.resolve_left h0;obtain⟨h1,h2,h3⟩:=h.anX h0 q H;rw[H]at e
  cases AK e
  refine⟨D b U h1,h2,λe2=>?_⟩
  rcases y b e2 with C|C
  ·exact h3 C
  ·omega
end
section
variable {X:Nat->Prop}{KB n c off m c1:Nat}{a a1:Option Addr}{tv:Vh}{ans:List Bool}{tk:List AF}{w w':Wa}
theorem CN.count(h:CN X KB a n c tv ans tk off w):CN X KB a n c tv ans tk (off+1) (w.setCell ⟨KB,2,O⟩ (R K ((off+1:Nat):Int))):=by have hk:∀k,k≠KB->(w.setCell ⟨KB,2,O⟩ (R K ((off+1:Nat):Int))).heap[k]?=w.heap[k]?:=λk hk=>AQ w ⟨KB,2,O⟩ _ k hk;refine h.turn (by simp[World.setCell]) (AJ (i:=2) h.box _) (λk _ Z _=>hk k Z) ⟨Fu h.row.1 λg V=>hk g (λe=>h.tkK (by rw[<-e];exact V)),h.row.2⟩ h.tkK (λg V=>.inl V) λ_ _ U=>U
theorem CN.app(h:CN X KB a n c (T a1 m c1) ans tk off w)(q:AF){V:Vh}{U:Wa}(ho:U.ownsRow 0 116 2 V (lc tk+1) (AV tk++[R K q.1,R K q.2]))(v:(w.alloc (i7 #[R K q.1,R K q.2] 116)).grownBy U (T a1 m c1).ownBlock)
  (s:V.ownBlock=(T a1 m c1).ownBlock∨V.ownBlock=E (w.alloc (i7 #[R K q.1,R K q.2] 116)).heap.size) :
  U.frozen? ⟨KB,1,O⟩=M/\CN (λk=>X k∨w.heap.size<=k) KB a n c V ans (tk++[q]) off (U.setCell ⟨KB,1,O⟩ V)/\Chg X w (U.setCell ⟨KB,1,O⟩ V):=by
 have j:=(AD.1 h.box).1;have B:=AL w (i7 #[R K q.1,R K q.2] 116);have A:(w.alloc (i7 #[R K q.1,R K q.2] 116)).heap.size=w.heap.size+1:=by simp
 have a2:=v.size;have Z:∀k,k<w.heap.size->(T a1 m c1).ownBlock≠E k->U.heap[k]?=w.heap[k]?:=λk hk H=>(v.block k om (λe=>H e.symm)).trans (B.block k hk);have C:U.heap[KB]?=E (i7 #[T a n c,T a1 m c1,R K (off:Int)] 113 (0,0)):=(Z KB j h.tkK).trans h.box;have I:∀g,V.ownBlock=E g->(T a1 m c1).ownBlock=E g∨w.heap.size<=g:=λg e=>by
  rcases s with e2|e2
  ·rw[e2]at e;exact .inl e
  ·rw[e2,A]at e;have:=AK e
   right
   omega
 have N:V.ownBlock≠E KB:=λe=>by
  rcases I KB e with e2|e2
  ·exact h.tkK e2
  ·omega
 have J:∀k,k≠KB->(U.setCell ⟨KB,1,O⟩ V).heap[k]?=U.heap[k]?:=λk hk=>AQ U ⟨KB,1,O⟩ _ k hk;refine⟨by simp[frozen?,C],?_,?_⟩
 ·refine h.turn (by simp[World.setCell];omega) (AJ (i:=1) C V) (λk hk y H=>(J k y).trans (Z k hk H)) ⟨?_,λg D=>?_⟩ N I (λk _ hx=>.inl hx)
  ·have e1:AV (tk++[q])=AV tk++[R K q.1,R K q.2]:=by simp[AV,IH]
   rw[e1,List.length_append];exact Fu ho λg D=>J g λe=>N (by rw[<-e];exact D)
  ·rcases I g D with e|e
   ·exact .inl (h.row.2 g e)
   ·exact .inr e
 ·refine((Chg.of_same B).grown v λg e _=>h.row.2 g e).set h.inX
theorem On(w:Wa)(q:AF):SlK 2 (w.alloc (i7 #[R K q.1,R K q.2] 116)) (E ⟨w.heap.size,0,O⟩) 1 [R K q.1,R K q.2]:=by
 have Z:(w.alloc (i7 #[R K q.1,R K q.2] 116)).heap[w.heap.size]?=E (i7 #[R K q.1,R K q.2] 116 (0,0)):=AT _ _;refine⟨rfl,.inr ⟨_,0,rfl,by simp,λi u V=>?_⟩⟩;have e:(w.alloc (i7 #[R K q.1,R K q.2] 116)).cell? ⟨w.heap.size,0+i,O⟩=(#[R K q.1,R K q.2]:Array Vh)[0+i]?:=by simp only[cell?,Z];simp
 rw[e,DD];show(List.toArray [R K q.1,R K q.2])[i]?=E u;rw[Dy];exact V
end
theorem ado{X:Nat->Prop}{KB n c off:Nat}{a:Option Addr}{tv:Vh}{ans:List Bool}{tk:List AF}(w:Wa)(h:CN X KB a n c tv ans tk off w)(ho:off<=4611686018427387904) :Calls ZP 250 #[L (E ⟨KB,0,O⟩),R K (off:Int)] w λe w'=>e=ra (i6 (EH ans off))/\Bt w w':=by
 have c0:w.cell? ⟨KB,0,O⟩=E (T a n c):=by simp[cell?,h.box]
 have D:=AA (λq=>AN w q)
 by_cases h0:n=0
 ·have V:EH ans off=G:=by
   have:ans=[]:=OL.1 (by rw[h.an.1,h0]);rw[this];rfl
  have A:decide ((n:Int)=0)=G:=by simp;omega
  have B:((n:Int)==0)=G:=by simp;omega
  rw[V];clear h V h0;go_enter func250,ntmps250;go_upto_region 1 with fail
  go_big_quiet (fail)
  go_wp2;go_ret;exact⟨rfl,D.out _⟩
 ·obtain⟨b,o,rfl,s,I⟩:=h.an.2.resolve_left h0;have Z:=h.an.1;have J:off % n<n:=Ek _ om;obtain⟨y,U⟩:∃y,ans[off % n]?=E y:=⟨ans[off % n]'om,Ar _⟩;have C:=I _ _ U;have V:EH ans off=y:=by
   unfold EH;have N:ans.isEmpty=M:=by cases ans with|nil=>exact absurd Z.symm h0|cons _ _=>rfl
   rw[N,Z,DZ,U]
   rfl
  rw[V];have A:decide ((n:Int)=0)=M:=by simp;omega
  have B:((n:Int)==0)=M:=by simp;omega
  have e2:(off:Int).tmod (n:Int)=((off % n:Nat):Int):=by rw[Jq om];simp
  obtain⟨p,H⟩:∃p,off % n=p:=⟨_,rfl⟩;rw[H]at e2 J C;have v:(0:Int)<=(p:Int):=by omega
  have p1:(p:Int)<(n:Int):=by omega
  clear h V h0 I U H Z;go_enter func250,ntmps250;go_upto_region 1 with fail
  go_big_quiet (fail)
  go_wp2;go_ret;exact⟨rfl,D.out _⟩
theorem aed{X:Nat->Prop}{KB n c off:Nat}{a:Option Addr}{tv:Vh}{ans:List Bool}{tk:List AF}(h:AF)(w:Wa)(hS:CN X KB a n c tv ans tk off w)(ho:off<=1000000)(ht:lc tk<=1000000) :Calls ZP 209 #[L (E ⟨KB,0,O⟩),i8 #[R K h.1,R K h.2]] w λe w'=>e=ra (i6 (EH ans off))/\(∃av,CN (λk=>X k∨w.heap.size<=k) KB a n c av ans (if EH ans off then tk++[h] else tk) (off+1) w')/\Chg X w w':=by
 obtain⟨W,hW⟩:∃W,W=w.alloc (i7 #[R K h.1,R K h.2] 116):=⟨_,rfl⟩;have hB:Bt w W:=by rw[hW];exact AL _ _
 have hO:Bx w.heap.size [i7 #[R K h.1,R K h.2] 116] W:=by rw[hW];exact(Bx.nil _ w).snoc _ rfl
 have aD:W.heap.size=w.heap.size+1:=by rw[hW];simp
 have aE:=(AD.1 hS.box).1;have a7:∀V,Bt W V->CN X KB a n c tv ans tk off V:=λV hV=>hS.keep (Y:=λ_=>False) (.of_same (hB.trans (hV.mono hB.size))) λ_ _ _ h=>h;have ai:∀d os,Calls ZP 250 #[L (E ⟨KB,0,O⟩),R K (off:Int)] (grow (redrawn W d) os) λe w'=>e=ra (i6 (EH ans off))/\RowKit.Below (grow (redrawn W d) os).heap.size (grow (redrawn W d) os) w':=λd os=>ado _ (a7 _ (Kf W d os)) om;have aB:=AA a7;have k2:∀d os,(grow (redrawn W d) os).cell? ⟨KB,2,O⟩=E (R K (off:Int)):=Vc (by have:=(a7 W (AH _ _)).box;simp[cell?,this]);have aC:IntKind.i64.wrap ((off:Int)+1)=(off:Int)+1:=by rw[BK];omega
 obtain⟨Y,hY⟩:∃y,EH ans off=y:=⟨_,rfl⟩;rw[hY]at ai⊢;have HO:=AA hO;have HB:=AA hB;have HS:=AA hS;clear hS hB hO a7 hY;go_enter func209,ntmps209;go_upto_region 3 with fail
 rw[<-hW];clear hW;refine wp_region_quiet_below mixed kr ?_
 repeat (go_big_quiet_step (exact Eu (ai _ _)))
 refine wpQuiet_nil ?_;rintro _ ⟨⟨dq,aj⟩,rfl⟩;have C:=Kf W dq aj;obtain⟨V,hV⟩:∃V,V=grow (redrawn W dq) aj:=⟨_,rfl⟩;rw[<-hV]at C⊢;clear hV ai k2;have a8:=aB.out V C;have ak:Bt w V:=HB.out.trans (C.mono HB.out.size);have c2:V.cell? ⟨KB,2,O⟩=E (R K (off:Int)):=by simp[cell?,a8.box]
 have f2:V.frozen? ⟨KB,2,O⟩=M:=by simp[frozen?,a8.box]
 have ap:=HO.out.below C;obtain⟨J,N⟩:∃U,U=V.setCell ⟨KB,2,O⟩ (R K ((off:Int)+1)):=⟨_,rfl⟩;have ao:CN X KB a n c tv ans tk (off+1) J:=by rw[N,show(off:Int)+1=((off+1:Nat):Int) by omega];exact a8.count
 have ar:Chg X w J:=by rw[N];exact(Chg.of_same ak).set HS.out.inX
 have aq:∀i v,(#[R K h.1,R K h.2]:Array Vh)[i]?=E v->J.cell? ⟨w.heap.size,i,O⟩=E v:=λi v hv=>by
  have aA:=(AD.1 HS.out.box).1;have e:J.heap[w.heap.size]?=V.heap[w.heap.size]?:=by rw[N];exact AQ V ⟨KB,2,O⟩ _ _ (by show w.heap.size≠KB;omega)
  have h1:=ap 0 _ rfl;rw[DQ]at h1;simp only[cell?,e,h1];exact hv
 have ab:=AA ao;have j:=AA ar;have au:=AA aq;clear a8 ap ak C ao ar aq
 cases Y with
 |false=>
  go_upto_region 5 with fail
  rw[<-N];clear N;go_wp2;go_ret;exact⟨rfl,⟨tv,ab.out.wide λ_ _ hx=>.inl hx⟩,j.out⟩
 |true=>
  go_upto_region 6 with fail
  rw[<-N];clear N c2 f2;obtain⟨a1,c1,rfl,_,_⟩:=SlK.own ab.out.row.1;obtain⟨i0,hi,ay,ax,aw⟩:=Ve IG;have aF:J.cell? ⟨KB,1,O⟩=E (T a1 (lc tk) c1):=by simp[cell?,ab.out.box]
  have x0:J.cell? ⟨w.heap.size,0,O⟩=E (R K h.1):=au.out 0 _ rfl;have x1:J.cell? ⟨w.heap.size,1,O⟩=E (R K h.2):=au.out 1 _ rfl;obtain⟨D,hD⟩:∃D,D=J.drew:=⟨_,rfl⟩;have I:Bt J D:=by rw[hD];exact AN J 1
  have s:CN X KB a n c (.slice a1 (lc tk) c1) ans tk (off+1) D:=ab.out.keep (Y:=λ_=>False) (.of_same I) λ_ _ _ h=>h;have H:=DJ s.row.1 (AL D (i7 #[.int .i64 h.1,.int .i64 h.2] 116));have ad:=On D h;obtain⟨v1,W1,hr,af,a6,ae⟩:=Gu (P:=ZP) (D.alloc (i7 #[.int .i64 h.1,.int .i64 h.2] 116)) 0 69 69 116 i0 (i8 #[.int .i64 0,.int .i64 0]) 2 16 underlying69 hi ay ax aw rfl (by decide) (.slice a1 (lc tk) c1) (lc tk) (AV tk) H (E ⟨D.heap.size,0,O⟩) 1 1 [.int .i64 h.1,.int .i64 h.2] ad (by simp[Value.oneCell']) (by unfold maxLen;omega) om (AR _);obtain⟨a2,c2,az,_,_⟩:=SlK.own af;subst az;obtain⟨g1,g2,g3⟩:=s.app h af a6 ae;have G2:=AA g2;have G3:=AA g3;have aA:=(AD.1 HS.out.box).1;have al:w.heap.size<D.heap.size:=by have h1:=DO J (a:=⟨w.heap.size,0,O⟩) x0;exact Af h1 I.size
  have am:(T a1 (lc tk) c1).ownBlock≠E w.heap.size:=λe=>by have:=HS.out.row.lt _ e;omega
  have B:∀i v,D.cell? ⟨w.heap.size,i,O⟩=E v->(D.alloc (i7 #[R K h.1,R K h.2] 116)).cell? ⟨w.heap.size,i,O⟩=E v:=λi v hv=>((AL D _).cell (p:=⟨w.heap.size,i,O⟩) al).trans hv;have A:∀i v,D.cell? ⟨w.heap.size,i,O⟩=E v->W1.cell? ⟨w.heap.size,i,O⟩=E v:=λi v hv=>by have e:W1.heap[w.heap.size]?=D.heap[w.heap.size]?:=(a6.block _ (by simp;omega) (λe=>am e.symm)).trans ((AL D _).block _ al);rw[BC (a:=⟨w.heap.size,i,O⟩) e];exact hv
  have y0:D.cell? ⟨w.heap.size,0,O⟩=E (R K h.1):=(I.cell (p:=⟨w.heap.size,0,O⟩) (DO J _ x0)).trans x0;have y1:D.cell? ⟨w.heap.size,1,O⟩=E (R K h.2):=(I.cell (p:=⟨w.heap.size,1,O⟩) (DO J _ x1)).trans x1;have ag:=AA (Lq (B 0 _ y0) (B 1 _ y1));have e1:∀i v,W1.cell? ⟨w.heap.size,i,O⟩=E v->(W1.setCell ⟨KB,1,O⟩ (T a2 (lc tk+1) c2)).cell? ⟨w.heap.size,i,O⟩=E v:=λi v hv=>by have e:(W1.setCell ⟨KB,1,O⟩ (T a2 (lc tk+1) c2)).heap[w.heap.size]?=W1.heap[w.heap.size]?:=AQ W1 ⟨KB,1,O⟩ _ _ (by show w.heap.size≠KB;omega);rw[BC (a:=⟨w.heap.size,i,O⟩) e];exact hv
  have aa:=AA (Lq (Lq (A 0 _ y0) (A 1 _ y1)) (Lq (e1 0 _ (A 0 _ y0)) (e1 1 _ (A 1 _ y1))));have z1:D.cell? ⟨KB,1,O⟩=E (T a1 (lc tk) c1):=by simp[cell?,s.box]
  have z2:(D.alloc (i7 #[R K h.1,R K h.2] 116)).cell? ⟨KB,1,O⟩=E (T a1 (lc tk) c1):=((AL D _).cell (p:=⟨KB,1,O⟩) (DO D _ z1)).trans z1;have z3:∃u,W1.cell? ⟨KB,1,O⟩=E u:=by have e:W1.heap[KB]?=D.heap[KB]?:=(a6.block _ (by have:=DO D _ z1;simp;exact Nat.lt_succ_of_lt this) (λe=>s.tkK e.symm)).trans ((AL D _).block _ (DO D _ z1));exact⟨_,(BC (a:=⟨KB,1,O⟩) e).trans z1⟩
  obtain⟨u3,z3⟩:=z3;have HR:=AA hr;have ac:=AA I;clear g2 g3 af a6 ae H ad s hr B A e1 I am;refine Vb ?_;refine Va (S:=λY=>Y.cell? ⟨w.heap.size,0,O⟩=E (R K h.1)/\Y.cell? ⟨w.heap.size,1,O⟩=E (R K h.2)) kr ⟨x0,x1⟩ (λhHeld=>?_);rw[<-hD]at hHeld⊢;clear hD;refine tkA 0 ?_;refine tkA 1 ?_;refine tkA 2 ?_;refine tkA 3 ?_;refine tkW 5 (v:=?_) ?_ ?_;rotate_left
  ·intro V hV;obtain⟨q0,q1⟩:=hV
   first|(go_simp;done)|(go_simp;with_reducible rfl)
  try simp only[pq]
  refine apE 4 6 (λKB Z=>?_) (λKB Z=>?_)
  ·go_simp;refine Z.out _ _ hHeld (λh4=>?_);clear Z KB
   try simp only[pq]
   refine rdy 6 (λKB Z=>?_);go_simp;refine Z.out _ _ (ag.out) (λh6=>?_);clear Z KB
   try simp only[pq]
   refine rdy 7 (λKB Z=>?_);refine GU (.tmp 28) (.tmp 30) 69 rfl _ _ rfl rfl rfl HR.out ?_;refine Z.out _ _ aa.out.1 (λh7=>?_);clear Z KB
   try simp only[pq]
   refine tkA 8 ?_;refine tkA 9 ?_;refine rdy 10 (λKB Z=>?_);go_simp;refine Z.out _ _ aa.out.2 (λh10=>?_);clear Z KB
   try simp only[pq]
   refine Vd kr ?_ _;refine At ?_;go_wp2;go_ret;exact⟨rfl,⟨(T a2 (lc tk+1) c2),(G2.out).wide λk _ hx=>hx.elim .inl λh2=>.inr (AS (AS j.out.size ac.out.size) h2)⟩,(j.out.same ac.out).then G3.out⟩
  ·go_simp;refine Z.out _ _ ag.out (λh6=>?_);clear Z KB
   try simp only[pq]
   refine rdy 4 (λKB Z=>?_);go_simp;refine Z.out _ _ ag.out (λh4=>?_);clear Z KB
   try simp only[pq]
   refine rdy 7 (λKB Z=>?_);refine GU (.tmp 28) (.tmp 30) 69 rfl _ _ rfl rfl rfl HR.out ?_;refine Z.out _ _ aa.out.1 (λh7=>?_);clear Z KB
   try simp only[pq]
   refine tkA 8 ?_;refine tkA 9 ?_;refine rdy 10 (λKB Z=>?_);go_simp;refine Z.out _ _ aa.out.2 (λh10=>?_);clear Z KB
   try simp only[pq]
   refine Vd kr ?_ _;refine At ?_;go_wp2;go_ret;exact⟨rfl,⟨(T a2 (lc tk+1) c2),(G2.out).wide λk _ hx=>hx.elim .inl λh2=>.inr (AS (AS j.out.size ac.out.size) h2)⟩,(j.out.same ac.out).then G3.out⟩
theorem ahb:(ZP.info? 4).map (λi=>(i.zero,i.size,i.bytes))=E (E (i6 M),1,1):=by kernel_rfl
theorem Jz{α:Type}{enc:α->Vh}{w:Wa}{a:Option Addr}{n:Nat}{xs:List α}(h:Sl1 enc w a n xs):SlK 1 w a n (xs.map enc):=by refine⟨by rw[BP,h.1,Hk],h.2.imp id ?_⟩;rintro⟨b,off,e,X,V⟩;refine⟨b,off,e,X,λi u Z=>?_⟩;rw[BU]at Z;obtain⟨x,Y,rfl⟩:=Fo.1 Z;exact V i x Y
theorem acP(a:Option Addr)(n c:Nat)(cs:List Vh)(w:Wa)(H:SlK 1 w a n cs)(Z:∀u∈cs,u.oneCell'=G)(hn:n<=1000000) :Calls ZP 104 #[T a n c] w λe w'=>∃v,e=ra v/\w'.ownsRow w.heap.size 5 1 v n cs/\Bt w w':=by
 go_enter func104,ntmps104;go_upto_region 1 with fail
 have hu:ZP.underlying 32=E (.slice 5):=underlying32;have y:=Lib.run_eql_slice_nil (P:=ZP) w 32 5 a n c 0 0 hu
 cases a with
 |none=>
  have h0:n=0:=by
   rcases H.2 with h|⟨b,off,e,_⟩
   ·exact h
   ·cases e
  subst h0;have hl:cs=[]:=OL.1 (by rw[H.1,Nat.zero_mul]);subst hl;clear H hn;simp only[Option.isNone]at y;go_wp2;go_ret;exact⟨_,rfl,BN _ _ _ _,AH _ _⟩
 |some p=>
  have HH:=AA H;have D:=AA Z;clear H Z;simp only[Option.isNone]at y;go_upto_region 3 with fail
  clear y;obtain⟨i0,hi,A,B,C⟩:=Ve Gs;have X:(w.alloc (i7 #[] 5)).ownsRow w.heap.size 5 1 (T (E ⟨w.heap.size,0,O⟩) 0 0) 0 []:=⟨rfl,.inr ⟨w.heap.size,0,#[],rfl,AC _,AT w _,AR _,AR _,rfl,by simp⟩⟩;have Y:=AL w (i7 #[] 5);have U:=HH.out.below Y;have Z:∀u∈cs,u.oneCell'=G:=D.out;have V:w.heap.size<=(w.alloc (i7 #[] 5)).heap.size:=by simp
  go_wp2_with (at_builtin;refine JA rfl _ _ 32 rfl w.heap.size 5 i0 (.int .u8 0) 1 1 hu hi A B C rfl (by decide) (T (E ⟨w.heap.size,0,O⟩) 0 0) 0 [] rfl X (E p) n c cs rfl U Z (by unfold maxLen;omega) om V ?_;intro v1 W1 N J I;have s:=AA N;have a1:=AA J;clear N J I X U Z)
  go_ret;refine⟨v1,rfl,?_,(Y).grown a1.out Y.size (λj e=>by injection e with e;exact Gq e)⟩;have:=s.out;rw[DD,Av]at this;exact this
theorem ahT(a:Option Addr)(n c:Nat)(cs:List Vh)(w:Wa)(H:SlK 1 w a n cs)(Z:∀u∈cs,u.oneCell'=G)(hn:n<=1000000) :Calls ZP 238 #[T a n c] w λe w'=>∃v,e=ra v/\w'.ownsRow w.heap.size 5 1 v n cs/\Bt w w':=by
 go_enter func238,ntmps238;go_upto_region 1 with fail
 have hu:ZP.underlying 32=E (.slice 5):=underlying32;have y:=Lib.run_eql_slice_nil (P:=ZP) w 32 5 a n c 0 0 hu
 cases a with
 |none=>
  have h0:n=0:=by
   rcases H.2 with h|⟨b,off,e,_⟩
   ·exact h
   ·cases e
  subst h0;have hl:cs=[]:=OL.1 (by rw[H.1,Nat.zero_mul]);subst hl;clear H hn;simp only[Option.isNone]at y;go_wp2;go_ret;exact⟨_,rfl,BN _ _ _ _,AH _ _⟩
 |some p=>
  have HH:=AA H;have D:=AA Z;clear H Z;simp only[Option.isNone]at y;go_upto_region 3 with fail
  clear y;obtain⟨i0,hi,A,B,C⟩:=Ve Gs;have X:(w.alloc (i7 #[] 5)).ownsRow w.heap.size 5 1 (T (E ⟨w.heap.size,0,O⟩) 0 0) 0 []:=⟨rfl,.inr ⟨w.heap.size,0,#[],rfl,AC _,AT w _,AR _,AR _,rfl,by simp⟩⟩;have Y:=AL w (i7 #[] 5);have U:=HH.out.below Y;have Z:∀u∈cs,u.oneCell'=G:=D.out;have V:w.heap.size<=(w.alloc (i7 #[] 5)).heap.size:=by simp
  go_wp2_with (at_builtin;refine JA rfl _ _ 32 rfl w.heap.size 5 i0 (.int .u8 0) 1 1 hu hi A B C rfl (by decide) (T (E ⟨w.heap.size,0,O⟩) 0 0) 0 [] rfl X (E p) n c cs rfl U Z (by unfold maxLen;omega) om V ?_;intro v1 W1 N J I;have s:=AA N;have a1:=AA J;clear N J I X U Z)
  go_ret;refine⟨v1,rfl,?_,(Y).grown a1.out Y.size (λj e=>by injection e with e;exact Gq e)⟩;have:=s.out;rw[DD,Av]at this;exact this
theorem ahR(a:Option Addr)(n c:Nat)(cs:List Vh)(w:Wa)(H:SlK 1 w a n cs)(Z:∀u∈cs,u.oneCell'=G)(hn:n<=1000000) :Calls ZP 94 #[T a n c] w λe w'=>∃v,e=ra v/\w'.ownsRow w.heap.size 4 1 v n cs/\Bt w w':=by
 go_enter func94,ntmps94;go_upto_region 1 with fail
 have hu:ZP.underlying 27=E (.slice 4):=underlying27;have y:=Lib.run_eql_slice_nil (P:=ZP) w 27 4 a n c 0 0 hu
 cases a with
 |none=>
  have h0:n=0:=by
   rcases H.2 with h|⟨b,off,e,_⟩
   ·exact h
   ·cases e
  subst h0;have hl:cs=[]:=OL.1 (by rw[H.1,Nat.zero_mul]);subst hl;clear H hn;simp only[Option.isNone]at y;go_wp2;go_ret;exact⟨_,rfl,BN _ _ _ _,AH _ _⟩
 |some p=>
  have HH:=AA H;have D:=AA Z;clear H Z;simp only[Option.isNone]at y;go_upto_region 3 with fail
  clear y;obtain⟨i0,hi,A,B,C⟩:=Ve ahb;have X:(w.alloc (i7 #[] 4)).ownsRow w.heap.size 4 1 (T (E ⟨w.heap.size,0,O⟩) 0 0) 0 []:=⟨rfl,.inr ⟨w.heap.size,0,#[],rfl,AC _,AT w _,AR _,AR _,rfl,by simp⟩⟩;have Y:=AL w (i7 #[] 4);have U:=HH.out.below Y;have Z:∀u∈cs,u.oneCell'=G:=D.out;have V:w.heap.size<=(w.alloc (i7 #[] 4)).heap.size:=by simp
  go_wp2_with (at_builtin;refine JA rfl _ _ 27 rfl w.heap.size 4 i0 (i6 M) 1 1 hu hi A B C rfl (by decide) (T (E ⟨w.heap.size,0,O⟩) 0 0) 0 [] rfl X (E p) n c cs rfl U Z (by unfold maxLen;omega) om V ?_;intro v1 W1 N J I;have s:=AA N;have a1:=AA J;clear N J I X U Z)
  go_ret;refine⟨v1,rfl,?_,(Y).grown a1.out Y.size (λj e=>by injection e with e;exact Gq e)⟩;have:=s.out;rw[DD,Av]at this;exact this
theorem aqB(a:Option Addr)(n c:Nat)(cs:List Vh)(w:Wa)(H:SlK 2 w a n cs)(Z:∀u∈cs,u.oneCell'=G)(hn:n<=1000000) :Calls ZP 77 #[T a n c] w λe w'=>∃v,e=ra v/\w'.ownsRow w.heap.size 116 2 v n cs/\Bt w w':=by
 go_enter func77,ntmps77;go_upto_region 1 with fail
 have hu:ZP.underlying 69=E (.slice 116):=underlying69;have y:=Lib.run_eql_slice_nil (P:=ZP) w 69 116 a n c 0 0 hu
 cases a with
 |none=>
  have h0:n=0:=by
   rcases H.2 with h|⟨b,off,e,_⟩
   ·exact h
   ·cases e
  subst h0;have hl:cs=[]:=OL.1 (by rw[H.1,Nat.zero_mul]);subst hl;clear H hn;simp only[Option.isNone]at y;go_wp2;go_ret;exact⟨_,rfl,BN _ _ _ _,AH _ _⟩
 |some p=>
  have HH:=AA H;have D:=AA Z;clear H Z;simp only[Option.isNone]at y;go_upto_region 3 with fail
  clear y;obtain⟨i0,hi,A,B,C⟩:=Ve IG;have X:(w.alloc (i7 #[] 116)).ownsRow w.heap.size 116 2 (T (E ⟨w.heap.size,0,O⟩) 0 0) 0 []:=⟨rfl,.inr ⟨w.heap.size,0,#[],rfl,AC _,AT w _,AR _,AR _,rfl,by simp⟩⟩;have Y:=AL w (i7 #[] 116);have U:=HH.out.below Y;have Z:∀u∈cs,u.oneCell'=G:=D.out;have V:w.heap.size<=(w.alloc (i7 #[] 116)).heap.size:=by simp
  go_wp2_with (at_builtin;refine JA rfl _ _ 69 rfl w.heap.size 116 i0 (i8 #[R K 0,R K 0]) 2 16 hu hi A B C rfl (by decide) (T (E ⟨w.heap.size,0,O⟩) 0 0) 0 [] rfl X (E p) n c cs rfl U Z (by unfold maxLen;omega) om V ?_;intro v1 W1 N J I;have s:=AA N;have a1:=AA J;clear N J I X U Z)
  go_ret;refine⟨v1,rfl,?_,(Y).grown a1.out Y.size (λj e=>by injection e with e;exact Gq e)⟩;have:=s.out;rw[DD,Av]at this;exact this
abbrev PlW:=(Option Addr×Nat×Nat)×Bool
def plE(p:PlW):List Vh:=[T p.1.1 p.1.2.1 p.1.2.2,i6 p.2]
def plC(l:List PlW):List Vh:=l.flatMap plE
theorem air(l:List PlW):(plC l).length=lc l*2:=by
 induction l with
 |nil=>rfl
 |cons p l ih=>
  unfold plC at ih⊢;rw[List.flatMap_cons,List.length_append,ih];simp[plE];omega
theorem Hz:∀{l:List PlW}{i:Nat}{p:PlW},l[i]?=E p->(plC l)[i*2]?=E (T p.1.1 p.1.2.1 p.1.2.2)/\(plC l)[i*2+1]?=E (i6 p.2)
 |[],i,p,h=>by simp at h
 |q::l,0,p,h=>by
  cases AK h
  exact⟨rfl,rfl⟩
 |q::l,i+1,p,h=>by
  have:=Hz (l:=l) (i:=i) (p:=p) (by simpa using h);have e:plC (q::l)=T q.1.1 q.1.2.1 q.1.2.2::i6 q.2::plC l:=by simp[plC,plE]
  rw[e,show(i+1)*2=i*2+1+1 by omega];exact this
theorem ak2:∀(l:List PlW)(i:Nat)(p:PlW),plC (l.set i p)=((plC l).set (i*2) (T p.1.1 p.1.2.1 p.1.2.2)).set (i*2+1) (i6 p.2)
 |[],i,p=>by simp[plC]
 |q::l,0,p=>by simp[plC,plE]
 |q::l,i+1,p=>by
  have:=ak2 l i p;have e:∀(q:PlW)(l:List PlW),plC (q::l)=T q.1.1 q.1.2.1 q.1.2.2::i6 q.2::plC l:=λq l=>by simp[plC,plE]
  rw[List.set_cons_succ,e,e,this,show(i+1)*2=i*2+1+1 by omega]
  rfl
structure BZ(X:Nat->Prop)(Q B next:Nat)(pl:List PlW)(w:World):Prop where
 box:w.heap[Q]?=some (.cells #[T (some ⟨B,0,none⟩) pl.length pl.length,R K (next:Int)] 199 (0,0))
 places:w.heap[B]?=some (.cells (plC pl).toArray 264 (0,0))
 inX:X Q/\X B
 ne:Q≠B
 room:1<=pl.length/\pl.length<=16
section
variable {X Y:Nat->Prop}{Q B next:Nat}{pl:List PlW}{w w':Wa}
theorem BZ.keep(h:BZ X Q B next pl w)(N:Chg Y w w')(U:∀k,k<w.heap.size->X k->¬Y k):BZ X Q B next pl w':=by have Z:∀k o,w.heap[k]?=E o->X k->w'.heap[k]?=E o:=λk o hk V=>(N.block k (AD.1 hk).1 (U k (AD.1 hk).1 V)).trans hk;exact⟨Z _ _ h.box h.inX.1,Z _ _ h.places h.inX.2,h.inX,h.ne,h.room⟩
theorem BZ.wide(h:BZ X Q B next pl w)(Z:∀k,k<w.heap.size->X k->Y k):BZ Y Q B next pl w:=⟨h.box,h.places,⟨Z _ (AD.1 h.box).1 h.inX.1,Z _ (AD.1 h.places).1 h.inX.2⟩,h.ne,h.room⟩
theorem BZ.setP(h:BZ X Q B next pl w)(i:Nat)(p:PlW):BZ X Q B next (pl.set i p) ((w.setCell ⟨B,i*2,O⟩ (T p.1.1 p.1.2.1 p.1.2.2)).setCell ⟨B,i*2+1,O⟩ (i6 p.2))/\Chg X w ((w.setCell ⟨B,i*2,O⟩ (T p.1.1 p.1.2.1 p.1.2.2)).setCell ⟨B,i*2+1,O⟩ (i6 p.2)):=by
 obtain⟨V,Z⟩:∃W,W=w.setCell ⟨B,i*2,O⟩ (T p.1.1 p.1.2.1 p.1.2.2):=⟨_,rfl⟩;have h1:=AJ (i:=i*2) h.places (T p.1.1 p.1.2.1 p.1.2.2);rw[<-Z]at h1⊢;have h2:=AJ (i:=i*2+1) h1 (i6 p.2);rw[Fp,Fp,<-ak2]at h2;have U:(V.setCell ⟨B,i*2+1,O⟩ (i6 p.2)).heap[Q]?=w.heap[Q]?:=by rw[AQ V ⟨B,i*2+1,O⟩ _ Q h.ne,Z,AQ w ⟨B,i*2,O⟩ _ Q h.ne]
 refine⟨⟨by rw[BG];exact U.trans h.box,h2,h.inX,h.ne,by rw[BG];exact h.room⟩,?_⟩;rw[Z];exact((Chg.refl X w).set h.inX.2).set h.inX.2
theorem BZ.step(h:BZ X Q B next pl w)(Z:Nat):BZ X Q B Z pl (w.setCell ⟨Q,1,O⟩ (R K (Z:Int)))/\Chg X w (w.setCell ⟨Q,1,O⟩ (R K (Z:Int))):=⟨⟨AJ (i:=1) h.box _,(AQ w ⟨Q,1,O⟩ _ B h.ne.symm).trans h.places,h.inX,h.ne,h.room⟩,(Chg.refl X w).set h.inX.1⟩
end
theorem abJ{X:Nat->Prop}{Q B next:Nat}{pl:List PlW}(w:Wa)(h:BZ X Q B next pl w) :Calls ZP 231 #[L (E ⟨Q,0,O⟩)] w λe w'=>e=ra (R K (lc pl:Int))/\w'=w:=by
 have c0:w.cell? ⟨Q,0,O⟩=E (T (E ⟨B,0,O⟩) (lc pl) (lc pl)):=by simp[cell?,h.box]
 clear h;go_enter func231,ntmps231;go_wp2;go_ret;exact⟨rfl,rfl⟩
theorem ah6{X:Nat->Prop}{Q B next:Nat}{pl:List PlW}(w:Wa)(h:BZ X Q B next pl w) :Calls ZP 66 #[L (E ⟨Q,0,O⟩)] w λe w'=>e=ra (R K (next:Int))/\w'=w:=by
 have c1:w.cell? ⟨Q,1,O⟩=E (R K (next:Int)):=by simp[cell?,h.box]
 clear h;go_enter func66,ntmps66;go_wp2;go_ret;exact⟨rfl,rfl⟩
theorem abP{X:Nat->Prop}{Q B next:Nat}{pl:List PlW}(n:Nat)(w:Wa)(h:BZ X Q B next pl w)(A:n<=4611686018427387904) :Calls ZP 170 #[L (E ⟨Q,0,O⟩),R K (n:Int)] w λe w'=>e=ra (L (E ⟨B,n % lc pl*2,O⟩))/\Bt w w':=by
 have c0:w.cell? ⟨Q,0,O⟩=E (T (E ⟨B,0,O⟩) (lc pl) (lc pl)):=by simp[cell?,h.box]
 have I:=AA (λq=>AN w q);obtain⟨J,N⟩:=h.room;obtain⟨LO,U⟩:∃LO,lc pl=LO:=⟨_,rfl⟩;rw[U]at c0 J N⊢;have e2:(n:Int).tmod (LO:Int)=((n % LO:Nat):Int):=by rw[Jq om];simp
 have Z:n % LO<LO:=Ek _ om;obtain⟨p,V⟩:∃p,n % LO=p:=⟨_,rfl⟩;rw[V]at e2 Z⊢;have C:(0:Int)<=(p:Int):=by omega
 have D:(p:Int)<(LO:Int):=by omega
 have z0:¬(LO:Int)=0:=by omega
 have H:¬LO=0:=by omega
 clear h V U;go_enter func170,ntmps170;go_upto_region 1 with fail
 go_big_quiet (fail)
 go_wp2;go_ret;exact⟨by simp,I.out _⟩
def Du(next room n:Nat):Bool:=decide (next<=n)&&decide (n-next<room)
theorem aaC{X:Nat->Prop}{Q B next:Nat}{I:List PlW}(n:Nat)(w:Wa)(h:BZ X Q B next I w)(hn:n<=1000000000)(hx:next<=1000000000) :Calls ZP 189 #[L (E ⟨Q,0,O⟩),R K (n:Int)] w λe w'=>e=ra (i6 (Du next (lc I) n))/\Bt w w':=by
 have c1:w.cell? ⟨Q,1,O⟩=E (R K (next:Int)):=by simp[cell?,h.box]
 have k1:∀d os,(grow (redrawn w d) os).cell? ⟨Q,1,O⟩=E (R K (next:Int)):=Vc c1;have H:∀d os,Calls ZP 231 #[L (E ⟨Q,0,O⟩)] (grow (redrawn w d) os) λe w'=>e=ra (R K (lc I:Int))/\RowKit.Below (grow (redrawn w d) os).heap.size (grow (redrawn w d) os) w':=λd os=>(abJ _ (h.keep (Y:=λ_=>False) (.of_same (Kf w d os)) λ_ _ _ h=>h)).mono λe w' ⟨h1,h2⟩=>⟨h1,by rw[h2];exact AH _ _⟩;obtain⟨LO,y⟩:∃LO,lc I=LO:=⟨_,rfl⟩;rw[y]at H⊢;have J:=AA (λC V=>Kf w C V);clear h y c1
 by_cases Z:next<=n
 ·have d0:decide ((n:Int)>=(next:Int))=G:=by simp;omega
  have U:decide (next<=n)=G:=Lz Z;have j:IntKind.i64.wrap ((n:Int)-(next:Int))=((n-next:Nat):Int):=by rw[BK];omega
  have N:Du next LO n=decide (n-next<LO):=by unfold Du;rw[U];rfl
  rw[N];obtain⟨m,A⟩:∃m,n-next=m:=⟨_,rfl⟩;rw[A]at j⊢;obtain⟨D,v⟩:∃b,decide (m<LO)=b:=⟨_,rfl⟩;have s:decide ((m:Int)<(LO:Int))=D:=by rw[<-v,Db];simp
  rw[v];clear N A Z;go_enter func189,ntmps189;go_upto_region 1 with fail
  refine wp_region_quiet_below mixed kr ?_
  repeat (go_big_quiet_step (exact Eu (H _ _)))
  refine wpQuiet_nil ?_;rintro _ ⟨⟨C,V⟩,rfl⟩;go_wp2;go_ret;exact⟨rfl,J.out _ _⟩
 ·have d0:decide ((n:Int)>=(next:Int))=M:=by simp;omega
  have U:decide (next<=n)=M:=decide_eq_false Z;have N:Du next LO n=M:=by unfold Du;rw[U];rfl
  rw[N];clear N Z;go_enter func189,ntmps189;go_upto_region 1 with fail
  refine wp_region_quiet_below mixed kr ?_
  repeat (go_big_quiet_step (exact Eu (H _ _)))
  refine wpQuiet_nil ?_;rintro _ ⟨⟨C,V⟩,rfl⟩;go_wp2;go_ret;exact⟨rfl,J.out _ _⟩
theorem ai7{X:Nat->Prop}{Q B next:Nat}{Z:List PlW}(n m c:Nat)(a:Option Addr)(s:Option Addr×Nat×Nat)(w:Wa)(h:BZ X Q B next Z w)(hn:n<=1000000000)(hx:next<=1000000000)(U:Du next (lc Z) n=G)(hp:Z[n % lc Z]?=E (s,M)) :Calls ZP 201 #[L (E ⟨Q,0,O⟩),R K (n:Int),T a m c] w λe w'=>e=ra (i6 G)/\BZ X Q B next (Z.set (n % lc Z) ((a,m,c),G)) w'/\Chg X w w':=by
 have j:=aaC n w h hn hx;rw[U]at j;have j:=AA j;have A:Hid (∀V,Bt w V->BZ X Q B next Z V/\Calls ZP 170 #[L (E ⟨Q,0,O⟩),R K (n:Int)] V λe w'=>e=ra (L (E ⟨B,n % lc Z*2,O⟩))/\Bt V w'):=λV hV=>by have:=h.keep (Y:=λ_=>False) (.of_same hV) λ_ _ _ h=>h;exact⟨this,abP n V this om⟩
 obtain⟨p,H⟩:∃p,n % lc Z=p:=⟨_,rfl⟩;rw[H]at A hp⊢;have HP:=AA hp;clear h U H hp;go_enter func201,ntmps201
 go_wp2_with (go_at_call 189;refine j.out.mono ?_;rintro e w1 ⟨rfl,N⟩)
 have a2:=AA (A.out w1 N).2;have y:=AA N;clear N
 go_wp2_with fail
 refine a2.out.mono ?_;rintro e w2 ⟨rfl,C⟩;have J:=y.out.trans (C.mono y.out.size);obtain⟨h2,_⟩:=A.out w2 J;have x1:w2.cell? ⟨B,p*2+1,O⟩=E (i6 M):=by have:=(Hz HP.out).2;simp[cell?,h2.places];exact this
 have I:=AA J;clear C J h2;go_upto_region 3 with fail
 have a1:=AA (A.out w2 I.out).2;clear x1
 go_wp2_with fail
 refine a1.out.mono ?_;rintro e v ⟨rfl,D⟩;have J:=I.out.trans (D.mono I.out.size);obtain⟨h3,_⟩:=A.out v J;have y0:v.cell? ⟨B,p*2,O⟩=E (T s.1 s.2.1 s.2.2):=by have:=(Hz HP.out).1;simp[cell?,h3.places];exact this
 have y1:v.cell? ⟨B,p*2+1,O⟩=E (i6 M):=by have:=(Hz HP.out).2;simp[cell?,h3.places];exact this
 have f0:∀i,v.frozen? ⟨B,i,O⟩=M:=λi=>by simp[frozen?,h3.places]
 have f1:=f0 (p*2);have f2:=f0 (p*2+1);obtain⟨g1,g2⟩:=h3.setP p ((a,m,c),G);have G1:=AA g1;have G2:=AA ((Chg.of_same J).then g2);clear D J h3 g1 g2 f0;go_wp2;go_ret;exact⟨rfl,G1.out,G2.out⟩
abbrev TVw:=Option Addr×Nat×Nat
abbrev svW(v:TVw):Vh:=T v.1 v.2.1 v.2.2
structure BY(X:Nat->Prop)(S:Nat)(a:Option Addr)(n c:Nat)(vs:List TVw)(rs:La)(br:Bool)(told:Nat)(w:World):Prop where
 box:w.heap[S]?=some (.cells #[T a n c,i6 br,R K (told:Int)] 186 (0,0))
 inX:X S
 row:Sl1 svW w a n vs
 rowB:n≠0->∀q,a=some q->X q.block/\q.block≠S/\∃cur,w.heap[q.block]?=some (.cells cur 32 (0,0))
 len:vs.length=rs.length
 cap:n<=c
 el:∀(i:Nat)(v:TVw)(xs:List Int),vs[i]?=some v->rs[i]?=some xs->Bys w v.1 v.2.1 xs/\v.2.1<=v.2.2/\(v.2.1≠0->∀q,v.1=some q->X q.block/\q.block≠S/\∀q',a=some q'->q.block≠q'.block)
section
variable {X Y:Nat->Prop}{S n c told m:Nat}{a b:Option Addr}{vs:List TVw}{rs:La}{br:Bool}{w w':Wa}{xs:List Int}
theorem Bys.same(h:Bys w b m xs)(Z:w.heap.size<=w'.heap.size)(hk:m≠0->∀q,b=E q->w'.heap[q.block]?=w.heap[q.block]?):Bys w' b m xs:=by
 refine⟨⟨h.1.1,?_⟩,h.2⟩
 by_cases h0:m=0
 ·exact .inl h0
 ·obtain⟨g,o,e,U,V⟩:=h.1.2.resolve_left h0;refine .inr ⟨g,o,e,Af U Z,λi x N=>?_⟩;have J:w'.heap[g]?=w.heap[g]?:=hk h0 ⟨g,o,O⟩ e;rw[BC (a:=⟨g,o+i,O⟩) J];exact V i x N
theorem Bys.lt(h:Bys w b m xs)(h0:m≠0):∀q,b=E q->q.block<w.heap.size:=λq Z=>by
 obtain⟨g,o,e,V,_⟩:=h.1.2.resolve_left h0;rw[Z]at e
 cases AK e
 exact V
theorem BY.keep(h:BY X S a n c vs rs br told w)(N:Chg Y w w')(C:∀k,k<w.heap.size->X k->¬Y k):BY X S a n c vs rs br told w':=by
 have B:=(AD.1 h.box).1;have U:∀k,k<w.heap.size->X k->w'.heap[k]?=w.heap[k]?:=λk hk Z=>N.block k hk (C k hk Z);refine⟨(U S B h.inX).trans h.box,h.inX,⟨h.row.1,?_⟩,λh0 q V=>?_,h.len,h.cap,λi v xs H Z=>?_⟩
 ·by_cases h0:n=0
  ·exact .inl h0
  ·obtain⟨b,o,e,I,Z⟩:=h.row.2.resolve_left h0;refine .inr ⟨b,o,e,Af I N.size,λi x D=>?_⟩;rw[BC (a:=⟨b,o+i,O⟩) (U b I (h.rowB h0 _ e).1)];exact Z i x D
 ·obtain⟨h1,h2,J,h3⟩:=h.rowB h0 q V;exact⟨h1,h2,J,(U _ (AD.1 h3).1 h1).trans h3⟩
 ·obtain⟨h1,h2,h3⟩:=h.el i v xs H Z;exact⟨h1.same N.size λh0 q V=>U _ (h1.lt h0 q V) (h3 h0 q V).1,h2,h3⟩
theorem BY.wide(h:BY X S a n c vs rs br told w)(V:∀k,k<w.heap.size->X k->Y k):BY Y S a n c vs rs br told w:=by
 refine⟨h.box,V S (AD.1 h.box).1 h.inX,h.row,λh0 q Z=>?_,h.len,h.cap,λi v xs J N=>?_⟩
 ·obtain⟨h1,h2,U,h3⟩:=h.rowB h0 q Z;exact⟨V _ (AD.1 h3).1 h1,h2,U,h3⟩
 ·obtain⟨h1,h2,h3⟩:=h.el i v xs J N;exact⟨h1,h2,λh0 q Z=>⟨V _ (h1.lt h0 q Z) (h3 h0 q Z).1,(h3 h0 q Z).2⟩⟩
theorem BY.turn{a2:Option Addr}{I c2 Z:Nat}{V:List TVw}{U:La}(h:BY X S a n c vs rs br told w)(a1:w.heap.size<=w'.heap.size)(hb:w'.heap[S]?=E (i7 #[T a2 I c2,i6 br,R K (Z:Int)] 186 (0,0)))
  (ho:∀k,k<w.heap.size->k≠S->(∀q,a=E q->k≠q.block)->w'.heap[k]?=w.heap[k]?) (hr:Sl1 svW w' a2 I V) (hn:I≠0->n≠0/\∀q,a2=E q->(∃q',a=E q'/\q.block=q'.block)/\∃N,w'.heap[q.block]?=E (i7 N 32 (0,0)))
  (hl:lc V=lc U) (hc:I<=c2) (a7:∀B,a2=E B->∃q',a=E q'/\B.block=q'.block)
  (he:∀(i:Nat)(v:TVw)(xs:List Int),V[i]?=E v->U[i]?=E xs->∃(j:Nat)(v0:TVw)(y:List Int),vs[j]?=E v0/\rs[j]?=E y/\Bys w v.1 v.2.1 xs/\v.2.1<=v.2.2/\(v.2.1≠0->∀q,v.1=E q->v0.2.1≠0/\∃J,v0.1=E J/\q.block=J.block)) :
  BY X S a2 I c2 V U br Z w':=by
 refine⟨hb,h.inX,hr,λh0 q A=>?_,hl,hc,λi v xs hv hx=>?_⟩
 ·obtain⟨h1,h2⟩:=hn h0;obtain⟨⟨q',e1,e2⟩,N,h3⟩:=h2 q A;obtain⟨g1,g2,_⟩:=h.rowB h1 q' e1;rw[e2]at h3⊢;exact⟨g1,g2,N,h3⟩
 ·obtain⟨j,v0,y,j1,j2,C,a6,A⟩:=he i v xs hv hx;obtain⟨_,_,g3⟩:=h.el j v0 y j1 j2;refine⟨C.same a1 λh0 q e=>?_,a6,λh0 q e=>?_⟩
  ·obtain⟨h1,J,e0,eb⟩:=A h0 q e;obtain⟨s,D,H⟩:=g3 h1 J e0;rw[<-eb]at D H;exact ho _ (C.lt h0 q e) D H
  ·obtain⟨h1,J,e0,eb⟩:=A h0 q e;obtain⟨s,D,H⟩:=g3 h1 J e0;rw[<-eb]at s D H;refine⟨s,D,λB e2=>?_⟩;obtain⟨q',e3,e4⟩:=a7 B e2;rw[e4];exact H q' e3
end
theorem ahB{X:Nat->Prop}{S n c told:Nat}{a:Option Addr}{vs:List TVw}{rs:La}{br:Bool}(w:Wa)(h:BY X S a n c vs rs br told w) :Calls ZP 234 #[L (E ⟨S,0,O⟩)] w λe w'=>e=ra (i6 (decide (n=0)))/\w'=w:=by
 have c0:w.cell? ⟨S,0,O⟩=E (T a n c):=by simp[cell?,h.box]
 have Z:((n:Int)==0)=decide (n=0):=by rw[Db];simp
 have e2:decide ((n:Int)=0)=decide (n=0):=by rw[Db];simp
 clear h;go_enter func234,ntmps234;go_wp2;go_ret;refine⟨?_,rfl⟩
 first|rfl|simp|(simp;omega)
theorem aqc{X:Nat->Prop}{S n c told:Nat}{a:Option Addr}{vs:List TVw}{rs:La}{br:Bool}(w:Wa)(h:BY X S a n c vs rs br told w) :Calls ZP 76 #[L (E ⟨S,0,O⟩)] w λe w'=>e=ra (i6 br)/\Bt w w':=by
 have c1:w.cell? ⟨S,1,O⟩=E (i6 br):=by simp[cell?,h.box]
 have Z:=AA (λq=>AN w q);clear h;go_enter func76,ntmps76;go_wp2;go_ret;exact⟨rfl,AH _ _⟩
section
variable {X:Nat->Prop}{S n c told m Ra o:Nat}{a2:Option Addr}{v v2:TVw}{vt:List TVw}{x x2:List Int}{t:La}{br:Bool}{w:Wa}
theorem BY.shift(h:BY X S (E ⟨Ra,o,O⟩) (m+1) c (v::vt) (x::t) br told w)(u:Vh)(ha:a2=E ⟨Ra,o,O⟩/\m=0∨a2=E ⟨Ra,o+1,O⟩) :BY X S a2 m (c-1) vt t br told ((w.setCell ⟨Ra,o,O⟩ u).setCell ⟨S,0,O⟩ (T a2 m (c-1)))/\Chg X w ((w.setCell ⟨Ra,o,O⟩ u).setCell ⟨S,0,O⟩ (T a2 m (c-1))):=by
 obtain⟨a1,D,a7,N⟩:=h.rowB om _ rfl;obtain⟨J,V⟩:∃U,U=w.setCell ⟨Ra,o,O⟩ u:=⟨_,rfl⟩;rw[<-V];have A:∀k,k≠Ra->J.heap[k]?=w.heap[k]?:=λk hk=>by rw[V];exact AQ w ⟨Ra,o,O⟩ _ k hk
 have I:∀k,k≠S->(J.setCell ⟨S,0,O⟩ (T a2 m (c-1))).heap[k]?=J.heap[k]?:=λk hk=>AQ J ⟨S,0,O⟩ _ k hk;have s:J.heap.size=w.heap.size:=by rw[V];simp[World.setCell]
 have j:J.heap[S]?=E (i7 #[T (E ⟨Ra,o,O⟩) (m+1) c,i6 br,R K (told:Int)] 186 (0,0)):=(A S λe=>D e.symm).trans h.box;have C:J.heap[Ra]?=E (i7 (a7.setIfInBounds o u) 32 (0,0)):=by rw[V];exact AJ N u
 obtain⟨R',o',e,a8,a6⟩:=h.row.2.resolve_left om
 cases AK e
 have H:∀i,0<i->J.cell? ⟨Ra,o+i,O⟩=w.cell? ⟨Ra,o+i,O⟩:=λi hi=>by simp only[cell?,C,show w.heap[Ra]?=_ from N];simp[Array.getElem?_setIfInBounds];omega
 have Z:∀q,a2=E q->q.block=Ra:=λq B=>by rcases ha with⟨e,_⟩|e<;>(rw[B]at e;cases AK e;rfl)
 refine⟨h.turn (by simp[World.setCell]at s⊢;omega) (AJ (i:=0) j _) (λk _ h1 h2=>(I k h1).trans (A k (h2 _ rfl))) ⟨by have:=h.row.1;simpa using this,?_⟩ (λh0=>⟨by omega,λq B=>⟨⟨_,rfl,Z q B⟩,?_⟩⟩) (by have:=h.len;simpa using this) (by have:=h.cap;omega) (λq B=>⟨_,rfl,Z q B⟩) (λi v3 xs hv hx=>?_),?_⟩
 ·by_cases h0:m=0
  ·exact .inl h0
  ·have ea:a2=E ⟨Ra,o+1,O⟩:=ha.elim (λh=>absurd h.2 h0) id;refine .inr ⟨Ra,o+1,ea,by simp[World.setCell];have:=(AD.1 C).1;exact this,λi y hy=>?_⟩;rw[BC (a:=⟨Ra,o+1+i,O⟩) (I Ra D),show o+1+i=o+(i+1) by omega,H (i+1) om];exact a6 (i+1) y hy
 ·rw[Z q B,I Ra D];exact⟨_,C⟩
 ·obtain⟨g1,g2,g3⟩:=h.el (i+1) v3 xs hv hx;exact⟨i+1,v3,xs,hv,hx,g1,g2,λh0 q e=>⟨h0,q,e,rfl⟩⟩
 ·rw[V];exact((Chg.refl X w).set a1).set h.inX
theorem BY.trim(h:BY X S (E ⟨Ra,o,O⟩) n c (v::vt) (x::t) br told w)(B:n≠0)(D:Bys w v2.1 v2.2.1 x2)(A:v2.2.1<=v2.2.2)(N:v2.2.1≠0->∀q,v2.1=E q->v.2.1≠0/\∃q0,v.1=E q0/\q.block=q0.block) :BY X S (E ⟨Ra,o,O⟩) n c (v2::vt) (x2::t) br told (w.setCell ⟨Ra,o,O⟩ (svW v2))/\Chg X w (w.setCell ⟨Ra,o,O⟩ (svW v2)):=by
 obtain⟨j,a1,U,Z⟩:=h.rowB B _ rfl;have J:∀k,k≠Ra->(w.setCell ⟨Ra,o,O⟩ (svW v2)).heap[k]?=w.heap[k]?:=λk hk=>AQ w ⟨Ra,o,O⟩ _ k hk;have s:=(J S λe=>a1 e.symm).trans h.box;have V:(w.setCell ⟨Ra,o,O⟩ (svW v2)).heap[Ra]?=E (i7 (U.setIfInBounds o (svW v2)) 32 (0,0)):=AJ Z _;obtain⟨R',o',e,a6,I⟩:=h.row.2.resolve_left B
 cases AK e
 have ho:o<U.size:=by
  have h1:=I 0 v rfl;simp only[cell?,show w.heap[Ra]?=_ from Z]at h1;have h2:U[o+0]?=E (svW v):=by simpa using h1
  exact(AD.1 h2).1
 refine⟨h.turn (by simp[World.setCell]) s (λk _ h1 h2=>J k (h2 _ rfl)) ⟨by have:=h.row.1;simpa using this,.inr ⟨Ra,o,rfl,(AD.1 V).1,λi y hy=>?_⟩⟩ (λh0=>⟨B,λq N=>⟨⟨q,N,rfl⟩,by cases AK N;exact⟨_,V⟩⟩⟩) (by have:=h.len;simpa using this) h.cap (λq N=>⟨q,N,rfl⟩) (λi v3 xs C H=>?_),(Chg.refl X w).set j⟩
 ·cases i with
  |zero=>
   cases AK hy
   simp only[cell?,V];simp[ho]
  |succ i=>
   have h1:=I (i+1) y hy;simp only[cell?,show w.heap[Ra]?=_ from Z]at h1;simp only[cell?,V];simp[Array.getElem?_setIfInBounds]at h1⊢;exact h1
 ·cases i with
  |zero=>
   cases AK C
   cases AK H
   exact⟨0,v,x,rfl,rfl,D,A,N⟩
  |succ i=>
   obtain⟨g1,g2,g3⟩:=h.el (i+1) v3 xs C H;exact⟨i+1,v3,xs,C,H,g1,g2,λh0 q e=>⟨h0,q,e,rfl⟩⟩
end
def Dg(Z:Int)(x:List Int):List Int:=if(lc x:Int)<=Z then x else x.take Z.toNat
def GX(Z:Int)(x:List Int)(t:La):La:=if(lc x:Int)<=Z then t else x.drop Z.toNat::t
def OA(X:Nat->Prop)(S told n:Nat)(x:List Int)(t:La)(br:Bool)(Z:Int)(w:Wa)(e:Ending)(w':Wa):Prop:=
 ∃(b':Option Addr)(N J:Nat)(a2:Option Addr)(U c2:Nat)(V:List TVw),e=ra (T b' N J)/\Bys w' b' N (Dg Z x)/\BY X S a2 U c2 V (GX Z x t) br told w'/\Chg X w w'/\U<=n
theorem ai2{X:Nat->Prop}{S n c told:Nat}{a:Option Addr}{vs:List TVw}{x:List Int}{t:La}{br:Bool}(Z:Int)(w:Wa)(h:BY X S a n c vs (x::t) br told w)(hm:1<=Z)(hn:n<=1000000) :Calls ZP 235 #[L (E ⟨S,0,O⟩),R K Z] w (OA X S told n x t br Z w):=by
 obtain⟨v,vt,rfl⟩:∃v vt,vs=v::vt:=by
  cases vs with
  |nil=>have:=h.len;simp at this
  |cons v vt=>exact⟨v,vt,rfl⟩
 have af:n=lc vt+1:=by rw[<-h.row.1];rfl
 subst af;obtain⟨Ra,o,rfl,am,a1⟩:=h.row.2.resolve_left om;obtain⟨al,aj,ap,C⟩:=h.rowB om _ rfl;obtain⟨j,ad,A⟩:=h.el 0 v x rfl rfl;obtain⟨a0,N,c0⟩:=v;dsimp only at j ad A;have J:lc x=N:=j.1.1;have s0:w.cell? ⟨S,0,O⟩=E (T (E ⟨Ra,o,O⟩) (lc vt+1) c):=by simp[cell?,h.box]
 have r0:w.cell? ⟨Ra,o,O⟩=E (T a0 N c0):=a1 0 _ rfl;have f0:w.frozen? ⟨Ra,o,O⟩=M:=by simp[frozen?,C]
 have ae:=h.cap;have y:∀k,N≠0->(∃q,a0=E q/\q.block=k)->k≠S/\k≠Ra:=λk h0 ⟨q,e,e2⟩=>by obtain⟨_,B,g3⟩:=A h0 q e;exact⟨by rw[<-e2];exact B,by rw[<-e2];exact g3 _ rfl⟩
 have HH:=AA h;have HV:=AA j
 by_cases I:(N:Int)<=Z
 ·have d0:decide ((N:Int)<=Z)=G:=Lz I;have ht:Dg Z x=x:=by unfold Dg;rw[J,Lc I]
  have hr:GX Z x t=t:=by unfold GX;rw[J,Lc I]
  have HT:=AA ht;have a6:=AA hr;obtain⟨W1,D⟩:∃U,U=w.setCell ⟨Ra,o,O⟩ (T O 0 0):=⟨_,rfl⟩;have ab:W1.heap[S]?=E (i7 #[T (E ⟨Ra,o,O⟩) (lc vt+1) c,i6 br,R K (told:Int)] 186 (0,0)):=by rw[D,AQ w ⟨Ra,o,O⟩ _ S (λe=>aj e.symm)];exact h.box
  have s1:W1.cell? ⟨S,0,O⟩=E (T (E ⟨Ra,o,O⟩) (lc vt+1) c):=by simp[cell?,ab]
  have f1:W1.frozen? ⟨S,0,O⟩=M:=by simp[frozen?,ab]
  have ac:Hid (∀u,Bys ((w.setCell ⟨Ra,o,O⟩ (T O 0 0)).setCell ⟨S,0,O⟩ u) a0 N x):=λu=>j.same (by simp[World.setCell]) λh0 q e=>by obtain⟨s,B⟩:=y q.block h0 ⟨q,e,rfl⟩;rw[AQ _ ⟨S,0,O⟩ _ _ s,AQ _ ⟨Ra,o,O⟩ _ _ B]
  by_cases ai:c=1
  ·subst ai;have h0:lc vt=0:=by omega
   obtain⟨s,B⟩:=h.shift (a2:=E ⟨Ra,o,O⟩) (T O 0 0) (.inl ⟨rfl,h0⟩);have G1:=AA s;have G2:=AA B;clear s B h j A y a1 h0 ht hr J C I ae;go_enter func235,ntmps235;go_upto_region 4 with fail
   rw[<-D];have a7:=AA D;clear D s0 r0 f0;go_wp2;go_ret;unfold OA;rw[a7.out,HT.out,a6.out];exact⟨a0,N,c0,_,_,_,vt,rfl,ac.out _,G1.out,G2.out,by omega⟩
  ·obtain⟨s,B⟩:=h.shift (a2:=E ⟨Ra,o+1,O⟩) (T O 0 0) (.inr rfl);have G1:=AA s;have G2:=AA B;clear s B h j A y a1 ht hr J C I;go_enter func235,ntmps235;go_upto_region 4 with fail
   rw[<-D];have a7:=AA D;clear D s0 r0 f0;go_wp2;go_ret;unfold OA;rw[a7.out,HT.out,a6.out];exact⟨a0,N,c0,_,_,_,vt,rfl,ac.out _,G1.out,G2.out,by omega⟩
 ·have d0:decide ((N:Int)<=Z)=M:=decide_eq_false I;obtain⟨k,rfl⟩:=Mb (show 0<=Z by omega);have ht:Dg (k:Int) x=x.take k:=by unfold Dg;rw[J,Lb I,Aa]
  have hr:GX (k:Int) x t=x.drop k::t:=by unfold GX;rw[J,Lb I,Aa]
  have HT:=AA ht;have a6:=AA hr;have ag:k<N:=by omega
  have ao:decide (N<=k)=M:=decide_eq_false om;obtain⟨g,H,rfl,_,_⟩:=j.1.2.resolve_left om;have aa:∀V,Bys V (E ⟨g,H,O⟩) N x->Bys V (E ⟨g,H+k,O⟩) (N-k) (x.drop k):=λV hV=>by have:=hV.cut (lo:=k) (m:=N-k) om;rw[Ap (by rw[List.length_drop,J];exact AC _),Dw,Cf]at this;exact this
  have a8:∀V,Bys V (E ⟨g,H,O⟩) N x->Bys V (E ⟨g,H,O⟩) k (x.take k):=λV hV=>by
   have:=hV.cut (lo:=0) (m:=k) om;rw[List.drop_zero]at this;have e:(E (⟨g,H,O⟩:Addr)).map (·.add 0)=E ⟨g,H,O⟩:=rfl
   rwa[e]at this
  have k0:(0:Int)<=(k:Int):=by omega
  have k1:(k:Int)<=(N:Int):=by omega
  have k2:k<=N:=by omega
  have k3:(k:Int)<=(c0:Int):=by omega
  have k4:k<=c0:=by omega
  have k5:¬c0=k:=by omega
  have ak:Hid (∀q,BY X S (E ⟨Ra,o,O⟩) (lc vt+1) c ((E ⟨g,H,O⟩,N,c0)::vt) (x::t) br told (w.drewN q)/\Bys (w.drewN q) (E ⟨g,H,O⟩) N x/\Bt w (w.drewN q)):=λq=>⟨h.keep (Y:=λ_=>False) (.of_same (AN w q)) λ_ _ _ h=>h,j.same (AC _) λ_ _ _=>rfl,AN w q⟩;have HF:Hid (∀V,BY X S (E ⟨Ra,o,O⟩) (lc vt+1) c ((E ⟨g,H,O⟩,N,c0)::vt) (x::t) br told V->Bys V (E ⟨g,H,O⟩) N x->BY X S (E ⟨Ra,o,O⟩) (lc vt+1) c ((E ⟨g,H+k,O⟩,N-k,c0-k)::vt) (x.drop k::t) br told (V.setCell ⟨Ra,o,O⟩ (T (E ⟨g,H+k,O⟩) (N-k) (c0-k)))/\Chg X V (V.setCell ⟨Ra,o,O⟩ (T (E ⟨g,H+k,O⟩) (N-k) (c0-k)))/\Bys (V.setCell ⟨Ra,o,O⟩ (T (E ⟨g,H+k,O⟩) (N-k) (c0-k))) (E ⟨g,H,O⟩) k (x.take k)):=λV hV hb=>by obtain⟨s,B⟩:=hV.trim (v2:=(E ⟨g,H+k,O⟩,N-k,c0-k)) (x2:=x.drop k) om (aa V hb) (by show N-k<=c0-k;omega) (λh0 q e=>⟨by show N≠0;omega,_,rfl,by cases AK e;rfl⟩);refine⟨s,B,a8 _ (hb.same (by simp[World.setCell]) λh0 q e=>?_)⟩;exact AQ V ⟨Ra,o,O⟩ _ _ (y q.block h0 ⟨q,e,rfl⟩).2
  clear h j A a1 ht hr J C I aa a8 y ag;go_enter func235,ntmps235;go_upto_region 6 with fail
  go_region
  go_wp2;go_ret;unfold OA;rw[HT.out,a6.out];obtain⟨h1,h2,h3⟩:=ak.out 1;obtain⟨s,B,g3⟩:=HF.out _ h1 h2;exact⟨E ⟨g,H,O⟩,k,c0,_,_,_,_,rfl,g3,s,(Chg.of_same h3).then B,AC _⟩
def BR(Z:Int):La->List Int
 |[]=>[]
 |x::_=>if Z<1 then [] else Dg Z x
def EB(Z:Int):La->La
 |[]=>[]
 |x::t=>if Z<1 then x::t else GX Z x t
theorem BY.told{X:Nat->Prop}{S n c told:Nat}{a:Option Addr}{J:List TVw}{rs:La}{br:Bool}{w:Wa}(h:BY X S a n c J rs br told w)(Z:Nat) :BY X S a n c J rs br Z (w.setCell ⟨S,2,O⟩ (R K (Z:Int)))/\Chg X w (w.setCell ⟨S,2,O⟩ (R K (Z:Int))):=by
 have hk:∀k,k≠S->(w.setCell ⟨S,2,O⟩ (R K (Z:Int))).heap[k]?=w.heap[k]?:=λk hk=>AQ w ⟨S,2,O⟩ _ k hk;refine⟨h.turn (by simp[World.setCell]) (AJ (i:=2) h.box _) (λk _ h1 _=>hk k h1) ⟨h.row.1,?_⟩ (λh0=>⟨h0,λq U=>?_⟩) h.len h.cap (λq U=>⟨q,U,rfl⟩) (λi v xs I V=>?_),(Chg.refl X w).set h.inX⟩
 ·by_cases h0:n=0
  ·exact .inl h0
  ·obtain⟨b,o,e,H,V⟩:=h.row.2.resolve_left h0;obtain⟨_,Y,_⟩:=h.rowB h0 _ e;refine .inr ⟨b,o,e,by simpa[World.setCell]using H,λi x D=>?_⟩;rw[BC (a:=⟨b,o+i,O⟩) (hk b Y)];exact V i x D
 ·obtain⟨_,Y,N,C⟩:=h.rowB h0 q U;exact⟨⟨q,U,rfl⟩,N,(hk _ Y).trans C⟩
 ·obtain⟨A,B,y⟩:=h.el i v xs I V;exact⟨i,v,xs,I,V,A,B,λh0 q e=>⟨h0,q,e,rfl⟩⟩
def anM(X:Nat->Prop)(S told n:Nat)(rs:La)(br:Bool)(Z:Int)(w:Wa)(e:Ending)(w':Wa):Prop:=
 ∃(v:Vh)(a2:Option Addr)(V c2:Nat)(Y:List TVw),e=ra (ta #[v,i6 rs.isEmpty])/\Ch w' w.heap.size v (BR Z rs).length (BR Z rs)/\(∀x∈BR Z rs,0<=x/\x<=255)/\BY X S a2 V c2 Y (EB Z rs) br (told+(BR Z rs).length) w'/\Chg X w w'/\V<=n
theorem age{X:Nat->Prop}{S n c told:Nat}{a:Option Addr}{vs:List TVw}{rs:La}{br:Bool}(Z:Int)(w:Wa)(h:BY X S a n c vs rs br told w)(hn:n<=1000000)(hl:∀x∈rs,lc x<=1000000)(ht:told<=1000000000) :Calls ZP 192 #[L (E ⟨S,0,O⟩),R K Z] w (anM X S told n rs br Z w):=by
 have H:=ahB w h;have HH:=AA h
 cases rs with
 |nil=>
  have h0:n=0:=by have h1:=h.len;have h2:=h.row.1;simp at h1;rw[h1]at h2;exact h2.symm
  rw[Lz h0]at H;have HE:=AA H;clear h H h0;go_enter func192,ntmps192
  go_wp2_with (go_at_call 234;refine HE.out.mono ?_;rintro e j ⟨rfl,rfl⟩)
  go_ret2;exact⟨_,_,_,_,_,rfl,BN _ _ _ _,(by intro x hx;simp[BR]at hx),HH.out,Chg.refl _ _,AC _⟩
 |cons x t=>
  have h0:n≠0:=by have h1:=h.len;have h2:=h.row.1;simp at h1;omega
  rw[decide_eq_false h0]at H;have HE:=AA H;have ad:=AA h0;clear h H h0
  by_cases J:Z<1
  ·have d0:decide (Z<1)=G:=Lz J;have A:BR Z (x::t)=[]:=Lc J;have e2:EB Z (x::t)=x::t:=Lc J;have V:=AA (Lq A e2);clear A e2 J;go_enter func192,ntmps192
   go_wp2_with (go_at_call 234;refine HE.out.mono ?_;rintro e j ⟨rfl,rfl⟩)
   go_ret2;unfold anM;rw[V.out.1,V.out.2];exact⟨_,_,_,_,_,rfl,BN _ _ _ _,(by intro x hx;simp[BR]at hx),HH.out,Chg.refl _ _,AC _⟩
  ·have d0:decide (Z<1)=M:=decide_eq_false J;have A:BR Z (x::t)=Dg Z x:=Lb J;have e2:EB Z (x::t)=GX Z x t:=Lb J;have V:=AA (Lq A e2);have HC:=AA (ai2 Z w HH.out om hn);have D:(Dg Z x).length<=1000000:=by
    have:=hl x sm;unfold Dg
    split
    ·exact this
    ·rw[Ag];omega
   have y:=AA D;clear A e2 J D;go_enter func192,ntmps192;go_upto_region 5 with(go_at_call 234;refine HE.out.mono ?_;rintro e j ⟨rfl,rfl⟩)
   go_wp2_with fail
   refine HC.out.mono ?_;rintro e j ⟨b',I,c',a2,n2,c2,a1,rfl,N,hs,hc,B⟩;have C:(Dg Z x).length=I:=N.1.1;have aa:=AA (acP b' I c' ((Dg Z x).map (Value.int .u8)) j (Jz N.1) (λu hu=>by obtain⟨x,_,rfl⟩:=Be.1 hu;rfl) (by have:=y.out;omega));have ab:=AA N;have HS:=AA hs;have v:=AA hc;have a8:=AA B;have HM:=AA C;clear N hs hc B C
   go_wp2_with fail
   refine aa.out.mono ?_;rintro e s ⟨v2,rfl,ho,hb⟩;obtain⟨b2,k2,a6,_,_⟩:=SlK.own ho;subst a6;have U:BY X S a2 n2 c2 a1 (GX Z x t) br told s:=HS.out.keep (Y:=λ_=>False) (.of_same hb) λ_ _ _ h=>h;have ac:I<=1000000:=by have:=y.out;have:=HM.out;omega
   have s2:s.cell? ⟨S,2,O⟩=E (R K (told:Int)):=by simp[cell?,U.box]
   have f2:s.frozen? ⟨S,2,O⟩=M:=by simp[frozen?,U.box]
   have hw:IntKind.i64.wrap ((told:Int)+(I:Int))=((told+I:Nat):Int):=by rw[BK];omega
   obtain⟨Ta,hT⟩:∃Ta,told+I=Ta:=⟨_,rfl⟩;rw[hT]at hw;obtain⟨g1,g2⟩:=U.told Ta;have G1:=AA g1;have G2:=AA (v.out.same hb |>.then g2);have HO:=AA ho;have HB:=AA hb;have HT:=AA hT;have a7:Hid (∀g,(T b2 I k2).ownBlock=E g->g≠S):=λg e=>by have h1:=(Gw ho g e).1;have h2:=(AD.1 HS.out.box).1;omega
   clear ho hb U g1 g2 hT;go_wp2;go_ret2;unfold anM;rw[V.out.1,V.out.2,HM.out,HT.out];refine⟨_,_,_,_,_,rfl,?_,ab.out.2,G1.out,G2.out,a8.out⟩;refine NC (Fu HO.out λg e=>?_) v.out.size;exact AQ s ⟨S,2,O⟩ _ g (a7.out g e)
def NM(p:AF):List Vh:=[R K p.1,R K p.2]
def CJ(l:List AF):List Vh:=l.flatMap NM
theorem Lh(p:AF)(l:List AF):CJ (p::l)=NM p++CJ l:=by simp[CJ]
theorem agi(l:List AF):(CJ l).length=lc l*2:=by
 induction l with
 |nil=>rfl
 |cons p l ih=>
  rw[Lh,List.length_append,ih,Ao];show 2+lc l*2=_;omega
theorem NO:∀{l:List AF}{i:Nat}{p:AF},l[i]?=E p->(CJ l)[i*2]?=E (R K p.1)/\(CJ l)[i*2+1]?=E (R K p.2)
 |[],i,p,h=>by simp at h
 |q::l,0,p,h=>by
  cases AK h
  exact⟨rfl,rfl⟩
 |q::l,i+1,p,h=>by have:=NO (l:=l) (i:=i) (p:=p) (by simpa using h);rw[Lh,show(i+1)*2=i*2+1+1 by omega];exact this
theorem agv:∀(l:List AF)(i:Nat)(p:AF),CJ (l.set i p)=((CJ l).set (i*2) (R K p.1)).set (i*2+1) (R K p.2)
 |[],i,p=>by simp[CJ]
 |q::l,0,p=>by simp[Lh,NM]
 |q::l,i+1,p=>by
  have:=agv l i p;rw[List.set_cons_succ,Lh,Lh,this,show(i+1)*2=i*2+1+1 by omega]
  rfl
structure AY(X:Nat->Prop)(Q B first many:Nat)(closed:Bool)(ps:List AF)(w:World):Prop where
 box:w.heap[Q]?=some (.cells #[T (some ⟨B,0,none⟩) ps.length ps.length,R K (first:Int),R K (many:Int),i6 closed] 205 (0,0))
 places:w.heap[B]?=some (.cells (CJ ps).toArray 116 (0,0))
 inX:X Q/\X B
 ne:Q≠B
 room:1<=ps.length/\ps.length<=16/\first<ps.length/\many<=ps.length
section
variable {X Y:Nat->Prop}{Q B first many:Nat}{closed:Bool}{ps:List AF}{w w':Wa}
theorem AY.keep(h:AY X Q B first many closed ps w)(N:Chg Y w w')(U:∀k,k<w.heap.size->X k->¬Y k):AY X Q B first many closed ps w':=by have Z:∀k o,w.heap[k]?=E o->X k->w'.heap[k]?=E o:=λk o hk V=>(N.block k (AD.1 hk).1 (U k (AD.1 hk).1 V)).trans hk;exact⟨Z _ _ h.box h.inX.1,Z _ _ h.places h.inX.2,h.inX,h.ne,h.room⟩
theorem AY.below(h:AY X Q B first many closed ps w)(Z:Bt w w'):AY X Q B first many closed ps w':=h.keep (Y:=λ_=>False) (.of_same Z) λ_ _ _ h=>h
theorem AY.wide(h:AY X Q B first many closed ps w)(Z:∀k,k<w.heap.size->X k->Y k):AY Y Q B first many closed ps w:=⟨h.box,h.places,⟨Z _ (AD.1 h.box).1 h.inX.1,Z _ (AD.1 h.places).1 h.inX.2⟩,h.ne,h.room⟩
def AY.putW(w:Wa)(B i:Nat)(p:AF):Wa:=(w.setCell ⟨B,i*2,O⟩ (R K p.1)).setCell ⟨B,i*2+1,O⟩ (R K p.2)
theorem AY.setP(h:AY X Q B first many closed ps w)(i:Nat)(p:AF):AY X Q B first many closed (ps.set i p) (AY.putW w B i p)/\Chg X w (AY.putW w B i p):=by
 have h0:=h.places;have h1:=AJ (i:=i*2) h0 (R K p.1);have h2:=AJ (i:=i*2+1) h1 (R K p.2);rw[Fp,Fp,<-agv]at h2;have Z:Chg (λk=>k=B) w (AY.putW w B i p):=by unfold AY.putW;exact((Chg.refl (λk=>k=B) w).set (show B=B from rfl)).set (show B=B from rfl)
 have V:(AY.putW w B i p).heap[Q]?=w.heap[Q]?:=Z.block Q (AD.1 h.box).1 h.ne;exact⟨⟨by rw[BG];exact V.trans h.box,h2,h.inX,h.ne,by rw[BG];exact h.room⟩,Z.mono λk _ e=>by rw[e];exact h.inX.2⟩
theorem AY.setM(h:AY X Q B first many closed ps w)(Z:Nat)(V:Z<=lc ps):AY X Q B first Z closed ps (w.setCell ⟨Q,2,O⟩ (R K (Z:Int)))/\Chg X w (w.setCell ⟨Q,2,O⟩ (R K (Z:Int))):=⟨⟨AJ (i:=2) h.box _,(AQ w ⟨Q,2,O⟩ _ B h.ne.symm).trans h.places,h.inX,h.ne,h.room.1,h.room.2.1,h.room.2.2.1,V⟩,(Chg.refl X w).set h.inX.1⟩
theorem AY.setF(h:AY X Q B first many closed ps w)(Z:Nat)(V:Z<lc ps):AY X Q B Z many closed ps (w.setCell ⟨Q,1,O⟩ (R K (Z:Int)))/\Chg X w (w.setCell ⟨Q,1,O⟩ (R K (Z:Int))):=⟨⟨AJ (i:=1) h.box _,(AQ w ⟨Q,1,O⟩ _ B h.ne.symm).trans h.places,h.inX,h.ne,h.room.1,h.room.2.1,V,h.room.2.2.2⟩,(Chg.refl X w).set h.inX.1⟩
theorem AY.setC(h:AY X Q B first many closed ps w)(c2:Bool):AY X Q B first many c2 ps (w.setCell ⟨Q,3,O⟩ (i6 c2))/\Chg X w (w.setCell ⟨Q,3,O⟩ (i6 c2)):=⟨⟨AJ (i:=3) h.box _,(AQ w ⟨Q,3,O⟩ _ B h.ne.symm).trans h.places,h.inX,h.ne,h.room⟩,(Chg.refl X w).set h.inX.1⟩
end
theorem aec{X:Nat->Prop}{Q B first many:Nat}{closed:Bool}{ps:List AF}(w:Wa)(h:AY X Q B first many closed ps w) :Calls ZP 246 #[L (E ⟨Q,0,O⟩)] w λe w'=>e=ra (R K ((lc ps-many:Nat):Int))/\Bt w w':=by
 have c0:w.cell? ⟨Q,0,O⟩=E (T (E ⟨B,0,O⟩) (lc ps) (lc ps)):=by simp[cell?,h.box]
 have c2:w.cell? ⟨Q,2,O⟩=E (R K (many:Int)):=by simp[cell?,h.box]
 have J:=AA (λq=>AN w q);have N:=h.room;have U:IntKind.i64.wrap ((lc ps:Int)-(many:Int))=((lc ps-many:Nat):Int):=by rw[BK];omega
 obtain⟨LO,V⟩:∃LO,lc ps=LO:=⟨_,rfl⟩;rw[V]at c0 U⊢;obtain⟨My,Z⟩:∃My,LO-many=My:=⟨_,rfl⟩;rw[Z]at U⊢;clear h N V Z;go_enter func246,ntmps246;go_upto_region 1 with fail
 go_big_quiet (fail)
 go_wp2;go_ret;exact⟨rfl,J.out _⟩
theorem ag5{X:Nat->Prop}{Q B first many:Nat}{closed:Bool}{ps:List AF}(w:Wa)(h:AY X Q B first many closed ps w) :Calls ZP 72 #[L (E ⟨Q,0,O⟩)] w λe w'=>e=ra (i6 closed)/\Bt w w':=by
 have c0:w.cell? ⟨Q,3,O⟩=E (i6 closed):=by simp[cell?,h.box]
 clear h;go_enter func72,ntmps72;go_wp2;go_ret;exact⟨rfl,AH _ _⟩
theorem aml{X:Nat->Prop}{Q B first many:Nat}{closed:Bool}{ps:List AF}(w:Wa)(h:AY X Q B first many closed ps w) :Calls ZP 68 #[L (E ⟨Q,0,O⟩)] w λe w'=>e=ra (R K (many:Int))/\Bt w w':=by
 have c0:w.cell? ⟨Q,2,O⟩=E (R K (many:Int)):=by simp[cell?,h.box]
 clear h;go_enter func68,ntmps68;go_wp2;go_ret;exact⟨rfl,AH _ _⟩
theorem ajo{X:Nat->Prop}{Q B first many:Nat}{closed:Bool}{ps:List AF}(w:Wa)(h:AY X Q B first many closed ps w) :Calls ZP 205 #[L (E ⟨Q,0,O⟩)] w λe w'=>e=ra (R K ((lc ps-many:Nat):Int))/\Bt w w':=by
 have V:=AA (aec w h);clear h;go_enter func205,ntmps205
 go_wp2_with (go_at_call 246;refine V.out.mono ?_;rintro e N ⟨rfl,Z⟩;have U:=AA Z;clear Z)
 go_ret;exact⟨rfl,U.out⟩
theorem ahp{X:Nat->Prop}{Q B first many:Nat}{closed:Bool}{ps:List AF}(w:Wa)(h:AY X Q B first many closed ps w) :Calls ZP 245 #[L (E ⟨Q,0,O⟩)] w λe w'=>e=ra (i6 (!closed))/\AY X Q B first many G ps w'/\Chg X w w':=by
 have c3:w.cell? ⟨Q,3,O⟩=E (i6 closed):=by simp[cell?,h.box]
 have I:w.frozen? ⟨Q,3,O⟩=M:=by simp[frozen?,h.box]
 obtain⟨V,Z⟩:=h.setC G;have J:=AA V;have N:=AA Z;have U:=AA h;clear h V Z
 cases closed with
 |true=>
  go_enter func245,ntmps245;go_wp2;go_ret;exact⟨rfl,U.out,Chg.refl _ _⟩
 |false=>
  go_enter func245,ntmps245;go_wp2;go_ret;exact⟨rfl,J.out,N.out⟩
theorem ak7{X:Nat->Prop}{Q B first many:Nat}{closed:Bool}{ps:List AF}(p:AF)(w:Wa)(h:AY X Q B first many closed ps w)(hm:many<lc ps) :Calls ZP 247 #[L (E ⟨Q,0,O⟩),i8 #[R K p.1,R K p.2]] w λe w'=>(∃v,e=ra v)/\AY X Q B first (many+1) closed (ps.set ((first+many) % lc ps) p) w'/\Chg X w w':=by
 obtain⟨W,hW⟩:∃W,W=w.alloc (i7 #[R K p.1,R K p.2] 116):=⟨_,rfl⟩;have hB:Bt w W:=by rw[hW];exact AL _ _
 have Z:=h.below hB;have D:W.heap[w.heap.size]?=E (i7 #[R K p.1,R K p.2] 116 (0,0)):=by rw[hW];exact AT _ _
 have x0:W.cell? ⟨w.heap.size,0,O⟩=E (R K p.1):=by simp[cell?,D]
 have x1:W.cell? ⟨w.heap.size,1,O⟩=E (R K p.2):=by simp[cell?,D]
 have c0:W.cell? ⟨Q,0,O⟩=E (T (E ⟨B,0,O⟩) (lc ps) (lc ps)):=by simp[cell?,Z.box]
 have c1:W.cell? ⟨Q,1,O⟩=E (R K (first:Int)):=by simp[cell?,Z.box]
 have c2:W.cell? ⟨Q,2,O⟩=E (R K (many:Int)):=by simp[cell?,Z.box]
 obtain⟨r1,r2,r3,r4⟩:=h.room;obtain⟨LO,hL⟩:∃LO,lc ps=LO:=⟨_,rfl⟩;have e1:IntKind.i64.wrap ((first:Int)+(many:Int))=((first+many:Nat):Int):=by rw[BK];omega
 have e2:((first+many:Nat):Int).tmod (LO:Int)=(((first+many) % LO:Nat):Int):=by rw[Jq om];simp
 have N:(first+many) % LO<LO:=Ek _ om;obtain⟨s,y⟩:∃s,first+many=s:=⟨_,rfl⟩;obtain⟨i,hi⟩:∃i,s % LO=i:=⟨_,rfl⟩;rw[hL]at c0⊢;rw[y]at e1 e2 N⊢;rw[hi]at e2 N⊢;have i0:(0:Int)<=(i:Int):=by omega
 have i1:(i:Int)<(LO:Int):=by omega
 have z0:¬(LO:Int)=0:=by omega
 have z1:¬LO=0:=by omega
 obtain⟨q,j⟩:∃q,ps[i]?=E q:=⟨_,Ar om⟩;obtain⟨A,C⟩:=NO j;have d0:W.cell? ⟨B,i*2,O⟩=E (R K q.1):=by simp[cell?,Z.places];exact A
 have f0:W.frozen? ⟨B,i*2,O⟩=M:=by simp[frozen?,Z.places]
 have d1:W.cell? ⟨B,i*2+1,O⟩=E (R K q.2):=by simp[cell?,Z.places];exact C
 have f1:W.frozen? ⟨B,i*2+1,O⟩=M:=by simp[frozen?,Z.places]
 have I:AY X Q B first many closed ps W.drew:=Z.below (AN W 1);obtain⟨U,H⟩:=I.setP i p;obtain⟨V,J⟩:∃V,V=(AY.putW W B i p).drew:=⟨_,rfl⟩;have U:AY X Q B first many closed (ps.set i p) V:=by rw[J];exact U
 have H:Chg X W V:=by rw[J];exact(Chg.of_same (AN W 1)).then H
 have k2:V.cell? ⟨Q,2,O⟩=E (R K (many:Int)):=by simp[cell?,U.box]
 have l2:V.frozen? ⟨Q,2,O⟩=M:=by simp[frozen?,U.box]
 have ew:IntKind.i64.wrap ((many:Int)+1)=(many:Int)+1:=by rw[BK];omega
 obtain⟨s1,s2⟩:=U.setM (many+1) (by rw[BG];omega);have S1:=AA s1;have S2:=AA (((Chg.of_same hB).then H).then s2);unfold AY.putW at J;clear h Z D hL y hi j A C I U H s1 s2 r1 r2 r3 r4 hB;go_enter func247,ntmps247;go_upto_region 1 with fail
 rw[<-hW];clear hW
 go_region
 rw[<-J];clear J c0 c1 c2 d0 f0 x0 d1 f1 x1;go_wp2
 go_end0
 exact⟨⟨_,rfl⟩,S1.out,S2.out⟩
abbrev ByX(X:Nat->Prop)(w:Wa)(v:Vh)(xs:List Int):Prop:=CO X w 5 1 v (lc xs) (xs.map (Value.int .u8))
structure BB(X:Nat->Prop)(lab:Nat->Nat)(B U D:Nat)(fv:Value)(dv:List Value)(size:Nat)(fr:List Int)(us:List Bool)(ds:La)(w:World):Prop where
 box:w.heap[B]?=some (.cells #[fv,R K (size:Int),T (some ⟨U,0,none⟩) us.length us.length,T (some ⟨D,0,none⟩) us.length us.length] 210 (0,0))
 used:w.heap[U]?=some (.cells (us.map i6).toArray 4 (0,0))
 data:w.heap[D]?=some (.cells dv.toArray 32 (0,0))
 inX:X B/\X U/\X D
 labs:lab B=1/\lab U=2/\lab D=3
 free:CO X w 3 1 fv fr.length (fr.map (R K))/\∀g,fv.ownBlock=some g->lab g=4
 dl:dv.length=us.length/\ds.length=us.length
 rows:∀(i:Nat)(v:Value)(xs:List Int),dv[i]?=some v->ds[i]?=some xs->ByX X w v xs/\∀g,v.ownBlock=some g->lab g=5+i
section
variable {X Y:Nat->Prop}{lab:Nat->Nat}{B U D size:Nat}{fv:Vh}{dv:List Vh}{fr:List Int}{us:List Bool}{ds:La}{w w':Wa}
theorem BB.keep(h:BB X lab B U D fv dv size fr us ds w)(J:Chg Y w w')(N:∀k,k<w.heap.size->X k->¬Y k):BB X lab B U D fv dv size fr us ds w':=by have I:∀k o,w.heap[k]?=E o->X k->w'.heap[k]?=E o:=λk o hk V=>(J.block k (AD.1 hk).1 (N k (AD.1 hk).1 V)).trans hk;refine⟨I _ _ h.box h.inX.1,I _ _ h.used h.inX.2.1,I _ _ h.data h.inX.2.2,h.inX,h.labs,⟨h.free.1.keep J λg Z=>N g (h.free.1.lt g Z) (h.free.1.2 g Z),h.free.2⟩,h.dl,λi v xs C V=>?_⟩;obtain⟨H,A⟩:=h.rows i v xs C V;exact⟨H.keep J λg Z=>N g (H.lt g Z) (H.2 g Z),A⟩
theorem BB.wide(h:BB X lab B U D fv dv size fr us ds w)(Z:∀k,k<w.heap.size->X k->Y k):BB Y lab B U D fv dv size fr us ds w:=by refine⟨h.box,h.used,h.data,⟨Z _ (AD.1 h.box).1 h.inX.1,Z _ (AD.1 h.used).1 h.inX.2.1,Z _ (AD.1 h.data).1 h.inX.2.2⟩,h.labs,⟨h.free.1.wide Z,h.free.2⟩,h.dl,λi v xs N V=>?_⟩;obtain⟨I,J⟩:=h.rows i v xs N V;exact⟨I.wide Z,J⟩
theorem BB.setU(h:BB X lab B U D fv dv size fr us ds w)(n:Nat)(b:Bool):BB X lab B U D fv dv size fr (us.set n b) ds (w.setCell ⟨U,n,O⟩ (i6 b))/\Chg X w (w.setCell ⟨U,n,O⟩ (i6 b)):=by
 obtain⟨y,Z,A⟩:=h.labs;have hk:∀k,lab k≠2->(w.setCell ⟨U,n,O⟩ (i6 b)).heap[k]?=w.heap[k]?:=λk hk=>AQ w ⟨U,n,O⟩ _ k λe=>hk (by rw[e];exact Z);have N:Chg (λk=>k=U) w (w.setCell ⟨U,n,O⟩ (i6 b)):=(Chg.refl _ w).set rfl;refine⟨⟨?_,?_,(hk D om).trans h.data,h.inX,h.labs,⟨h.free.1.keep N λg V e=>?_,h.free.2⟩,by rw[BG];exact h.dl,λi v xs H I=>?_⟩,(Chg.refl X w).set h.inX.2.1⟩
 ·rw[BG];exact(hk B om).trans h.box
 ·have:=AJ (i:=n) h.used (i6 b);rw[Fp]at this;rw[Is];exact this
 ·have:=h.free.2 g V;rw[e,Z]at this;omega
 ·obtain⟨C,J⟩:=h.rows i v xs H I;refine⟨C.keep N λg V e=>?_,J⟩;have:=J g V;rw[e,Z]at this;omega
theorem BB.setD(h:BB X lab B U D fv dv size fr us ds w)(n:Nat){v v':Vh}{xs':List Int}{V:Wa}(hv:dv[n]?=E v)(hr:V.ownsRow 0 5 1 v' (lc xs') (xs'.map (Value.int .u8)))(hg:Chg (λk=>v.ownBlock=E k) w V)(H:∀g,v'.ownBlock=E g->v.ownBlock=E g∨w.heap.size<=g) :BB (λk=>X k∨w.heap.size<=k) (λk=>if w.heap.size<=k then 5+n else lab k) B U D fv (dv.set n v') size fr us (ds.set n xs') (V.setCell ⟨D,n,O⟩ v')/\Chg X w (V.setCell ⟨D,n,O⟩ v')/\V.frozen? ⟨D,n,O⟩=M/\(∃u,V.cell? ⟨D,n,O⟩=E u):=by
 obtain⟨l1,l2,l3⟩:=h.labs;have aa:n<lc dv:=(AP.1 hv).1;have A:n<lc ds:=by have:=h.dl;omega
 obtain⟨x0,a7⟩:∃x,ds[n]?=E x:=⟨ds[n],Ar A⟩;obtain⟨r1,r2⟩:=h.rows n v x0 hv a7;have a6:=(AD.1 h.box).1;have a1:=(AD.1 h.used).1;have a2:=(AD.1 h.data).1;have j:∀k,k<w.heap.size->lab k≠5+n->V.heap[k]?=w.heap[k]?:=λk hk hl=>hg.block k hk λe=>hl (r2 k e);have C:V.heap[D]?=E (i7 dv.toArray 32 (0,0)):=(j D a2 om).trans h.data;have hk:∀k,k≠D->(V.setCell ⟨D,n,O⟩ v').heap[k]?=V.heap[k]?:=λk hk=>AQ V ⟨D,n,O⟩ _ k hk;have I:∀k,k<w.heap.size->lab k≠5+n->lab k≠3->(V.setCell ⟨D,n,O⟩ v').heap[k]?=w.heap[k]?:=λk h1 h2 h3=>(hk k λe=>h3 (by rw[e];exact l3)).trans (j k h1 h2);have N:∀k,k<w.heap.size->(if w.heap.size<=k then 5+n else lab k)=lab k:=λk hk=>Lb om;have s:Chg (λk=>lab k=5+n∨lab k=3) w (V.setCell ⟨D,n,O⟩ v'):=(hg.mono λk _ e=>.inl (r2 k e)).set (.inr l3);refine⟨⟨(I B a6 om om).trans h.box,(I U a1 om om).trans h.used,?_,⟨.inl h.inX.1,.inl h.inX.2.1,.inl h.inX.2.2⟩,⟨by rw[N B a6];exact l1,by rw[N U a1];exact l2,by rw[N D a2];exact l3⟩,⟨(h.free.1.keep s λg Z e=>?_).wide λk _ J=>.inl J,λg Z=>?_⟩,by rw[BG,BG];exact h.dl,λi u xs hu J=>?_⟩,?_,?_,?_⟩
 ·have:=AJ (i:=n) C v'
  rwa[Fp]at this
 ·have:=h.free.2 g Z;omega
 ·rw[N g (h.free.1.lt g Z)];exact h.free.2 g Z
 ·by_cases y:i=n
  ·subst y;rw[FU aa]at hu;rw[FU A]at J
   cases AK hu
   cases AK J
   have a8:v'.ownBlock≠E D:=λe=>by
    rcases H D e with e2|e2
    ·have:=r2 D e2;omega
    ·omega
   refine⟨⟨Fu hr λg Z=>hk g λe=>a8 (by rw[<-e];exact Z),λg Z=>?_⟩,λg Z=>?_⟩
   ·rcases H g Z with e|e
    ·exact .inl (r1.2 g e)
    ·exact .inr e
   ·rcases H g Z with e|e
    ·rw[N g (r1.lt g e)];exact r2 g e
    ·exact Lc e
  ·rw[FH (λe=>y e.symm)]at hu J;obtain⟨g1,g2⟩:=h.rows i u xs hu J;refine⟨(g1.keep s λg Z e=>?_).wide λk _ J=>.inl J,λg Z=>?_⟩
   ·have:=g2 g Z;omega
   ·rw[N g (g1.lt g Z)];exact g2 g Z
 ·exact(hg.mono λk _ e=>r1.2 k e).set h.inX.2.2
 ·simp[frozen?,C]
 ·exact⟨v,by simp[cell?,C];exact hv⟩
theorem BB.setF(h:BB X lab B U D fv dv size fr us ds w){fv':Vh}{fr':List Int}{V:Wa}(hr:V.ownsRow 0 3 1 fv' (lc fr') (fr'.map (R K)))(hg:Chg (λk=>fv.ownBlock=E k) w V)(I:∀g,fv'.ownBlock=E g->fv.ownBlock=E g∨w.heap.size<=g) :BB (λk=>X k∨w.heap.size<=k) (λk=>if w.heap.size<=k then 4 else lab k) B U D fv' dv size fr' us ds (V.setCell ⟨B,0,O⟩ fv')/\Chg X w (V.setCell ⟨B,0,O⟩ fv')/\V.frozen? ⟨B,0,O⟩=M/\(∃u,V.cell? ⟨B,0,O⟩=E u):=by
 obtain⟨s,l2,l3⟩:=h.labs;have v:=(AD.1 h.box).1;have A:=(AD.1 h.used).1;have y:=(AD.1 h.data).1;have C:∀k,k<w.heap.size->lab k≠4->V.heap[k]?=w.heap[k]?:=λk hk hl=>hg.block k hk λe=>hl (h.free.2 k e);have H:=(C B v om).trans h.box;have hk:∀k,k≠B->(V.setCell ⟨B,0,O⟩ fv').heap[k]?=V.heap[k]?:=λk hk=>AQ V ⟨B,0,O⟩ _ k hk;have J:∀k,k<w.heap.size->lab k≠4->lab k≠1->(V.setCell ⟨B,0,O⟩ fv').heap[k]?=w.heap[k]?:=λk h1 h2 h3=>(hk k λe=>h3 (by rw[e];exact s)).trans (C k h1 h2);have N:∀k,k<w.heap.size->(if w.heap.size<=k then 4 else lab k)=lab k:=λk hk=>Lb om;have a2:Chg (λk=>lab k=4∨lab k=1) w (V.setCell ⟨B,0,O⟩ fv'):=(hg.mono λk _ e=>.inl (h.free.2 k e)).set (.inr s);have a1:fv'.ownBlock≠E B:=λe=>by
  rcases I B e with e2|e2
  ·have:=h.free.2 B e2;omega
  ·omega
 refine⟨⟨AJ (i:=0) H fv',(J U A om om).trans h.used,(J D y om om).trans h.data,⟨.inl h.inX.1,.inl h.inX.2.1,.inl h.inX.2.2⟩,⟨by rw[N B v];exact s,by rw[N U A];exact l2,by rw[N D y];exact l3⟩,⟨⟨Fu hr λg Z=>hk g λe=>a1 (by rw[<-e];exact Z),λg Z=>?_⟩,λg Z=>?_⟩,h.dl,λi u xs hu j=>?_⟩,?_,?_,?_⟩
 ·rcases I g Z with e|e
  ·exact .inl (h.free.1.2 g e)
  ·exact .inr e
 ·rcases I g Z with e|e
  ·rw[N g (h.free.1.lt g e)];exact h.free.2 g e
  ·exact Lc e
 ·obtain⟨g1,g2⟩:=h.rows i u xs hu j;refine⟨(g1.keep a2 λg Z e=>?_).wide λk _ j=>.inl j,λg Z=>?_⟩
  ·have:=g2 g Z;omega
  ·rw[N g (g1.lt g Z)];exact g2 g Z
 ·exact(hg.mono λk _ e=>h.free.1.2 k e).set h.inX.1
 ·simp[frozen?,H]
 ·exact⟨fv,by simp[cell?,H]⟩
end
theorem adY:(ZP.info? 3).map (λi=>(i.zero,i.size,i.bytes))=E (E (R K 0),1,8):=by kernel_rfl
def Cr(us:List Bool)(n:Int):Bool:=decide (0<=n)&&us.getD n.toNat M
theorem aaR{X:Nat->Prop}{J:Nat->Nat}{B U D size:Nat}{C:Vh}{A:List Vh}{fr:List Int}{us:List Bool}{ds:La}(n:Int)(w:Wa)(h:BB X J B U D C A size fr us ds w) :Calls ZP 233 #[L (E ⟨B,0,O⟩),R K n] w λe w'=>e=ra (i6 (Cr us n))/\Bt w w':=by
 have c2:w.cell? ⟨B,2,O⟩=E (T (E ⟨U,0,O⟩) (lc us) (lc us)):=by simp[cell?,h.box]
 have HD:=AA (λq=>AN w q)
 by_cases h0:0<=n
 ·obtain⟨k,rfl⟩:=Mb h0;have s:decide ((k:Int)>=0)=G:=by simp
  have V:decide ((0:Int)<=(k:Int))=G:=by simp
  by_cases Y:k<lc us
  ·have v:decide ((k:Int)<(lc us:Int))=G:=by simp;omega
   have I:decide (k<lc us)=G:=by simp;omega
   have N:us[k]?=E us[k]:=Ar Y;obtain⟨y,H⟩:∃y,us[k]=y:=⟨_,rfl⟩;rw[H]at N;have j:w.cell? ⟨U,k,O⟩=E (i6 y):=by simp[cell?,h.used,N]
   have Z:Cr us (k:Int)=y:=by unfold Cr;rw[Aa,DZ,N];simp
   have i0:(0:Int)<=(k:Int):=by omega
   have i1:(k:Int)<(lc us:Int):=by omega
   rw[Z];clear h Z N H h0 Y;go_enter func233,ntmps233;go_wp2;go_ret;exact⟨rfl,AH _ _⟩
  ·have v:decide ((k:Int)<(lc us:Int))=M:=by simp;omega
   have I:decide (k<lc us)=M:=by simp;omega
   have Z:Cr us (k:Int)=M:=by unfold Cr;rw[Aa,DZ,GT om];simp
   rw[Z];clear h Z h0 Y;go_enter func233,ntmps233;go_wp2;go_ret;exact⟨rfl,AH _ _⟩
 ·have s:decide (n>=0)=M:=by simp;omega
  have V:decide (0<=n)=M:=by simp;omega
  have Z:Cr us n=M:=by unfold Cr;rw[V];rfl
  rw[Z];clear h Z h0;go_enter func233,ntmps233;go_wp2;go_ret;exact⟨rfl,AH _ _⟩
theorem an8{w:Wa}{e:TypeId}{a:Option Addr}{n c:Nat}{xs:List Vh}{x:Vh}(h:w.ownsRow 0 e 1 (T a (n+1) c) (n+1) (xs++[x])):w.ownsRow 0 e 1 (T a n c) n xs/\∃g,a=E ⟨g,0,O⟩/\w.cell? ⟨g,n,O⟩=E x:=by
 have Y:lc xs=n:=by have:=h.1;simp at this;omega
 rcases h.2 with⟨_,h0⟩|⟨g,cap,Z,X,h1,h2,h3,h4,h5,h6⟩
 ·omega
 ·cases X
  refine⟨⟨by omega,.inr ⟨g,c,Z,rfl,h1,h2,by omega,h4,h5,?_⟩⟩,g,rfl,?_⟩
  ·have:=congrArg (List.take (n*1)) h6;rw[List.take_take,Nat.min_eq_left om,List.take_left' om]at this;exact this
  ·simp only[cell?,h2];have:Z[n]?=E x:=by
    have:=congrArg (λl=>l[n]?) h6;rw[FT,Lc om,DY om,Y,FG]at this
    simpa using this
   simpa using this
def api(X:Nat->Prop)(Y:Nat->Nat)(B U D size:Nat)(V:List Vh)(fr:List Int)(us:List Bool)(ds:La)(w:Wa)(e:Ending)(w':Wa):Prop:=
 e=ra (ta #[R K (fr.getLast?.getD 0),i6 (!fr.isEmpty)])/\(∃fv' Z,BB (λk=>X k∨w.heap.size<=k) Z B U D fv' V size fr.dropLast us ds w')/\Chg X w w'
theorem aig{X:Nat->Prop}{N:Nat->Nat}{B U D size:Nat}{fv:Vh}{s:List Vh}{fr:List Int}{us:List Bool}{ds:La}(w:Wa)(h:BB X N B U D fv s size fr us ds w)(I:lc fr<=1000000) :Calls ZP 232 #[L (E ⟨B,0,O⟩)] w (api X N B U D size s fr us ds w):=by
 obtain⟨a,c,rfl,J,_⟩:=SlK.own h.free.1.1;have c0:w.cell? ⟨B,0,O⟩=E (T a (lc fr) c):=by simp[cell?,h.box]
 have HH:=AA h
 rcases List.eq_nil_or_concat fr with rfl|⟨l,x,rfl⟩
 ·clear h I;go_enter func232,ntmps232;go_wp2;go_ret2;exact⟨rfl,⟨_,N,HH.out.wide λ_ _ hx=>.inl hx⟩,Chg.refl _ _⟩
 ·have Z:=h.free.1.1;rw[List.concat_eq_append]at *;have Y:(l++[x]).length=lc l+1:=by simp
  rw[Y,Aj]at Z;rw[Y]at c0 I J;obtain⟨A,g,rfl,j⟩:=an8 Z;obtain⟨m,y⟩:∃m,lc l=m:=⟨_,rfl⟩;have e0:decide (((m+1:Nat):Int)=0)=M:=by simp;omega
  have e1:(((m+1:Nat):Int)==0)=M:=by simp;omega
  have e2:IntKind.i64.wrap (((m+1:Nat):Int)-1)=(m:Int):=by rw[BK];omega
  obtain⟨C,H,q3,_⟩:=h.setF (fv':=T (E ⟨g,0,O⟩) (lc l) c) (fr':=l) (V:=w) A (Chg.refl _ _) (λk e=>.inl e);rw[y]at C H c0 j J I;obtain⟨Ta,v⟩:∃Ta,m+1=Ta:=⟨_,rfl⟩;rw[v]at e0 e1 e2 c0 J I;have i0:(0:Int)<=(m:Int):=by omega
  have i1:(m:Int)<(Ta:Int):=by omega
  have i2:(m:Int)<=(c:Int):=by omega
  have i3:m<=c:=by omega
  have Q1:=AA C;have Q2:=AA H;clear h Z A C H y v Y;go_enter func232,ntmps232;go_wp2;go_ret2;refine⟨by simp,⟨_,_,by rw[LJ];exact Q1.out⟩,Q2.out⟩
theorem abn{X:Nat->Prop}{j:Nat->Nat}{B U D size:Nat}{fv:Vh}{dv:List Vh}{fr:List Int}{us:List Bool}{ds:La}(x:Int)(w:Wa)(h:BB X j B U D fv dv size fr us ds w)(hn:lc fr<=1000000) :Calls ZP 138 #[L (E ⟨B,0,O⟩),R K x] w λe w'=>(∃v,e=ra v)/\(∃fv' Z,BB (λk=>X k∨w.heap.size<=k) Z B U D fv' dv size (fr++[x]) us ds w')/\Chg X w w':=by
 obtain⟨i0,hi,a7,a6,a2⟩:=Ve adY;obtain⟨a,c,rfl,aa,_⟩:=SlK.own h.free.1.1;have c0:w.cell? ⟨B,0,O⟩=E (T a (lc fr) c):=by simp[cell?,h.box]
 have C:=AL w (i7 #[R K x] 3);have N:=DJ h.free.1.1 C;have I:SlK 1 (w.alloc (i7 #[R K x] 3)) (E ⟨w.heap.size,0,O⟩) 1 [R K x]:=by
  have hx:(w.alloc (i7 #[R K x] 3)).heap[w.heap.size]?=E (i7 #[R K x] 3 (0,0)):=AT _ _;refine⟨rfl,.inr ⟨_,0,rfl,by simp,λi u hu=>?_⟩⟩;have e:(w.alloc (i7 #[R K x] 3)).cell? ⟨w.heap.size,0+i,O⟩=(#[R K x]:Array Vh)[0+i]?:=by simp only[cell?,hx];simp
  rw[e,DD];show(List.toArray [R K x])[i]?=E u;rw[Dy];exact hu
 have HH:=AA h;have HF:Hid (∀Y J,J.ownsRow 0 3 1 Y (lc fr+1) (fr.map (Value.int .i64)++[.int .i64 x])->(w.alloc (i7 #[.int .i64 x] 3)).grownBy J (Value.slice a (lc fr) c).ownBlock->(Y.ownBlock=(Value.slice a (lc fr) c).ownBlock∨Y.ownBlock=E (w.alloc (i7 #[.int .i64 x] 3)).heap.size)->
   (∃Z,BB (λk=>X k∨w.heap.size<=k) Z B U D Y dv size (fr++[x]) us ds (J.setCell ⟨B,0,O⟩ Y))/\Chg X w (J.setCell ⟨B,0,O⟩ Y)/\J.frozen? ⟨B,0,O⟩=M/\(∃u,J.cell? ⟨B,0,O⟩=E u)/\∃s c1,Y=T s (lc fr+1) c1):=λY J ho hg ab=>by
  obtain⟨q1,q2,q3,q4⟩:=h.setF (fv':=Y) (fr':=fr++[x]) (V:=J) (by rw[List.length_append,Aj];exact ho) ((Chg.of_same C).grown hg λg e _=>e) (λg e=>by
   rcases ab with e2|e2
   ·rw[e2]at e;exact .inl e
   ·rw[e2]at e;have:(w.alloc (i7 #[R K x] 3)).heap.size=w.heap.size+1:=by simp
    have:=AK e
    right
    omega)
  obtain⟨s,c1,e,_,_⟩:=SlK.own ho;exact⟨⟨_,q1⟩,q2,q3,q4,s,c1,e⟩
 clear h aa C;go_enter func138,ntmps138
 go_wp2_with (at_builtin;refine JA rfl _ _ 30 rfl 0 3 i0 (.int .i64 0) 1 8 underlying30 hi a7 a6 a2 rfl (by decide) _ (lc fr) (fr.map (Value.int .i64)) rfl N (E ⟨w.heap.size,0,O⟩) 1 1 [.int .i64 x] rfl I (by simp[Value.oneCell']) (by unfold maxLen;omega) om (AR _) ?_;intro Y J A y H;obtain⟨⟨Z,g1⟩,g2,g3,⟨u,g4⟩,s,c1,a8⟩:=HF.out Y J A y H;subst a8;have G1:=AA g1;have G2:=AA g2;clear A y H N I g1 g2)
 go_end0
 exact⟨⟨_,rfl⟩,⟨_,_,G1.out⟩,G2.out⟩
structure Bc where
 num:Nat
 start:Nat
 warm:Nat
 data:List Int
 buf:Nat
structure RdM where
 ph:Nat
 holds:Bool
 buf:Nat
 warm:Nat
 own:Nat
 ahead:Nat
 tail:List Int
 ended:Bool
structure WkM where
 ph:Nat
 blk:Bc
 node:Nat
 done:Nat
 hits:List AF
structure CfM where
 W:Nat
 K:Nat
 R:Nat
 Q:Nat
 O:Nat
 S:Nat
 F:Nat
 L:Nat
 scan:Nat->Nat->List Int->Nat->Nat->Nat×Nat×List AF×Bool
 br:Bool
 ans:List Bool
def CfM.wm(c:CfM):Nat:=c.L-1
structure PlM where
 rs:La
 told:Nat
 off:Nat
 tk:List AF
 fr:List Nat
 us:List Bool
 ds:La
 q:List Bc
 shut:Bool
 next:Nat
 rg:List (Option (List AF))
 out:List AF
 ended:Bool
 number:Nat
 read:Nat
 took:List AF
 cancelled:Bool
 rd:RdM
 wk:List WkM
 mph:Nat
 left:List AF
 eph:Nat
def ape:Bc:=⟨0,0,0,[],0⟩
def wk0(ph:Nat):WkM:=⟨ph,ape,0,0,[]⟩
section
variable (c:CfM)(s:PlM)
def Bn(rs:La):PlM:=
 ⟨rs,0,0,[],(List.range c.R).reverse,List.replicate c.R M,List.replicate c.R [],[],M,0,List.replicate c.R O,[],M,0,0,[],M,⟨1,M,0,0,0,0,[],M⟩,List.replicate c.W (wk0 1),1,[],1⟩
def Bv(n:Nat):PlM:={s with fr:=if Cr s.us n then s.fr++[n] else s.fr,us:=if Cr s.us n then s.us.set n M else s.us,ds:=if Cr s.us n then s.ds.set n [] else s.ds}
def Ep:Bool:=!s.q.isEmpty || s.shut
def Gt:Bool:=(match s.rg with|some _::_=>G|_=>M) || (decide (s.rd.ph=5)&&decide (s.next=s.number))
def IV:Bool:=!s.out.isEmpty || s.ended
def Ck:Bool:=if s.rd.ph=5 then M else if s.cancelled then G else if s.rd.ph=1 then Du s.next c.R s.number else if s.rd.ph=3 then decide (lc s.q<c.Q) else G
def Er(i:Nat):Bool:=match s.wk[i]? with|none=>M|some w=>if w.ph=4 then M else if w.ph=1 then Ep s else G
def EX:Bool:=if s.mph=3 then M else if s.cancelled then G else if s.mph=1 then Gt s else decide (lc s.out<c.O)
def Fx:Bool:=if s.eph=2 then M else IV s
def Bj(t:Nat):Bool:=if t=0 then Ck c s else if t<=c.W then Er s (t-1) else if t=c.W+1 then EX c s else if t=c.W+2 then Fx s else M
def takeR:PlM:=
 let n:=s.fr.getLast?.getD 0
 {s with fr:=s.fr.dropLast,us:=s.us.set n G,ds:=(s.ds.set n []).set n s.rd.tail,rd:={s.rd with ph:=2,holds:=G,buf:=n,warm:=lc s.rd.tail,own:=0,ahead:=s.read}}
def backR:PlM:=let t:=Bv s s.rd.buf;{t with rd:={t.rd with holds:=M}}
def readR:PlM:=
 let b:=BR ((c.K:Int)-s.rd.own) s.rs
 if s.rs.isEmpty then
  if 0<s.rd.own then {s with rd:={s.rd with ended:=G,ph:=3}}
  else let t:=backR s;{t with rd:={t.rd with ph:=4}}
 else {s with
  rs:=EB ((c.K:Int)-s.rd.own) s.rs,told:=s.told+lc b,ds:=s.ds.set s.rd.buf (s.ds.getD s.rd.buf []++b),read:=s.read+lc b,
  rd:={s.rd with own:=s.rd.own+lc b,tail:=(s.rd.tail++b).drop ((s.rd.tail++b).length-c.wm),ph:=if s.rd.own+lc b=c.K then 3 else s.rd.ph}}
def putR:PlM:=
 {s with q:=s.q++[⟨s.number,c.F+s.rd.ahead,s.rd.warm,s.ds.getD s.rd.buf [],s.rd.buf⟩],number:=s.number+1,rd:={s.rd with holds:=M,ph:=if s.rd.ended then 4 else 1}}
def shutR:PlM:={s with shut:=G,rd:={s.rd with ph:=5}}
def stopR:PlM:=shutR (if s.rd.holds then backR s else s)
def stepR:PlM:=if s.cancelled then stopR s else if s.rd.ph=1 then takeR s else if s.rd.ph=2 then readR c s else if s.rd.ph=3 then putR c s else shutR s
def setW(i:Nat)(f:WkM->WkM):PlM:={s with wk:=s.wk.modify i f}
def takeW(i:Nat):PlM:=match s.q with
 |[]=>setW s i λw=>{w with ph:=4}
 |b::q=>{setW s i (λw=>{w with ph:=2,blk:=b})with q:=q}
def scanW(i:Nat):PlM:=setW s i λw=>
 let r:=c.scan w.blk.start w.blk.warm w.blk.data w.node w.done
 {w with node:=r.1,done:=r.2.1,hits:=w.hits++r.2.2.1,ph:=if r.2.2.2 then 3 else w.ph}
def leaveW(i:Nat):PlM:=match s.wk[i]? with
 |none=>s
 |some w=>setW (Bv s w.blk.buf) i λ_=>wk0 1
def putWM(i:Nat):PlM:=match s.wk[i]? with
 |none=>s
 |some w=>leaveW {s with rg:=s.rg.set (w.blk.num-s.next) (E w.hits)} i
def phW(i:Nat):Nat:=match s.wk[i]? with|none=>4|some w=>w.ph
def stopW(i:Nat):PlM:=
 let t:=if phW s i=1 then takeW s i else s
 if phW t i=4 then t else leaveW t i
def stepW(i:Nat):PlM:=if s.cancelled then stopW s i else if phW s i=1 then takeW s i else if phW s i=2 then scanW c s i else putWM s i
def takeM:PlM:=match s.rg with
 |some h::r=>if h.isEmpty then {s with rg:=r++[O],next:=s.next+1} else {s with rg:=r++[O],next:=s.next+1,left:=h,mph:=2}
 |_=>{s with ended:=G,mph:=3}
def flushM:PlM:=match s.left with
 |[]=>s
 |h::t=>{s with out:=s.out++[h],left:=t,mph:=if t.isEmpty then 1 else s.mph}
def Hr:PlM:={s with rg:=List.replicate (lc s.rg) O,left:=[],ended:=G,mph:=3}
def stepMg:PlM:=if s.cancelled then Hr s else if s.mph=1 then takeM s else flushM s
def offerE:PlM:=match s.out with
 |[]=>{s with eph:=2}
 |h::t=>if EH c.ans s.off then {s with off:=s.off+1,tk:=s.tk++[h],out:=t,took:=s.took++[h]} else {s with off:=s.off+1}
def Fr:PlM:=if s.out.isEmpty then {s with eph:=2} else {s with out:=[]}
def stepE:PlM:=if s.cancelled then Fr s else offerE c s
def Bi(t:Nat):PlM:=if t=0 then stepR c s else if t<=c.W then stepW c s (t-1) else if t=c.W+1 then stepMg s else stepE c s
def II:List Nat:=(List.range (c.W+3)).filter (Bj c s)
def EZ(n:Int):Option Nat:=(II c s)[Fz n (II c s).length]?
def Fi(n:Int):PlM:=match EZ c s n with|none=>s|some t=>Bi c s t
def Fd:Bool:=decide (s.rd.ph=5)&&s.wk.all (λw=>decide (w.ph=4))&&decide (s.mph=3)&&decide (s.eph=2)
def LN:PlM:=if s.cancelled || Fd s then s else {s with cancelled:=G}
end
def hW(x:WkM):List Bc:=if x.ph=2∨x.ph=3 then [x.blk] else []
def If(s:PlM):List Bc:=s.q++s.wk.flatMap hW
def rdB(r:RdM):List Nat:=if r.holds then [r.buf] else []
def Cu(s:PlM):List Nat:=rdB s.rd++(If s).map Bc.buf
theorem amN{α:Type}{l:List α}{i:Nat}{x:α}(h:l[i]?=E x):l=l.take i++x::l.drop (i+1):=by obtain⟨Z,e⟩:=AP.1 h;rw[<-e,List.getElem_cons_drop,Dx]
theorem amR{α:Type}{l:List α}{i:Nat}{x:α}(h:l[i]?=E x)(f:α->α):l.modify i f=l.take i++f x::l.drop (i+1):=by
 have U:=(AP.1 h).1
 apply Hn
 intro j;rw[GS]
 by_cases V:j<i
 ·have Z:¬i=j:=by omega
  rw[By (by rw[Ag];omega),MW V]
  cases l[j]?<;>simp[Z]
 ·have Y:(l.take i).length=i:=by rw[Ag];omega
  rw[DY om,Y]
  by_cases X:j=i
  ·subst X;rw[FG,h];simp
  ·obtain⟨d,rfl⟩:∃d,j=i+1+d:=⟨j-(i+1),by omega⟩;have Z:¬i=i+1+d:=by omega
   rw[show i+1+d-i=d+1 by omega,IP,Hm]
   cases l[i+1+d]?<;>simp[Z]
theorem aeg(n x:Nat):(List.range n).count x=if x<n then 1 else 0:=by
 induction n with
 |zero=>simp
 |succ n ih=>
  rw[El,En,ih,OM]
  by_cases h:n=x
  ·subst h;simp
  ·have e:(n==x)=M:=by simp[h]
   rw[e]
   by_cases h2:x<n
   ·have h3:x<n+1:=by omega
    simp[h2,h3]
   ·have h3:¬x<n+1:=by omega
    simp[h2,h3]
structure AW(c:CfM)(s:PlM):Prop where
 perm:(s.fr++Cu s).Perm (List.range c.R)
 ul:s.us.length=c.R
 dl:s.ds.length=c.R
 uf:∀x,x∈s.fr->s.us[x]?=some false
 ut:∀x,x∈Cu s->s.us[x]?=some true
section
variable {c:CfM}{s t:PlM}
theorem AW.cnt(h:AW c s)(x:Nat):s.fr.count x+(Cu s).count x=if x<c.R then 1 else 0:=by have:=h.perm.count_eq x;rw[En]at this;rw[this,aeg]
theorem AW.same(h:AW c s)(X:t.fr=s.fr)(Z:t.us=s.us)(U:lc t.ds=lc s.ds)(N:∀x,(Cu t).count x=(Cu s).count x):AW c t:=by have Y:(Cu t).Perm (Cu s):=OI.2 N;refine⟨?_,by rw[Z];exact h.ul,by rw[U];exact h.dl,by rw[X,Z];exact h.uf,λx V=>by rw[Z];exact h.ut x (Y.mem_iff.1 V)⟩;rw[X];exact(List.Perm.append_left _ Y).trans h.perm
theorem AW.give(h:AW c s)(n:Nat)(B:n∈Cu s)(I:t.fr=(Bv s n).fr)(U:t.us=(Bv s n).us)(A:lc t.ds=lc s.ds)(C:∀x,(Cu t).count x+(if x=n then 1 else 0)=(Cu s).count x):AW c t:=by
 have V:=h.ut n B;have Y:Cr s.us (n:Int)=G:=by unfold Cr;rw[DZ,Aa,V];simp
 have j:(Bv s n).fr=s.fr++[n]:=by unfold Bv;dsimp only;rw[Lc Y]
 have e2:(Bv s n).us=s.us.set n M:=by unfold Bv;dsimp only;rw[Lc Y]
 rw[j]at I;rw[e2]at U;have N:n<lc s.us:=(AP.1 V).1;have H:=h.cnt n;have D:=C n;rw[Lc rfl]at D;refine⟨?_,by rw[U,BG];exact h.ul,by rw[A];exact h.dl,λx Z=>?_,λx Z=>?_⟩
 ·refine(OI.2 λx=>?_).trans h.perm;rw[I,En,En,En,OM];have:=C x
  by_cases Z:x=n
  ·subst Z;simp at this⊢;omega
  ·have:¬n=x:=λe=>Z e.symm;simp[Z,this]at *;omega
 ·rw[U,Gr]
  by_cases X:n=x
  ·rw[Lc X,Lc N]
  ·rw[Lb X];rw[I]at Z
   rcases Bf.1 Z with h1|h1
   ·exact h.uf x h1
   ·exact absurd (Fq.1 h1).symm X
 ·have y:=Iv.2 Z;have v:=C x;have J:n≠x:=λe=>by
   subst e
   split at H<;>omega
  rw[U,Gr,Lb J];exact h.ut x (Iv.1 om)
theorem AW.take(h:AW c s)(n:Nat)(A:s.fr.getLast?=E n)(C:t.fr=s.fr.dropLast)(N:t.us=s.us.set n G)(y:lc t.ds=lc s.ds)(B:∀x,(Cu t).count x=(Cu s).count x+(if x=n then 1 else 0)):AW c t:=by
 have X:s.fr=s.fr.dropLast++[n]:=by obtain⟨l,e⟩:=List.getLast?_eq_some_iff.1 A;rw[e,LJ]
 have J:n∈s.fr:=by rw[X];simp
 have U:=h.uf n J;have I:n<lc s.us:=(AP.1 U).1;have D:=h.cnt n;have V:∀x,s.fr.count x=s.fr.dropLast.count x+(if x=n then 1 else 0):=λx=>by
  have:s.fr.count x=(s.fr.dropLast++[n]).count x:=by rw[<-X]
  rw[this,En,OM]
  by_cases Z:x=n
  ·subst Z;simp
  ·have:¬n=x:=λe=>Z e.symm;simp[Z,this]
 refine⟨?_,by rw[N,BG];exact h.ul,by rw[y];exact h.dl,λx Z=>?_,λx Z=>?_⟩
 ·refine(OI.2 λx=>?_).trans h.perm;rw[C,En,En,B x,V x];omega
 ·rw[C]at Z;have v:=Iv.2 Z;have h2:=V n;rw[Lc rfl]at h2;have H:n≠x:=λe=>by subst e;split at D<;>omega
  rw[N,Gr,Lb H];exact h.uf x (by rw[X];exact List.mem_append_left _ Z)
 ·rw[N,Gr]
  by_cases Y:n=x
  ·rw[Lc Y,Lc I]
  ·rw[Lb Y];have:=B x;rw[Lb (λe=>Y e.symm)]at this;exact h.ut x (Iv.1 (by have:=Iv.2 Z;omega))
end
end Go.Proofs.YtaamacoicojhnaaGreat
