/- Proofs over the given program, part 10. -/
import Derived.Test.YtaamacoicojhnaaGreatZB9
set_option linter.unusedVariables false
set_option linter.unusedSimpArgs false
set_option maxRecDepth 100000
set_option maxHeartbeats 16000000
open Go.Proofs.Tryz
open Go.Proofs.Tryz renaming prog→ZP
namespace Go.Proofs.YtaamacoicojhnaaGreat
open Go.RowKit Go.Sort
section
attribute [local go_sem] Oper.semAt_some
attribute [local simp] aab aa6
attribute [local go_sem] aab aa6
theorem arL:(ZP.info? 30).map (fun i=>(i.zero,i.size,i.bytes))=some (some (.slice none 0 0),1,24):=by kernel_rfl
theorem Mc.frozen {W:World}{B:Nat}{L:List Int}{m n:Int}{row:Value}{fold:Bool}{Z:Value}{lo Y:Int}{wd:Value}(h:Mc W B L m n row fold Z lo Y wd)(i:Nat):W.frozen? ⟨B,i,none⟩=false:=by
 have h2:=h.box;simp [World.frozen?,h2]
theorem apt {W:World}{G:Nat}{cs:Array Value}{t:TypeId}(h:W.heap[G]?=some (.cells cs t (0,0)))(i:Nat):W.frozen? ⟨G,i,none⟩=false:=by
 simp [World.frozen?,h]
theorem ajm (fold:Bool)(a:Option Addr)(la ca:Nat)(wss:List (List Int))(w:World)(hA:Wds w a la wss)(bE:la<=1000000)(hM:∀x∈wss,x.length<=1000000)(hT:(abo fold wss).length<=1000000)(hr:aan fold wss=true) :
  Calls ZP 52 #[.agg (aaF fold a la ca)] w fun e w'=>∃(B R eF wc:Nat) (a' wa:Option Addr),e=.returned (.tuple #[.pointer (some ⟨B,0,none⟩),.int .i64 0])/\MOK w' B fold wss (aaY wss) ((ad7 wss (aa0 wss).length:Nat):Int) R a' la eF wa wc/\Below w.heap.size w w'/\atH w.heap.size w' B R a' la eF wss wa:=by
 have hB:=aa1 w (.cells (aaF fold a la ca) 24);obtain⟨W0,bH⟩:∃W,W=w.alloc (.cells (aaF fold a la ca) 24):=⟨_,rfl⟩;have aX:W0.heap[w.heap.size]?=some (.cells (aaF fold a la ca) 24 (0,0)):=by rw [bH];exact axg _ _
 rw [<-bH] at hB;have c0:W0.cell? ⟨w.heap.size,0,none⟩=some (.bool fold):=by simp [World.cell?,aX]
 have c1:W0.cell? ⟨w.heap.size,1,none⟩=some (.slice a la ca):=by simp [World.cell?,aX]
 have bD:abI (aa5 wss)=some (aa0 wss,wss):=ab6.2 ⟨abq hr,rfl,rfl⟩;have bf:(aa0 wss).length<=400:=afO bD;have fb:1<=aat fold wss/\aat fold wss<=257:=abj _ _ _;have bJ:=okT hr (fun x hx c hc=>hA.bytes x hx c hc);have er:=afv bJ;have dq:=aiG bJ;have bT:=ax3 hA.len;have HD:=ax3 (fun V (hV:Below w.heap.size w V)=>anW fold a la ca wss V (hA.below hV) bE hM hT hr);have eJ:=ax3 (fun V (hV:Below w.heap.size w V)=>ahg fold a la ca wss V (hA.below hV) bE hM hT hr);have bR:=ax3 (fun V (hV:Below w.heap.size w V)=>asa fold a la ca wss V (hA.below hV) bE hM);have bw:=ax3 (fun V (hV:Below w.heap.size w V)=>alk fold a la ca wss V (hA.below hV) bE);have eR:=ax3 (fun (t:TV) V (hT:Tri V t (aa5 wss)) (hb:t.un<=140737488351232)=>aqc t (aa5 wss) (aa0 wss) wss V hT hb bD);have aQ:=ax3 (fun (t:TV) V (hT:Tri V t (aa5 wss)) (hb:t.un<=140737488351232)=>apW t (aa5 wss) (aa0 wss) wss V hT hb bD);obtain⟨L,hL⟩:∃L,ade fold wss=L:=⟨_,rfl⟩;have ar:L.length=256:=by rw [<-hL];exact acZ _ _
 have dv:Hid ((aa0 wss).length<=400):=bf;have fN:=ax3 dq;have fM:=ax3 bJ;obtain⟨n,hn⟩:∃n,(aa0 wss).length=n:=⟨_,rfl⟩;obtain⟨m,hm⟩:∃m,aat fold wss=m:=⟨_,rfl⟩;obtain⟨k,hk⟩:∃k,m*n=k:=⟨_,rfl⟩;have aW:k<=257*400:=by rw [<-hk];exact axA (by omega) (by omega)
 have fo:=ax3 hL;have HN:=ax3 hn;have HM:=ax3 hm;have fp:=ax3 hk;rw [hL,hm,hn,hk] at HD;rw [hn] at eR aQ;have dt:Hid (ad9 (m:Int) k=(n:Int)):=by rw [Hid,<-hk,<-hm,<-hn,<-dq];exact er
 clear hA hr bD bJ hL hn hm hk bf dq er;refine aau func52 rfl ?_;simp only [ntmps52,axT,axU,axV,Nat.reduceAdd,Nat.reduceSub,axW,axX,axY,axZ,ay0,ay1];go_upto_region 1 with fail
 rw [<-bH];clear bH;have fu:=ax3 (HD.out W0 hB);go_upto_region 2 with (first
  | (refine wpList_store_row rfl 146 _ _ rfl _ _ rfl rfl 146 _ (heap_alloc_new _ _) (aug ar _ _) (avQ ar _ _) (alL _ _ _ rfl) ?_)
  | (go_at_call 86;refine fu.out.mono ?_;rintro e w3 ⟨R,rfl,bb,fd,bF⟩))
 rw [World.setRow_alloc_new];have b6:=hB.trans (bF.mono hB.size);have fi:Hid (w.heap.size<=R):=awT hB.size fd;obtain⟨w4,bC⟩:∃w4,w4=w3.alloc (.cells (dvC L m (.slice (some ⟨R,0,none⟩) k k)).toArray 146):=⟨_,rfl⟩;have bu:Below w.heap.size w w4:=by rw [bC];exact b6.alloc b6.size _
 have bh:Below w3.heap.size w3 w4:=by rw [bC];exact aa1 _ _
 have bN:=Dv.new w3 L m (.slice (some ⟨R,0,none⟩) k k) ar;rw [<-bC] at bN ⊢;have aM:aaa R (an0 fold wss) w4:=(bh.block R bb.lt).trans bb;have bm:w4.heap[w.heap.size]?=some (.cells (aaF fold a la ca) 24 (0,0)):=(bh.block _ (by have:=(awU.1 aX).1;have:=bF.size;omega)).trans ((bF.block _ (awU.1 aX).1).trans aX);have d0:w4.cell? ⟨w.heap.size,0,none⟩=some (.bool fold):=by simp [World.cell?,bm]
 have d1:w4.cell? ⟨w.heap.size,1,none⟩=some (.slice a la ca):=by simp [World.cell?,bm]
 have fh:=ax3 (eJ.out w4 bu);have fy:w3.heap.size<w4.heap.size:=bN.lt;clear bC c0 c1 bh bb bF hB aX;go_upto_region 5 with (go_at_call 87;refine fh.out.mono ?_;rintro e w5 ⟨t,rfl,dg,aC⟩;obtain⟨ua,un,uc,da,dn,dc,xa,xn,xc,ba,bn,bc⟩:=t;simp only [TV.cells])
 have aV:un<=140737488351232:=by
  have h1:=dg.up.1;have h2:=arI wss;have h3:=dv.out;dsimp only at h1;omega
 have fJ:=bu.trans (aC.mono bu.size);obtain⟨w6,bB⟩:∃w6,w6=w5.alloc (.cells #[.slice ua un uc,.slice da dn dc,.slice xa xn xc,.slice ba bn bc] 150):=⟨_,rfl⟩;have ch:Below w5.heap.size w5 w6:=by rw [bB];exact aa1 _ _
 have aO:w6.heap[w5.heap.size]?=some (.cells #[.slice ua un uc,.slice da dn dc,.slice xa xn xc,.slice ba bn bc] 150 (0,0)):=by rw [bB];exact axg _ _
 have bj:=dg.below ch;have bZ:Below w4.heap.size w4 w6:=aC.trans (ch.mono aC.size);rw [<-bB];clear bB;have eQ:=ax3 (eR.out _ w6 bj aV);have e0:w6.cell? ⟨w5.heap.size,0,none⟩=some (.slice ua un uc):=by simp [World.cell?,aO]
 have e1:w6.cell? ⟨w5.heap.size,1,none⟩=some (.slice da dn dc):=by simp [World.cell?,aO]
 have e2:w6.cell? ⟨w5.heap.size,2,none⟩=some (.slice xa xn xc):=by simp [World.cell?,aO]
 have e3:w6.cell? ⟨w5.heap.size,3,none⟩=some (.slice ba bn bc):=by simp [World.cell?,aO]
 clear d0 d1 dg;go_upto_region 8 with (go_at_call 88;refine eQ.out.mono ?_;rintro e w7 ⟨q,rfl,d8,fC,de⟩)
 have aD:Below w4.heap.size w4 w7:=bZ.trans (de.mono bZ.size);clear e0 e1 e2 e3;go_upto_region 10 with fail
 have eE:Below w.heap.size w w7:=bu.trans (aD.mono bu.size);have ab:=ax3 eE;have cc:=bj.below de;have au:=ax3 cc;have dr:=bN.below aD;have fF:w3.heap.size<w7.heap.size:=dr.lt;have HK:Hid (∀V,RowKit.Below w7.heap.size w7 V->Dv V w3.heap.size L m (.slice (some ⟨R,0,none⟩) k k)):=fun V hV=>dr.below hV;have dh:w7.heap[w.heap.size]?=some (.cells (aaF fold a la ca) 24 (0,0)):=(aD.block _ (awU.1 bm).1).trans bm;have eK:Hid (∀V,RowKit.Below w7.heap.size w7 V->V.cell? ⟨w.heap.size,0,none⟩=some (.bool fold)/\V.cell? ⟨w.heap.size,1,none⟩=some (.slice a la ca)):=fun V hV=>by
  have h:=(hV.block _ (awU.1 dh).1).trans dh;exact⟨by simp [World.cell?,h],by simp [World.cell?,h]⟩
 have bI:w7.heap[w5.heap.size]?=some (.cells #[.slice ua un uc,.slice da dn dc,.slice xa xn xc,.slice ba bn bc] 150 (0,0)):=(de.block _ (awU.1 aO).1).trans aO;have eH:Hid (∀V,RowKit.Below w7.heap.size w7 V->V.cell? ⟨w5.heap.size,0,none⟩=some (.slice ua un uc)/\V.cell? ⟨w5.heap.size,1,none⟩=some (.slice da dn dc)/\V.cell? ⟨w5.heap.size,2,none⟩=some (.slice xa xn xc)/\V.cell? ⟨w5.heap.size,3,none⟩=some (.slice ba bn bc)):=fun V hV=>by
  have h:=(hV.block _ (awU.1 bI).1).trans bI;exact⟨by simp [World.cell?,h],by simp [World.cell?,h],by simp [World.cell?,h],by simp [World.cell?,h]⟩
 have bx:Hid ((ZP.info? 144).map (·.size)=some (L.map (Value.int .i64)).length):=by rw [Hid,ayq,ar];kernel_rfl
 have cl:Hid ((ZP.info? 146).map (·.size)=some (dvC L m (.slice (some ⟨R,0,none⟩) k k)).toArray.size):=by rw [Hid,adY ar];exact amU
 obtain⟨aA,aS⟩:∃Z,tbC L m n (.slice (some ⟨R,0,none⟩) k k)=Z:=⟨_,rfl⟩;have bQ:Hid (aA.length=259):=by rw [Hid,<-aS];exact aqh ar _ _ _
 have ck:=ax3 aS;obtain⟨ZT,df⟩:∃Z,aA.toArray=Z:=⟨_,rfl⟩;have bO:=ax3 df;have aR:Hid (ZP.built 157 [(0,.agg (L.map (Value.int .i64)).toArray),(1,.int .i64 m),(2,.int .i64 n),(3,.slice (some ⟨R,0,none⟩) k k)]=some ZT):=by rw [Hid,<-df,<-aS];exact ak1 L m n _ k k ar
 have eI:Hid (w5.heap.size<w7.heap.size):=(awU.1 bI).1;clear aS df dr dh bI cc aO bm bN bj eE;refine Code.wp_mono (Q:=awI (fun a' V=>∃(p8 BM cv:Nat) (av:Option Addr) (ZM:Array Value) (x9 ed d4 cZ cY cX cW cV cU cT cS cR cQ cP cO cN cM cL cK cJ cI cH cG cF cE cD cC cB cA cz cy cx cw cu ct cr cq cp co cn:Value),a'={ tmps:=List.toArray (Value.agg (aaF fold a la ca) :: Value.pointer (some ⟨w.heap.size,0,none⟩) :: Value.pointer none :: Value.int .i64 0 :: Value.pointer (some ⟨w3.heap.size,0,none⟩) :: Value.int .i64 0 :: Value.pointer (some ⟨w5.heap.size,0,none⟩) :: Value.slice (some ⟨q,0,none⟩) n n :: Value.pointer (some ⟨p8,0,none⟩) :: x9 :: ed :: d4 :: cZ :: cY :: cX :: cW :: cV :: cU :: cT :: cS :: cR :: cQ :: cP :: cO :: cN :: cM :: cL :: cK :: cJ :: cI :: cH :: cG :: cF :: cE :: cD :: cC :: cB :: cA :: cz :: cy :: cx :: cw :: cu :: ct :: cr :: cq :: cp :: co :: cn :: undef :: undef :: undef :: undef :: undef :: undef :: undef :: undef :: undef :: undef :: undef :: undef :: undef :: undef :: undef :: undef :: undef :: undef :: undef :: undef :: undef :: undef :: undef :: undef :: undef :: undef :: undef :: undef :: undef :: undef :: undef :: undef :: undef :: undef :: undef :: undef :: undef :: undef :: undef :: undef :: []),defers:=[] }/\Boxed V p8 88 (.pointer (some ⟨BM,0,none⟩))/\V.heap[BM]?=some (.cells ZM 162 (0,0))/\(aA++[Value.bool fold,Value.slice av la cv,Value.int .i64 (aaY wss),Value.int .i64 ((ad7 wss n:Nat):Int),Value.slice none 0 0]).toArray=ZM/\adq V w7.heap.size (.slice av la cv) wss/\RowKit.Below w7.heap.size w7 V/\w7.heap.size<=p8/\w7.heap.size<=BM/\la<=cv/\BM≠p8)) (fun e a' Y hM=>?_) ?_
 ·
  cases e<;>first | exact absurd hM id | skip
  obtain⟨p8,BM,cv,av,ZM,x9,ed,d4,cZ,cY,cX,cW,cV,cU,cT,cS,cR,cQ,cP,cO,cN,cM,cL,cK,cJ,cI,cH,cG,cF,cE,cD,cC,cB,cA,cz,cy,cx,cw,cu,ct,cr,cq,cp,co,cn,rfl,hP,ak,aj,eu,hHeld,f7,dd,am,a8⟩:=hM;simp only [Exit.then];go_upto_region 11 with fail
  have bK:Mc Y BM L m n (.slice (some ⟨R,0,none⟩) k k) fold (.slice av la cv) (aaY wss) ((ad7 wss n:Nat):Int) (.slice none 0 0):=⟨by rw [ak,<-aj,<-ck.out,atY],ar⟩;have eP:=ax3 eu;clear eu ak aj aR bO ck bQ cl bx bR bw aQ dt HD eJ HK;have d7:=hP.lt;have f9:=bK.lt;have du:Hid (BM≠p8):=a8;have eT:Hid (∀X:World,(Instr.makeSlice 160 (.int .i64 (n:Int)) (.int .i64 (n:Int))).run ZP X=.ok (.slice (some ⟨X.heap.size,0,none⟩) n n) (X.alloc (.cells (ac7 n) 30))):=fun X=>by
   obtain⟨i0,hi,bA,b8,bz⟩:=info_parts arL;have bf:=dv.out;rw [HN.out] at bf;have h:=run_makeSlice (P:=ZP) (w:=X) 160 30 i0 (.slice none 0 0) underlying160 hi bA .i64 .i64 (n:Int) (n:Int) (by omega) (by omega) (by rw [b8];omega) (by rw [bz];omega) (by omega);rw [b8] at h;have e1:(n:Int).toNat*1=n:=by omega
   rw [e1,amZ,axs] at h;exact h
  have KP:Hid (∀X,(acJ Y.heap.size BM Y X/\∃wd,Mc X BM L m n (.slice (some ⟨R,0,none⟩) k k) fold (.slice av la cv) (aaY wss) ((ad7 wss n:Nat):Int) (wd))->X.cell? ⟨p8,0,none⟩=some (.pointer (some ⟨BM,0,none⟩))/\X.cell? ⟨BM,257,none⟩=some (.int .i64 (n:Int))):=fun X hX=>⟨(axp (a:=⟨p8,0,none⟩) (hX.1.1 p8 d7 (Ne.symm du.out))).trans hP.cell,by obtain⟨wd,h⟩:=hX.2;exact h.cells.2.1⟩;refine wp_region_noPanic ?_;refine wp_region_held_drew (S:=fun X=>acJ Y.heap.size BM Y X/\∃wd,Mc X BM L m n (.slice (some ⟨R,0,none⟩) k k) fold (.slice av la cv) (aaY wss) ((ad7 wss n:Nat):Int) (wd)) (by kernel_rfl) ⟨⟨fun _ _ _=>rfl,axe _⟩,_,bK.below (aa2 Y 1)⟩ (fun bo=>?_);obtain⟨Y1,bG⟩:∃W,W=Y.drew:=⟨_,rfl⟩;have aE:RowKit.Below Y.heap.size Y Y1:=by rw [bG];exact aa2 Y 1
  have ce:=bK.below aE;have bW:Hid (Y1.heap.size=Y.heap.size):=by rw [Hid,bG];rfl
  rw [<-bG] at bo ⊢;clear bG;refine tkB 0 KP.out ?_;refine tkB 1 KP.out ?_;refine tkA 2 ?_;refine tkA 3 ?_;refine tkA 4 ?_;refine tkB 5 KP.out ?_;refine rdy 6 (fun K J=>?_);have fa:=eT.out Y1;go_simp;obtain⟨Y2,bi⟩:∃W,W=Y1.alloc (.cells (ac7 n) 30):=⟨_,rfl⟩;have y:RowKit.Below Y1.heap.size Y1 Y2:=by rw [bi];exact aa1 _ _
  have dp:Y2.heap[Y1.heap.size]?=some (.cells (ac7 n) 30 (0,0)):=by rw [bi];exact heap_alloc_new _ _
  have aW:acJ Y.heap.size BM Y Y2:=by rw [bi];exact aeE bo.1 _
  rw [<-bi];clear bi fa;have aq:=ce.below y;obtain⟨G,dk⟩:∃G,Y1.heap.size=G:=⟨_,rfl⟩;have bL:Hid (G=Y.heap.size):=by rw [Hid,<-dk];exact bW.out
  rw [dk] at dp ⊢;clear dk;refine J.out _ _ ⟨aW,_,aq⟩ (fun et=>?_);clear J K bo
  try simp only [Act.put,pA,pB,pC]
  refine tkA 7 ?_;refine tkA 8 ?_;refine rdy 9 (fun K J=>?_);have c0:=aq.cells.2.2.2.2.2.2.2;have c1:=aq.frozen 263;have c2:=aq.lt;go_simp;have aG:=aq.setW (.slice (some ⟨G,0,none⟩) n n);have dm:G≠BM:=by have:=bL.out;omega
  have bs:=(axn Y2 ⟨BM,263,none⟩ (.slice (some ⟨G,0,none⟩) n n) G dm).trans dp;have ci:RowKit.Below w7.heap.size w7 Y2:=hHeld.trans ((aE.trans (y.mono aE.size)).mono hHeld.size);have b6:=ci.setCell (p:=⟨BM,263,none⟩) dd (.slice (some ⟨G,0,none⟩) n n);have bp:=((eP.out.below aE).below y).turned (aa9 Y2 BM 263 (.slice (some ⟨G,0,none⟩) n n)) aq.box (of_decide_eq_true (by kernel_rfl)) (of_decide_eq_true (by kernel_rfl));have aY:=(axn Y2 ⟨BM,263,none⟩ (.slice (some ⟨G,0,none⟩) n n) p8 (Ne.symm du.out)).trans ((aW.1 p8 d7 (Ne.symm du.out)).trans hP);have db:acJ Y.heap.size BM Y (Y2.setCell ⟨BM,263,none⟩ (.slice (some ⟨G,0,none⟩) n n)):=⟨fun i h1 h2=>(axn Y2 ⟨BM,263,none⟩ _ i h2).trans (aW.1 i h1 h2),by have:=aW.2;simpa [World.setCell] using this⟩;obtain⟨Y3,eq⟩:∃W,W=Y2.setCell ⟨BM,263,none⟩ (.slice (some ⟨G,0,none⟩) n n):=⟨_,rfl⟩;rw [<-eq] at aG bs b6 bp aY db ⊢;have f5:Hid (G<Y3.heap.size):=(awU.1 bs).1;have aY:Boxed Y3 p8 88 (.pointer (some ⟨BM,0,none⟩)):=aY;clear eq;refine J.out _ _ ⟨db,_,aG⟩ (fun es=>?_);clear J K et es db aW aq ce bK aE y ci c0 c1 c2 dp hP hHeld eP KP eT f9 bW
  try simp only [Act.put,pA,pB,pC]
  refine wpAnyH_done (by kernel_rfl) ?_ _;refine ax4 ?_;have eB:=ag4.new bs;have fq:=ax3 bs;have eO:=ax3 bp;have eX:=ax3 b6;have aK:=ax3 aG;have eM:=ax3 aY;have c0:=aY.cell;have c1:=aG.cells.2.1;have bq:Hid (G≠BM):=dm;have eW:Hid (w7.heap.size<=BM):=dd;have cf:Hid (G≠p8):=by have:=bL.out;rw [Hid];omega
  have bM:Hid (w7.heap.size<=G):=by have:=bL.out;rw [Hid];omega
  have f0:n=xn:=by have h:=au.out.wrd.1;dsimp only at h;rw [(afy wss).1,HN.out] at h;exact h
  obtain rfl:=f0;have f8:0<n:=by rw [<-HN.out];exact (awR.1 (aaf wss)).1
  obtain⟨b0,o0,ee,cb,hcw⟩:=au.out.wrd.2.resolve_left (by dsimp only;omega);dsimp only at ee;subst ee;have fv:Hid (∀(i:Nat) (v:Int),(aa5 wss).wrd[i]?=some v->w7.cell? ⟨b0,o0+i,none⟩=some (.int .i64 v)):=hcw;have cm:Hid (b0<w7.heap.size):=cb;have fk:=ax3 d8;have eo:Hid (q<w7.heap.size):=d8.lt;have bS:Hid (n<=400):=by have:=dv.out;rw [HN.out] at this;exact this
  clear bs bp b6 aG aY dm d7 bL dd f7 a8 hcw cb d8 f8
  go_wp2_with fail
  refine wp_loop (fun a' w'=>∃(node:Nat) (ds:List Deferred) (y63 y9 ec eb ea e8 e7 e6 e5 e4 dZ dY dX dW dV dU dT dS dR dQ dP dO dN dM dL dK dJ dI dH dG dF dE dD dC dB dA dz dy dx dw:Value),(y63=.int .i64 (node:Int)/\node<=n/\Hid (ag4 G n ((List.range node).map (aaD wss)) w')/\Hid (Y3.grownBy w' (some G))/\Hid (aet w7.heap.size w' ds))/\a'={ tmps:=List.toArray (Value.agg (aaF fold a la ca) :: Value.pointer (some ⟨w.heap.size,0,none⟩) :: Value.pointer none :: Value.int .i64 0 :: Value.pointer (some ⟨w3.heap.size,0,none⟩) :: Value.int .i64 0 :: Value.pointer (some ⟨w5.heap.size,0,none⟩) :: Value.slice (some ⟨q,0,none⟩) n n :: Value.pointer (some ⟨p8,0,none⟩) :: y9 :: ec :: d4 :: cZ :: cY :: cX :: cW :: cV :: cU :: cT :: cS :: cR :: cQ :: cP :: cO :: cN :: cM :: cL :: cK :: cJ :: cI :: cH :: cG :: cF :: cE :: cD :: cC :: cB :: cA :: cz :: cy :: cx :: cw :: cu :: ct :: cr :: cq :: cp :: co :: cn :: eb :: ea :: e8 :: e7 :: e6 :: e5 :: e4 :: dZ :: dY :: dX :: dW :: dV :: dU :: Value.int .i64 (n:Int) :: y63 :: dT :: dS :: dR :: dQ :: dP :: dO :: dN :: dM :: dL :: dK :: dJ :: dI :: dH :: dG :: dF :: dE :: dD :: dC :: dB :: dA :: dz :: dy :: dx :: dw :: undef :: []),defers:=ds }) (fun a' _=>n-(intOf (a'.tmps.getD 63 undef)).toNat) ⟨0,[],_,_,_,_,_,_,_,_,_,_,_,_,_,_,_,_,_,_,_,_,_,_,_,_,_,_,_,_,_,_,_,_,_,_,_,_,_,_,_,_,⟨rfl,axh _,eB,(⟨rfl,rfl,rfl,axe _,fun _ _ _=>rfl⟩:Y3.grownBy Y3 (some G)),trivial⟩,rfl⟩ ?_;rintro a' wr ⟨node,ds,y63,y9,ec,eb,ea,e8,e7,e6,e5,e4,dZ,dY,dX,dW,dV,dU,dT,dS,dR,dQ,dP,dO,dN,dM,dL,dK,dJ,dI,dH,dG,dF,dE,dD,dC,dB,dA,dz,dy,dx,dw,⟨rfl,fE,HF,b7,HC⟩,rfl⟩;have aH:Hid (RowKit.Below w7.heap.size w7 wr):=eX.out.grown b7.out eX.out.size (fun j e=>by cases e;exact bM.out);have d9:Hid (∀i,i<Y3.heap.size->i≠G->wr.heap[i]?=Y3.heap[i]?):=fun i h1 h2=>b7.out.block i h1 (fun e=>h2 (by cases e;rfl));have di:Boxed wr p8 88 (.pointer (some ⟨BM,0,none⟩)):=(d9.out p8 eM.out.lt (Ne.symm cf.out)).trans eM.out;have eL:=ax3 di;clear c0 c1;have c0:=di.cell;clear di eB
  by_cases aB:node<n
  ·
   have hd:decide ((node:Int)<(n:Int))=true:=by simp;omega
   obtain⟨e0,e1,e2,e3⟩:=eH.out wr aH.out;have l5:w5.heap.size<wr.heap.size:=ax6 eI.out aH.out.size;have l8:p8<wr.heap.size:=eL.out.lt
   go_wp2_with (go_at_call 93;refine (anr ⟨ua,un,uc,da,dn,dc,some ⟨b0,o0,none⟩,n,xc,ba,bn,bc⟩ (some ⟨q,0,none⟩) n n (node:Int) _).mono ?_;rintro e A ⟨rfl,aw⟩)
   try simp only [TV.cells]
   obtain⟨A,aw⟩:∃W,W=((((wr.alloc (.cells #[.int .i64 (node:Int)] 3)).alloc (.cells #[.slice ua un uc,.slice da dn dc,.slice (some ⟨b0,o0,none⟩) n xc,.slice ba bn bc] 150)).alloc (.cells #[.slice (some ⟨q,0,none⟩) n n] 30)).alloc (.cells #[.int .i64 (node:Int)] 3)):=⟨_,rfl⟩;have hO:Bx wr.heap.size [.cells #[.int .i64 (node:Int)] 3,.cells #[.slice ua un uc,.slice da dn dc,.slice (some ⟨b0,o0,none⟩) n xc,.slice ba bn bc] 150,.cells #[.slice (some ⟨q,0,none⟩) n n] 30,.cells #[.int .i64 (node:Int)] 3] A:=by rw [aw];exact ((((Bx.nil _ wr).snoc _ rfl).snoc _ (by simp)).snoc _ (by simp)).snoc _ (by simp)
   have ay:RowKit.Below wr.heap.size wr A:=by rw [aw];exact (((aa1 wr _).alloc (by simp) _).alloc (by simp;omega) _).alloc (by simp;omega) _
   have fx:A.heap.size=wr.heap.size+1+1+1+1:=by rw [aw];simp
   rw [<-aw];clear aw e0 e1 e2 e3;have ez:Boxed A wr.heap.size 3 (.int .i64 (node:Int)):=hO 0 _ rfl;have ey:A.heap[wr.heap.size+1]?=_:=hO 1 _ rfl;have ew:Boxed A (wr.heap.size+1+1) 30 (.slice (some ⟨q,0,none⟩) n n):=hO 2 _ rfl;have ev:Boxed A (wr.heap.size+1+1+1) 3 (.int .i64 (node:Int)):=hO 3 _ rfl;have aT:RowKit.Below w7.heap.size w7 A:=aH.out.trans (ay.mono aH.out.size);have bX:aaa q (aay wss) A:=(aT.block q eo.out).trans fk.out;have cg:G<wr.heap.size:=ax6 f5.out b7.out.size;have f4:=aH.out.size;have fD:q<G:=ax6 eo.out bM.out;have fH:b0<G:=ax6 cm.out bM.out;have d6:=ajL wss (wr.heap.size+1+1+1) (wr.heap.size+1+1) (wr.heap.size+1) q n b0 o0 xc n node _ _ _ (fun k=>k<A.heap.size/\k≠G) 8 A ey bX HN.out (by have:=bS.out;omega) (fun i v hv=>(aT.cell (p:=⟨b0,o0+i,none⟩) cm.out).trans (fv.out i v hv)) ew ev ⟨⟨by omega,by omega⟩,⟨by omega,by omega⟩,⟨by omega,by omega⟩,⟨by omega,by omega⟩,⟨by omega,by omega⟩⟩ (fun k hk=>hk.1) ⟨by omega,by omega,by omega,by omega⟩ aB;obtain⟨vs,d5,ej,eZ,bd,b9⟩:=HF.out;have eY:((List.range node).map (aaD wss)).length=node:=by simp
   have ei:vs[node]?=some (none,0,0):=by
    have h1:node<vs.length:=by omega
    have h2:=bd node vs[node] (by omega) (by simp [h1]);rw [ay4 h1,h2]
   have bV:vs.set node (none,0,0)=vs:=by
    apply ayX
    intro i;rw [ayH]
    split
    · rename_i h;subst h;rw [if_pos (by omega),ei]
    · rfl
   have bY:A.heap[G]?=some (.cells (vs.map svV).toArray 30 (0,0)):=(ay.block G cg).trans d5;have eV:acf G A.heap.size vs node [] A:=⟨(none,0,0),by rw [bV];exact bY,ayy _ _ _ _⟩;have eG:=ax3 d5;have aP:Hid (vs.length=n):=ej;have eS:=ax3 bd;have fj:=ax3 b9;have fm:=ax3 ez;have fB:=ax3 aT;have cj:=ax3 ay;have cd:Boxed A p8 88 (.pointer (some ⟨BM,0,none⟩)):=(ay.block p8 l8).trans eL.out;have eN:=ax3 cd;have eA:Hid (BM<wr.heap.size):=ax6 aK.out.lt b7.out.size;have eU:Hid (A.cell? ⟨BM,263,none⟩=some (.slice (some ⟨G,0,none⟩) n n)):=(axp (a:=⟨BM,263,none⟩) ((ay.block BM eA.out).trans (d9.out BM aK.out.lt (Ne.symm bq.out)))).trans aK.out.cells.2.2.2.2.2.2.2;have f1:(aaD wss node).length<=1000000:=by have:=acI wss node;have:=bS.out;omega
   clear d5 ej bd b9 ez ey ew ev hO aT ay bX bV ei bY cd eZ
   apply atK rfl (enters_of func137 (by kernel_rfl) rfl) d6 (fun r hr=>by rw [hr];omega) abp (ad2 fun k hk=>hk.1) (fun _=>rfl) (hKr:=fun _ _ _=>rfl)
    (fun ag W=>acf G A.heap.size vs node ag W/\((∀k,k<A.heap.size->k≠G/\k≠wr.heap.size+1+1+1->W.heap[k]?=A.heap[k]?)/\A.heap.size<=W.heap.size)/\RowKit.Below G A W)
    (fun _ _ _=>False)
   case hI=>exact aaZ.and (amm (by omega) (by omega) id) (aaZ.and (aoZ (G:=G) (fun k _ h=>h.2)) (aaZ.below (by omega) (by omega) (fun r hr=>by rw [hr];omega)))
   case hIx=>exact fun _ _ _ _ _ hs _ _=>hs
   case h0=>exact⟨eV,⟨fun _ _ _=>rfl,axe _⟩,ayZ _ _⟩
   case hassign=>
    intro l x W K J;unfold auc
    gi_wp2
    exact J
   case hbody=>
    rintro l ag u W ⟨⟨⟨va,vn,vc⟩,hv,a6⟩,⟨aZ,f3⟩,bt⟩ fz
    try dsimp only
    obtain⟨fL,fK,he,fA,_⟩:=aaC (enc:=Value.int .i64) a6;simp only [svV,ayL] at he;obtain⟨rfl,rfl,rfl⟩:=he;have fI:ag.length<=1000:=by have:=bS.out;omega
    obtain⟨i0,hi,bA,b8,bz⟩:=info_parts ac8;have fl:=ax3 a6;have HV:=ax3 hv;have fg:G<W.heap.size:=by omega
    have KC:Hid (∀X,acJ A.heap.size G W X->X.cell? ⟨p8,0,none⟩=some (.pointer (some ⟨BM,0,none⟩))/\X.cell? ⟨BM,263,none⟩=some (.slice (some ⟨G,0,none⟩) n n)/\X.cell? ⟨wr.heap.size,0,none⟩=some (.int .i64 (node:Int))):=fun X hX=>by
     have h1:∀k,k<wr.heap.size+1->k≠G->X.heap[k]?=A.heap[k]?:=fun k ha hb=>(hX.1 k (by omega) hb).trans (aZ k (by omega) ⟨hb,by omega⟩);exact⟨(axp (a:=⟨p8,0,none⟩) (h1 p8 (by omega) (Ne.symm cf.out))).trans eN.out.cell,(axp (a:=⟨BM,263,none⟩) (h1 BM (by have:=eA.out;omega) (Ne.symm bq.out))).trans eU.out,(axp (a:=⟨wr.heap.size,0,none⟩) (h1 wr.heap.size (by omega) (by omega))).trans fm.out.cell⟩
    have i1:(0:Int)<=(node:Int):=by omega
    have i2:(node:Int)<(n:Int):=by omega
    clear hv a6 d6 c0
    gi_wp2
    have f2:W.drew.heap[G]?=some (.cells ((vs.set node (va,ag.length,vc)).map svV).toArray 30 (0,0)):=HV.out;have aN:W.drew.ownsRow A.heap.size 3 1 (.slice va ag.length vc) ag.length (ag.map (Value.int .i64)):=fl.out;have bv:=ax3 f2;have aU:Hid (ams W.drew A.heap.size (.slice va ag.length vc) ag):=aN;have em:SlK 1 (W.drew.alloc (.cells #[.int .i64 u] 3)) (some ⟨W.drew.heap.size,0,none⟩) 1 [.int .i64 u]:=auu W.drew u;refine acD (S:=acJ A.heap.size G W) mixed (by kernel_rfl) ⟨fun _ _ _=>rfl,(by show A.heap.size<=W.heap.size;omega)⟩ (fun hHeld=>?_);refine tkB 0 KC.out ?_;refine tkB 1 KC.out ?_;refine tkB 2 KC.out ?_;refine tkB 3 KC.out ?_;refine tkB 4 KC.out ?_;refine tkB 5 KC.out ?_;refine tkB 6 KC.out ?_;refine tkB 7 KC.out ?_;refine tkB 8 KC.out ?_;refine tkB 9 KC.out ?_;refine tkB 10 KC.out ?_;refine tkA 12 ?_;refine awN 11 13 (fun K J=>?_) (fun K J=>?_)
    ·
     have c6:=acf.cell (B:=0) bv.out (by rw [aP.out];exact aB);have ad:=hHeld;go_simp;refine J.out _ _ ?_ (fun U=>?_)
     · exact ad
     clear J K hHeld ad;have hHeld:=U;clear U
     try simp only [Act.put,pA,pB,pC]
     refine rdy 13 (fun K J=>?_);have ad:=hHeld;go_simp;refine J.out _ _ ?_ (fun U=>?_)
     · exact aeE ad _
     clear J K hHeld ad c6;have hHeld:=U;clear U
     try simp only [Act.put,pA,pB,pC]
     refine rdy 14 (fun K J=>?_);refine acY (by kernel_rfl) ?_;refine abA _ _ _ 30 rfl A.heap.size 3 i0 (.int .i64 0) 1 8 underlying30 hi bA b8 bz rfl (by decide) _ _ _ rfl (aN.alloc _) (some ⟨W.drew.heap.size,0,none⟩) 1 1 [.int .i64 u] rfl em (by simp [Value.oneCell']) (by unfold maxLen;omega) (by omega) (by show A.heap.size<=(W.heap.push _).size;simp;omega) ?_;intro v' aL ao ah fc;obtain⟨g',aI,rfl⟩:=ownsRow_succ ao;obtain⟨b1,b2,b3,b4,b5⟩:=acf.app (u:=(some ⟨g',0,none⟩,ag.length+1,aI)) bv.out aU.out (by omega) (by show A.heap.size<=W.heap.size;omega) ao ah;have d1:=acf.cell (B:=0) b1 (by rw [aP.out];exact aB);have d2:=apt b1 node;have d3:G<aL.heap.size:=(awU.1 b1).1;have ax:∀k,k<A.heap.size->(Value.slice va ag.length vc).ownBlock≠some k:=fun k hk e=>by have:=(aap aU.out k e).1;omega
     have bl:acJ A.heap.size G W aL:=⟨fun k h1 h2=>(ah.block k (by show k<(W.heap.push _).size;simp;omega) (fun e=>ax k h1 e.symm)).trans ((aa1 W.drew _).block k (by show k<W.heap.size;omega)),awT (by show A.heap.size<=(W.heap.push _).size;simp;omega) ah.size⟩;refine J.out _ _ bl (fun U=>?_);clear J K hHeld;have hHeld:=U;clear U
     try simp only [Act.put,pA,pB,pC]
     refine tkA 15 ?_;refine rdy 16 (fun K J=>?_);go_simp;have bk:acJ A.heap.size G W (aL.setCell ⟨G,node,none⟩ (.slice (some ⟨g',0,none⟩) (ag.length+1) aI)):=⟨fun k h1 h2=>b4 k h1 h2,by have h1:=bl.2;simpa [World.setCell] using h1⟩;refine J.out _ _ ?_ (fun U=>?_)
     · exact bk
     clear J K hHeld U;refine wpAnyH_done (by kernel_rfl) ?_ _;refine agF.normal ?_
     gi_wp2
     exact⟨(show KeepsOthers W _ from ⟨b3.size,b3.same⟩).from _,fun k hk=>b4 k hk.1 hk.2,b2,⟨fun k h1 h2=>(b4 k h1 h2.1).trans (aZ k h1 h2),bk.2⟩,bt.trans (((aa2 W 1).mono (by omega)).trans b5)⟩
    ·
     have ad:=hHeld;go_simp;refine J.out _ _ ?_ (fun U=>?_)
     · exact aeE ad _
     clear J K hHeld ad;have hHeld:=U;clear U
     try simp only [Act.put,pA,pB,pC]
     refine rdy 11 (fun K J=>?_);have c6:=acf.cell (B:=0) bv.out (by rw [aP.out];exact aB);have c8:=acf.cell (B:=0) HV.out (by rw [aP.out];exact aB);have c7:=acf.cell (B:=0) ((axi W.drew (.cells #[.int .i64 u] 3) G fg).trans bv.out) (by rw [aP.out];exact aB);have ad:=hHeld;go_simp;refine J.out _ _ ?_ (fun U=>?_)
     · exact ad
     clear J K hHeld ad c7 c6 c8;have hHeld:=U;clear U
     try simp only [Act.put,pA,pB,pC]
     refine rdy 14 (fun K J=>?_);refine acY (by kernel_rfl) ?_;refine abA _ _ _ 30 rfl A.heap.size 3 i0 (.int .i64 0) 1 8 underlying30 hi bA b8 bz rfl (by decide) _ _ _ rfl (aN.alloc _) (some ⟨W.drew.heap.size,0,none⟩) 1 1 [.int .i64 u] rfl em (by simp [Value.oneCell']) (by unfold maxLen;omega) (by omega) (by show A.heap.size<=(W.heap.push _).size;simp;omega) ?_;intro v' aL ao ah fc;obtain⟨g',aI,rfl⟩:=ownsRow_succ ao;obtain⟨b1,b2,b3,b4,b5⟩:=acf.app (u:=(some ⟨g',0,none⟩,ag.length+1,aI)) bv.out aU.out (by omega) (by show A.heap.size<=W.heap.size;omega) ao ah;have d1:=acf.cell (B:=0) b1 (by rw [aP.out];exact aB);have d2:=apt b1 node;have d3:G<aL.heap.size:=(awU.1 b1).1;have ax:∀k,k<A.heap.size->(Value.slice va ag.length vc).ownBlock≠some k:=fun k hk e=>by have:=(aap aU.out k e).1;omega
     have bl:acJ A.heap.size G W aL:=⟨fun k h1 h2=>(ah.block k (by show k<(W.heap.push _).size;simp;omega) (fun e=>ax k h1 e.symm)).trans ((aa1 W.drew _).block k (by show k<W.heap.size;omega)),awT (by show A.heap.size<=(W.heap.push _).size;simp;omega) ah.size⟩;refine J.out _ _ bl (fun U=>?_);clear J K hHeld;have hHeld:=U;clear U
     try simp only [Act.put,pA,pB,pC]
     refine tkA 15 ?_;refine rdy 16 (fun K J=>?_);go_simp;have bk:acJ A.heap.size G W (aL.setCell ⟨G,node,none⟩ (.slice (some ⟨g',0,none⟩) (ag.length+1) aI)):=⟨fun k h1 h2=>b4 k h1 h2,by have h1:=bl.2;simpa [World.setCell] using h1⟩;refine J.out _ _ ?_ (fun U=>?_)
     · exact bk
     clear J K hHeld U;refine wpAnyH_done (by kernel_rfl) ?_ _;refine agF.normal ?_
     gi_wp2
     exact⟨(show KeepsOthers W _ from ⟨b3.size,b3.same⟩).from _,fun k hk=>b4 k hk.1 hk.2,b2,⟨fun k h1 h2=>(b4 k h1 h2.1).trans (aZ k h1 h2),bk.2⟩,bt.trans (((aa2 W 1).mono (by omega)).trans b5)⟩
   case hstop=>exact fun _ _ _ _ _ _ h _=>h.elim
   case hdone=>
    rintro D zs W hD hS ⟨hH,⟨aZ,f3⟩,bt⟩ eD;subst hS;have az:∀i,i<wr.heap.size->i≠G->W.heap[i]?=wr.heap[i]?:=fun i h1 h2=>(aZ i (by omega) ⟨h2,by omega⟩).trans (cj.out.block i h1);have ek:wr.heap.size<=W.heap.size:=by omega
    have ft:Hid (ag4 G n ((List.range (node+1)).map (aaD wss)) W):=by
     rw [Hid,ayt,ay7];exact ag4.step eG.out aP.out eY aB eS.out fj.out (by omega) hH az ek
    have bg:=(cj.out.mono (axd cg)).trans bt;have fs:Hid (Y3.grownBy W (some G)):=aj6 b7.out ⟨bg.os,bg.tape,bg.output,bg.size,fun i hi be=>az i hi (fun e=>be (by rw [e]))⟩;have fw:Hid (aet w7.heap.size W ({ target:=.collected D,args:=#[] } :: ds)):=aet.push HC.out az (fun l e=>by rw [eG.out] at e;cases e) (by omega) eD f4;clear hH aZ bt bg az d6 eD eV;have bf:=bS.out;dsimp only
    go_wp2_with fail
    refine⟨⟨node+1,_,_,_,_,_,_,_,_,_,_,_,_,_,_,_,_,_,_,_,_,_,_,_,_,_,_,_,_,_,_,_,_,_,_,_,_,_,_,_,_,_,⟨by simp,by omega,ft,fs,fw⟩,rfl⟩,?_⟩;show n-(intOf (.int .i64 ((node:Int)+1))).toNat<n-(intOf (.int .i64 (node:Int))).toNat;simp only [intOf];omega
  ·
   have hd:decide ((node:Int)<(n:Int))=false:=by simp;omega
   have be:Hid (node=n):=by rw [Hid];omega
   go_wp2_with fail
   show LeavesInM Fence.wide 9 ZP _ _ _ _ .returning wr;refine awz (Q:=w7.heap.size) ds wr aH.out.size HC.out (fun W' hT=>⟨_,results_tmp2 rfl _ _ _,?_⟩);have eg:=eO.out.turned b7.out fq.out (of_decide_eq_true (by kernel_rfl)) (of_decide_eq_true (by kernel_rfl));have ef:=eg;obtain⟨a9,c9,e9,fG,bU⟩:=eg.wds;rw [bT.out] at e9 bU
   cases e9
   have ff:=aD.block R aM.lt;have fe:R<w7.heap.size:=ax6 aM.lt aD.size;have ax:=HF.out.far (q:=w.heap.size) (awT ab.out.size bM.out);rw [be.out] at ax;have eC:atH w.heap.size wr BM R av la cv wss (some ⟨G,0,none⟩):=⟨awT ab.out.size eW.out,fi.out,ef.lower ab.out.size,by rw [HN.out];exact ax⟩;refine⟨BM,R,cv,n,av,some ⟨G,0,none⟩,rfl,hT.mok ⟨?_,?_,?_,?_⟩,ab.out.trans ((aH.out.trans hT.1).mono ab.out.size),eC.kept hT.kept⟩
   · rw [fo.out,HM.out,HN.out,fp.out];exact⟨(d9.out BM aK.out.lt (Ne.symm bq.out)).trans aK.out.box,ar⟩
   · exact (aH.out.block R fe).trans (ff.trans aM)
   · exact bU
   · rw [HN.out];have hl:=HF.out.lls (by simp;exact be.out);rw [be.out] at hl;exact hl
 refine wp_region_noPanic ?_;refine wp_region_held_drew (S:=RowKit.Below w7.heap.size w7) (by kernel_rfl) (aa2 w7 1) (fun hHeld=>?_);obtain⟨w8,eh⟩:∃W,W=w7.drew:=⟨_,rfl⟩;rw [<-eh] at hHeld ⊢;clear eh;refine tkA 0 ?_;refine' wpAnyH_take (i:=1) (v:=_) (by simp only [pD,pE,pF];rfl) (by as_aux_lemma=>kernel_rfl) (by as_aux_lemma=>kernel_rfl) (by as_aux_lemma=>kernel_rfl) (fun _ _ _ h=>h) (yieldsIf_load_mid (by rfl) _ _ rfl w3.heap.size 0 rfl (L.map (Value.int .i64)) _ (fun V hV=>(HK.out V hV).range) underlying144 rfl bx.out) (by assumption) ?_
 try simp only [Act.put,pA,pB,pC]
 refine tkA 2 ?_;refine tkW 3 (v:=?_) ?_ ?_;rotate_left
 ·
  intro V hV;have r0:=(HK.out V hV).cells.1
  first | (go_simp;done) | (go_simp;with_reducible rfl)
 try simp only [Act.put,pA,pB,pC]
 refine' wpAnyH_take (i:=4) (v:=_) (by simp only [pD,pE,pF];rfl) (by as_aux_lemma=>kernel_rfl) (by as_aux_lemma=>kernel_rfl) (by as_aux_lemma=>kernel_rfl) (fun _ _ _ h=>h) (afC (by rfl) _ _ rfl w3.heap.size rfl 146 _ (0,0) _ (fun V hV=>(HK.out V hV).box) underlying146 rfl cl.out) (by assumption) ?_
 try simp only [Act.put,pA,pB,pC]
 refine tkA 6 ?_;refine tkW 7 (v:=?_) ?_ ?_;rotate_left
 ·
  intro V hV;have r0:=(HK.out V hV).cells.2
  first | (go_simp;done) | (go_simp;with_reducible rfl)
 try simp only [Act.put,pA,pB,pC]
 refine tkB 9 eK.out ?_;refine tkB 11 eK.out ?_;refine tkB 13 eH.out ?_;refine awN 5 17 (fun K J=>?_) (fun K J=>?_);rotate_left
 ·
  go_simp;refine J.out _ _ (hHeld.alloc hHeld.size _) (fun U=>?_);obtain⟨a7,H⟩:∃V,V=(w8).alloc (.cells #[.pointer none] 88):=⟨_,rfl⟩;have af:RowKit.Below (w8).heap.size (w8) a7:=by rw [H];exact aa1 _ _
  have z:Boxed a7 (w8).heap.size 88 (.pointer none):=by rw [H];exact Boxed.new _ _ _
  have ac:Hid (w7.heap.size<=(w8).heap.size):=hHeld.size;rw [<-H] at U ⊢;clear H;clear J K hHeld;have hHeld:=U;clear U
  try simp only [Act.put,pA,pB,pC]
  refine rdy 5 (fun K J=>?_);go_simp
  go_at_call 89;refine (afJ L m (some ⟨R,0,none⟩) k k _ ar (by omega)).mono ?_;rintro e V5 ⟨rfl,aC⟩;rw [dt.out]
  refine J.out _ _ (hHeld.trans (aC.mono hHeld.size)) (fun U=>?_);have z:Boxed V5 (w8).heap.size 88 (.pointer none):=(aC.block _ z.lt).trans z;clear J K hHeld;have hHeld:=U;clear U
  try simp only [Act.put,pA,pB,pC]
  refine' wpAnyH_take (i:=8) (v:=_) (by simp only [pD,pE,pF];rfl) (by as_aux_lemma=>kernel_rfl) (by as_aux_lemma=>kernel_rfl) (by as_aux_lemma=>kernel_rfl) (fun _ _ _ h=>h) (aaO (by rfl) _ _ rfl ZT (by go_simp;exact aR.out)) (by assumption) ?_
  try simp only [Act.put,pA,pB,pC]
  refine rdy 10 (fun K J=>?_);go_simp
  go_at_call 90;refine (bR.out _ (ab.out.trans (hHeld.mono ab.out.size))).mono ?_;rintro e ae ⟨v,rfl,a6,ap⟩;obtain⟨av,cv,rfl,am,aF⟩:=a6.wds;have a2:adq ae w7.heap.size (.slice av wss.length cv) wss:=adq.lower a6 hHeld.size;rw [bT.out] at a2 am ⊢;have N:=ax3 a2;clear a6 a2 aF
  refine J.out _ _ (hHeld.trans (ap.mono hHeld.size)) (fun U=>?_);have z:Boxed ae (w8).heap.size 88 (.pointer none):=(ap.block _ z.lt).trans z;clear J K hHeld;have hHeld:=U;clear U
  try simp only [Act.put,pA,pB,pC]
  obtain⟨ZM,aj⟩:∃Z,(aA++[Value.bool fold,Value.slice av la cv,Value.int .i64 (aaY wss),Value.int .i64 ((ad7 wss n:Nat):Int),Value.slice none 0 0]).toArray=Z:=⟨_,rfl⟩;have aa:Hid (ZP.built 162 [(0,.agg ZT),(1,.agg #[.bool fold,.slice av la cv]),(2,.int .i64 (aaY wss)),(3,.int .i64 ((ad7 wss n:Nat):Int))]=some ZM):=by rw [Hid,<-aj,<-bO.out];exact adx aA fold av la cv _ _ bQ.out
  have aJ:=ax3 aj;clear aj;refine rdy 12 (fun K J=>?_);go_simp
  go_at_call 91;refine (bw.out _ (ab.out.trans (hHeld.mono ab.out.size))).mono ?_;rintro e al ⟨rfl,y⟩
  refine J.out _ _ (hHeld.trans (y.mono hHeld.size)) (fun U=>?_);have N:=ax3 (N.out.below y);have z:Boxed al (w8).heap.size 88 (.pointer none):=(y.block _ z.lt).trans z;clear J K hHeld;have hHeld:=U;clear U
  try simp only [Act.put,pA,pB,pC]
  refine rdy 14 (fun K J=>?_);go_simp
  go_at_call 92;refine (aQ.out _ _ (au.out.below hHeld) aV).mono ?_;rintro e I ⟨rfl,o⟩
  refine J.out _ _ (hHeld.trans (o.mono hHeld.size)) (fun U=>?_);have N:=ax3 (N.out.below o);have z:Boxed I (w8).heap.size 88 (.pointer none):=(o.block _ z.lt).trans z;clear J K hHeld;have hHeld:=U;clear U
  try simp only [Act.put,pA,pB,pC]
  refine' wpAnyH_take (i:=15) (v:=_) (by simp only [pD,pE,pF];rfl) (by as_aux_lemma=>kernel_rfl) (by as_aux_lemma=>kernel_rfl) (by as_aux_lemma=>kernel_rfl) (fun _ _ _ h=>h) (aaO (by rfl) _ _ rfl ZM (by go_simp;exact aa.out)) (by assumption) ?_
  try simp only [Act.put,pA,pB,pC]
  refine rdy 16 (fun K J=>?_);go_simp;refine J.out _ _ (hHeld.alloc hHeld.size _) (fun U=>?_);obtain⟨s,C⟩:∃V,V=(I).alloc (.cells ZM 162):=⟨_,rfl⟩;have a1:RowKit.Below (I).heap.size (I) s:=by rw [C];exact aa1 _ _
  have ai:Hid (s.heap[(I).heap.size]?=some (.cells ZM 162 (0,0))):=by rw [Hid,C];exact heap_alloc_new _ _
  have ak:Hid (w7.heap.size<=(I).heap.size):=hHeld.size;have a8:Hid ((I).heap.size≠(w8).heap.size):=by have:=z.lt;rw [Hid];omega
  rw [<-C] at U ⊢;clear C;have N:=ax3 (N.out.below a1);have z:Boxed s (w8).heap.size 88 (.pointer none):=(a1.block _ z.lt).trans z;clear J K hHeld;have hHeld:=U;clear U
  try simp only [Act.put,pA,pB,pC]
  refine rdy 18 (fun K J=>?_);have q0:=z.cell;have q1:=z.frozen;have q2:=z.lt;go_simp;refine J.out _ _ (hHeld.setCell ac.out _) (fun U=>?_);clear J K hHeld;have hHeld:=U;clear U
  try simp only [Act.put,pA,pB,pC]
  refine wpAnyH_done (by kernel_rfl) ?_ _;refine ax4 ?_;exact⟨_,_,cv,av,ZM,_,_,_,_,_,_,_,_,_,_,_,_,_,_,_,_,_,_,_,_,_,_,_,_,_,_,_,_,_,_,_,_,_,_,_,_,_,_,_,_,rfl,z.set _,(axn _ _ _ _ a8.out).trans ai.out,aJ.out,N.out.turned (aa9 _ _ 0 _) z (of_decide_eq_true (by kernel_rfl)) (of_decide_eq_true (by kernel_rfl)),hHeld,ac.out,ak.out,am,a8.out⟩
 go_simp
 go_at_call 89;refine (afJ L m (some ⟨R,0,none⟩) k k _ ar (by omega)).mono ?_;rintro e V5 ⟨rfl,aC⟩;rw [dt.out]
 refine J.out _ _ (hHeld.trans (aC.mono hHeld.size)) (fun U=>?_);clear J K hHeld;have hHeld:=U;clear U
 try simp only [Act.put,pA,pB,pC]
 refine' wpAnyH_take (i:=8) (v:=_) (by simp only [pD,pE,pF];rfl) (by as_aux_lemma=>kernel_rfl) (by as_aux_lemma=>kernel_rfl) (by as_aux_lemma=>kernel_rfl) (fun _ _ _ h=>h) (aaO (by rfl) _ _ rfl ZT (by go_simp;exact aR.out)) (by assumption) ?_
 try simp only [Act.put,pA,pB,pC]
 refine awN 10 17 (fun K J=>?_) (fun K J=>?_);rotate_left
 ·
  go_simp;refine J.out _ _ (hHeld.alloc hHeld.size _) (fun U=>?_);obtain⟨a7,H⟩:∃V,V=(V5).alloc (.cells #[.pointer none] 88):=⟨_,rfl⟩;have af:RowKit.Below (V5).heap.size (V5) a7:=by rw [H];exact aa1 _ _
  have z:Boxed a7 (V5).heap.size 88 (.pointer none):=by rw [H];exact Boxed.new _ _ _
  have ac:Hid (w7.heap.size<=(V5).heap.size):=hHeld.size;rw [<-H] at U ⊢;clear H;clear J K hHeld;have hHeld:=U;clear U
  try simp only [Act.put,pA,pB,pC]
  refine rdy 10 (fun K J=>?_);go_simp
  go_at_call 90;refine (bR.out _ (ab.out.trans (hHeld.mono ab.out.size))).mono ?_;rintro e ae ⟨v,rfl,a6,ap⟩;obtain⟨av,cv,rfl,am,aF⟩:=a6.wds;have a2:adq ae w7.heap.size (.slice av wss.length cv) wss:=adq.lower a6 hHeld.size;rw [bT.out] at a2 am ⊢;have N:=ax3 a2;clear a6 a2 aF
  refine J.out _ _ (hHeld.trans (ap.mono hHeld.size)) (fun U=>?_);have z:Boxed ae (V5).heap.size 88 (.pointer none):=(ap.block _ z.lt).trans z;clear J K hHeld;have hHeld:=U;clear U
  try simp only [Act.put,pA,pB,pC]
  obtain⟨ZM,aj⟩:∃Z,(aA++[Value.bool fold,Value.slice av la cv,Value.int .i64 (aaY wss),Value.int .i64 ((ad7 wss n:Nat):Int),Value.slice none 0 0]).toArray=Z:=⟨_,rfl⟩;have aa:Hid (ZP.built 162 [(0,.agg ZT),(1,.agg #[.bool fold,.slice av la cv]),(2,.int .i64 (aaY wss)),(3,.int .i64 ((ad7 wss n:Nat):Int))]=some ZM):=by rw [Hid,<-aj,<-bO.out];exact adx aA fold av la cv _ _ bQ.out
  have aJ:=ax3 aj;clear aj;refine rdy 12 (fun K J=>?_);go_simp
  go_at_call 91;refine (bw.out _ (ab.out.trans (hHeld.mono ab.out.size))).mono ?_;rintro e al ⟨rfl,y⟩
  refine J.out _ _ (hHeld.trans (y.mono hHeld.size)) (fun U=>?_);have N:=ax3 (N.out.below y);have z:Boxed al (V5).heap.size 88 (.pointer none):=(y.block _ z.lt).trans z;clear J K hHeld;have hHeld:=U;clear U
  try simp only [Act.put,pA,pB,pC]
  refine rdy 14 (fun K J=>?_);go_simp
  go_at_call 92;refine (aQ.out _ _ (au.out.below hHeld) aV).mono ?_;rintro e I ⟨rfl,o⟩
  refine J.out _ _ (hHeld.trans (o.mono hHeld.size)) (fun U=>?_);have N:=ax3 (N.out.below o);have z:Boxed I (V5).heap.size 88 (.pointer none):=(o.block _ z.lt).trans z;clear J K hHeld;have hHeld:=U;clear U
  try simp only [Act.put,pA,pB,pC]
  refine' wpAnyH_take (i:=15) (v:=_) (by simp only [pD,pE,pF];rfl) (by as_aux_lemma=>kernel_rfl) (by as_aux_lemma=>kernel_rfl) (by as_aux_lemma=>kernel_rfl) (fun _ _ _ h=>h) (aaO (by rfl) _ _ rfl ZM (by go_simp;exact aa.out)) (by assumption) ?_
  try simp only [Act.put,pA,pB,pC]
  refine rdy 16 (fun K J=>?_);go_simp;refine J.out _ _ (hHeld.alloc hHeld.size _) (fun U=>?_);obtain⟨s,C⟩:∃V,V=(I).alloc (.cells ZM 162):=⟨_,rfl⟩;have a1:RowKit.Below (I).heap.size (I) s:=by rw [C];exact aa1 _ _
  have ai:Hid (s.heap[(I).heap.size]?=some (.cells ZM 162 (0,0))):=by rw [Hid,C];exact heap_alloc_new _ _
  have ak:Hid (w7.heap.size<=(I).heap.size):=hHeld.size;have a8:Hid ((I).heap.size≠(V5).heap.size):=by have:=z.lt;rw [Hid];omega
  rw [<-C] at U ⊢;clear C;have N:=ax3 (N.out.below a1);have z:Boxed s (V5).heap.size 88 (.pointer none):=(a1.block _ z.lt).trans z;clear J K hHeld;have hHeld:=U;clear U
  try simp only [Act.put,pA,pB,pC]
  refine rdy 18 (fun K J=>?_);have q0:=z.cell;have q1:=z.frozen;have q2:=z.lt;go_simp;refine J.out _ _ (hHeld.setCell ac.out _) (fun U=>?_);clear J K hHeld;have hHeld:=U;clear U
  try simp only [Act.put,pA,pB,pC]
  refine wpAnyH_done (by kernel_rfl) ?_ _;refine ax4 ?_;exact⟨_,_,cv,av,ZM,_,_,_,_,_,_,_,_,_,_,_,_,_,_,_,_,_,_,_,_,_,_,_,_,_,_,_,_,_,_,_,_,_,_,_,_,_,_,_,_,rfl,z.set _,(axn _ _ _ _ a8.out).trans ai.out,aJ.out,N.out.turned (aa9 _ _ 0 _) z (of_decide_eq_true (by kernel_rfl)) (of_decide_eq_true (by kernel_rfl)),hHeld,ac.out,ak.out,am,a8.out⟩
 go_simp
 go_at_call 90;refine (bR.out _ (ab.out.trans (hHeld.mono ab.out.size))).mono ?_;rintro e ae ⟨v,rfl,a6,ap⟩;obtain⟨av,cv,rfl,am,aF⟩:=a6.wds;have a2:adq ae w7.heap.size (.slice av wss.length cv) wss:=adq.lower a6 hHeld.size;rw [bT.out] at a2 am ⊢;have N:=ax3 a2;clear a6 a2 aF
 refine J.out _ _ (hHeld.trans (ap.mono hHeld.size)) (fun U=>?_);clear J K hHeld;have hHeld:=U;clear U
 try simp only [Act.put,pA,pB,pC]
 obtain⟨ZM,aj⟩:∃Z,(aA++[Value.bool fold,Value.slice av la cv,Value.int .i64 (aaY wss),Value.int .i64 ((ad7 wss n:Nat):Int),Value.slice none 0 0]).toArray=Z:=⟨_,rfl⟩;have aa:Hid (ZP.built 162 [(0,.agg ZT),(1,.agg #[.bool fold,.slice av la cv]),(2,.int .i64 (aaY wss)),(3,.int .i64 ((ad7 wss n:Nat):Int))]=some ZM):=by rw [Hid,<-aj,<-bO.out];exact adx aA fold av la cv _ _ bQ.out
 have aJ:=ax3 aj;clear aj;refine awN 12 17 (fun K J=>?_) (fun K J=>?_);rotate_left
 ·
  go_simp;refine J.out _ _ (hHeld.alloc hHeld.size _) (fun U=>?_);obtain⟨a7,H⟩:∃V,V=(ae).alloc (.cells #[.pointer none] 88):=⟨_,rfl⟩;have af:RowKit.Below (ae).heap.size (ae) a7:=by rw [H];exact aa1 _ _
  have z:Boxed a7 (ae).heap.size 88 (.pointer none):=by rw [H];exact Boxed.new _ _ _
  have ac:Hid (w7.heap.size<=(ae).heap.size):=hHeld.size;rw [<-H] at U ⊢;clear H;have N:=ax3 (N.out.below af);clear J K hHeld;have hHeld:=U;clear U
  try simp only [Act.put,pA,pB,pC]
  refine rdy 12 (fun K J=>?_);go_simp
  go_at_call 91;refine (bw.out _ (ab.out.trans (hHeld.mono ab.out.size))).mono ?_;rintro e al ⟨rfl,y⟩
  refine J.out _ _ (hHeld.trans (y.mono hHeld.size)) (fun U=>?_);have N:=ax3 (N.out.below y);have z:Boxed al (ae).heap.size 88 (.pointer none):=(y.block _ z.lt).trans z;clear J K hHeld;have hHeld:=U;clear U
  try simp only [Act.put,pA,pB,pC]
  refine rdy 14 (fun K J=>?_);go_simp
  go_at_call 92;refine (aQ.out _ _ (au.out.below hHeld) aV).mono ?_;rintro e I ⟨rfl,o⟩
  refine J.out _ _ (hHeld.trans (o.mono hHeld.size)) (fun U=>?_);have N:=ax3 (N.out.below o);have z:Boxed I (ae).heap.size 88 (.pointer none):=(o.block _ z.lt).trans z;clear J K hHeld;have hHeld:=U;clear U
  try simp only [Act.put,pA,pB,pC]
  refine' wpAnyH_take (i:=15) (v:=_) (by simp only [pD,pE,pF];rfl) (by as_aux_lemma=>kernel_rfl) (by as_aux_lemma=>kernel_rfl) (by as_aux_lemma=>kernel_rfl) (fun _ _ _ h=>h) (aaO (by rfl) _ _ rfl ZM (by go_simp;exact aa.out)) (by assumption) ?_
  try simp only [Act.put,pA,pB,pC]
  refine rdy 16 (fun K J=>?_);go_simp;refine J.out _ _ (hHeld.alloc hHeld.size _) (fun U=>?_);obtain⟨s,C⟩:∃V,V=(I).alloc (.cells ZM 162):=⟨_,rfl⟩;have a1:RowKit.Below (I).heap.size (I) s:=by rw [C];exact aa1 _ _
  have ai:Hid (s.heap[(I).heap.size]?=some (.cells ZM 162 (0,0))):=by rw [Hid,C];exact heap_alloc_new _ _
  have ak:Hid (w7.heap.size<=(I).heap.size):=hHeld.size;have a8:Hid ((I).heap.size≠(ae).heap.size):=by have:=z.lt;rw [Hid];omega
  rw [<-C] at U ⊢;clear C;have N:=ax3 (N.out.below a1);have z:Boxed s (ae).heap.size 88 (.pointer none):=(a1.block _ z.lt).trans z;clear J K hHeld;have hHeld:=U;clear U
  try simp only [Act.put,pA,pB,pC]
  refine rdy 18 (fun K J=>?_);have q0:=z.cell;have q1:=z.frozen;have q2:=z.lt;go_simp;refine J.out _ _ (hHeld.setCell ac.out _) (fun U=>?_);clear J K hHeld;have hHeld:=U;clear U
  try simp only [Act.put,pA,pB,pC]
  refine wpAnyH_done (by kernel_rfl) ?_ _;refine ax4 ?_;exact⟨_,_,cv,av,ZM,_,_,_,_,_,_,_,_,_,_,_,_,_,_,_,_,_,_,_,_,_,_,_,_,_,_,_,_,_,_,_,_,_,_,_,_,_,_,_,_,rfl,z.set _,(axn _ _ _ _ a8.out).trans ai.out,aJ.out,N.out.turned (aa9 _ _ 0 _) z (of_decide_eq_true (by kernel_rfl)) (of_decide_eq_true (by kernel_rfl)),hHeld,ac.out,ak.out,am,a8.out⟩
 go_simp
 go_at_call 91;refine (bw.out _ (ab.out.trans (hHeld.mono ab.out.size))).mono ?_;rintro e al ⟨rfl,y⟩
 refine J.out _ _ (hHeld.trans (y.mono hHeld.size)) (fun U=>?_);have N:=ax3 (N.out.below y);clear J K hHeld;have hHeld:=U;clear U
 try simp only [Act.put,pA,pB,pC]
 refine awN 14 17 (fun K J=>?_) (fun K J=>?_);rotate_left
 ·
  go_simp;refine J.out _ _ (hHeld.alloc hHeld.size _) (fun U=>?_);obtain⟨a7,H⟩:∃V,V=(al).alloc (.cells #[.pointer none] 88):=⟨_,rfl⟩;have af:RowKit.Below (al).heap.size (al) a7:=by rw [H];exact aa1 _ _
  have z:Boxed a7 (al).heap.size 88 (.pointer none):=by rw [H];exact Boxed.new _ _ _
  have ac:Hid (w7.heap.size<=(al).heap.size):=hHeld.size;rw [<-H] at U ⊢;clear H;have N:=ax3 (N.out.below af);clear J K hHeld;have hHeld:=U;clear U
  try simp only [Act.put,pA,pB,pC]
  refine rdy 14 (fun K J=>?_);go_simp
  go_at_call 92;refine (aQ.out _ _ (au.out.below hHeld) aV).mono ?_;rintro e I ⟨rfl,o⟩
  refine J.out _ _ (hHeld.trans (o.mono hHeld.size)) (fun U=>?_);have N:=ax3 (N.out.below o);have z:Boxed I (al).heap.size 88 (.pointer none):=(o.block _ z.lt).trans z;clear J K hHeld;have hHeld:=U;clear U
  try simp only [Act.put,pA,pB,pC]
  refine' wpAnyH_take (i:=15) (v:=_) (by simp only [pD,pE,pF];rfl) (by as_aux_lemma=>kernel_rfl) (by as_aux_lemma=>kernel_rfl) (by as_aux_lemma=>kernel_rfl) (fun _ _ _ h=>h) (aaO (by rfl) _ _ rfl ZM (by go_simp;exact aa.out)) (by assumption) ?_
  try simp only [Act.put,pA,pB,pC]
  refine rdy 16 (fun K J=>?_);go_simp;refine J.out _ _ (hHeld.alloc hHeld.size _) (fun U=>?_);obtain⟨s,C⟩:∃V,V=(I).alloc (.cells ZM 162):=⟨_,rfl⟩;have a1:RowKit.Below (I).heap.size (I) s:=by rw [C];exact aa1 _ _
  have ai:Hid (s.heap[(I).heap.size]?=some (.cells ZM 162 (0,0))):=by rw [Hid,C];exact heap_alloc_new _ _
  have ak:Hid (w7.heap.size<=(I).heap.size):=hHeld.size;have a8:Hid ((I).heap.size≠(al).heap.size):=by have:=z.lt;rw [Hid];omega
  rw [<-C] at U ⊢;clear C;have N:=ax3 (N.out.below a1);have z:Boxed s (al).heap.size 88 (.pointer none):=(a1.block _ z.lt).trans z;clear J K hHeld;have hHeld:=U;clear U
  try simp only [Act.put,pA,pB,pC]
  refine rdy 18 (fun K J=>?_);have q0:=z.cell;have q1:=z.frozen;have q2:=z.lt;go_simp;refine J.out _ _ (hHeld.setCell ac.out _) (fun U=>?_);clear J K hHeld;have hHeld:=U;clear U
  try simp only [Act.put,pA,pB,pC]
  refine wpAnyH_done (by kernel_rfl) ?_ _;refine ax4 ?_;exact⟨_,_,cv,av,ZM,_,_,_,_,_,_,_,_,_,_,_,_,_,_,_,_,_,_,_,_,_,_,_,_,_,_,_,_,_,_,_,_,_,_,_,_,_,_,_,_,rfl,z.set _,(axn _ _ _ _ a8.out).trans ai.out,aJ.out,N.out.turned (aa9 _ _ 0 _) z (of_decide_eq_true (by kernel_rfl)) (of_decide_eq_true (by kernel_rfl)),hHeld,ac.out,ak.out,am,a8.out⟩
 go_simp
 go_at_call 92;refine (aQ.out _ _ (au.out.below hHeld) aV).mono ?_;rintro e I ⟨rfl,o⟩
 refine J.out _ _ (hHeld.trans (o.mono hHeld.size)) (fun U=>?_);have N:=ax3 (N.out.below o);clear J K hHeld;have hHeld:=U;clear U
 try simp only [Act.put,pA,pB,pC]
 refine' wpAnyH_take (i:=15) (v:=_) (by simp only [pD,pE,pF];rfl) (by as_aux_lemma=>kernel_rfl) (by as_aux_lemma=>kernel_rfl) (by as_aux_lemma=>kernel_rfl) (fun _ _ _ h=>h) (aaO (by rfl) _ _ rfl ZM (by go_simp;exact aa.out)) (by assumption) ?_
 try simp only [Act.put,pA,pB,pC]
 refine awN 16 17 (fun K J=>?_) (fun K J=>?_);rotate_left
 ·
  go_simp;refine J.out _ _ (hHeld.alloc hHeld.size _) (fun U=>?_);obtain⟨a7,H⟩:∃V,V=(I).alloc (.cells #[.pointer none] 88):=⟨_,rfl⟩;have af:RowKit.Below (I).heap.size (I) a7:=by rw [H];exact aa1 _ _
  have z:Boxed a7 (I).heap.size 88 (.pointer none):=by rw [H];exact Boxed.new _ _ _
  have ac:Hid (w7.heap.size<=(I).heap.size):=hHeld.size;rw [<-H] at U ⊢;clear H;have N:=ax3 (N.out.below af);clear J K hHeld;have hHeld:=U;clear U
  try simp only [Act.put,pA,pB,pC]
  refine rdy 16 (fun K J=>?_);go_simp;refine J.out _ _ (hHeld.alloc hHeld.size _) (fun U=>?_);obtain⟨s,C⟩:∃V,V=(a7).alloc (.cells ZM 162):=⟨_,rfl⟩;have a1:RowKit.Below (a7).heap.size (a7) s:=by rw [C];exact aa1 _ _
  have ai:Hid (s.heap[(a7).heap.size]?=some (.cells ZM 162 (0,0))):=by rw [Hid,C];exact heap_alloc_new _ _
  have ak:Hid (w7.heap.size<=(a7).heap.size):=hHeld.size;have a8:Hid ((a7).heap.size≠(I).heap.size):=by have:=z.lt;rw [Hid];omega
  rw [<-C] at U ⊢;clear C;have N:=ax3 (N.out.below a1);have z:Boxed s (I).heap.size 88 (.pointer none):=(a1.block _ z.lt).trans z;clear J K hHeld;have hHeld:=U;clear U
  try simp only [Act.put,pA,pB,pC]
  refine rdy 18 (fun K J=>?_);have q0:=z.cell;have q1:=z.frozen;have q2:=z.lt;go_simp;refine J.out _ _ (hHeld.setCell ac.out _) (fun U=>?_);clear J K hHeld;have hHeld:=U;clear U
  try simp only [Act.put,pA,pB,pC]
  refine wpAnyH_done (by kernel_rfl) ?_ _;refine ax4 ?_;exact⟨_,_,cv,av,ZM,_,_,_,_,_,_,_,_,_,_,_,_,_,_,_,_,_,_,_,_,_,_,_,_,_,_,_,_,_,_,_,_,_,_,_,_,_,_,_,_,rfl,z.set _,(axn _ _ _ _ a8.out).trans ai.out,aJ.out,N.out.turned (aa9 _ _ 0 _) z (of_decide_eq_true (by kernel_rfl)) (of_decide_eq_true (by kernel_rfl)),hHeld,ac.out,ak.out,am,a8.out⟩
 go_simp;refine J.out _ _ (hHeld.alloc hHeld.size _) (fun U=>?_);obtain⟨s,C⟩:∃V,V=(I).alloc (.cells ZM 162):=⟨_,rfl⟩;have a1:RowKit.Below (I).heap.size (I) s:=by rw [C];exact aa1 _ _
 have ai:Hid (s.heap[(I).heap.size]?=some (.cells ZM 162 (0,0))):=by rw [Hid,C];exact heap_alloc_new _ _
 have ak:Hid (w7.heap.size<=(I).heap.size):=hHeld.size;rw [<-C] at U ⊢;clear C;have N:=ax3 (N.out.below a1);clear J K hHeld;have hHeld:=U;clear U
 try simp only [Act.put,pA,pB,pC]
 refine rdy 17 (fun K J=>?_);go_simp;refine J.out _ _ (hHeld.alloc hHeld.size _) (fun U=>?_);obtain⟨a7,H⟩:∃V,V=(s).alloc (.cells #[.pointer none] 88):=⟨_,rfl⟩;have af:RowKit.Below (s).heap.size (s) a7:=by rw [H];exact aa1 _ _
 have z:Boxed a7 (s).heap.size 88 (.pointer none):=by rw [H];exact Boxed.new _ _ _
 have ac:Hid (w7.heap.size<=(s).heap.size):=hHeld.size;rw [<-H] at U ⊢;clear H;have N:=ax3 (N.out.below af);clear J K hHeld;have hHeld:=U;clear U
 try simp only [Act.put,pA,pB,pC]
 have a8:Hid (I.heap.size≠s.heap.size):=by have:=(awU.1 ai.out).1;rw [Hid];omega
 have ai:=ax3 ((af.block _ (awU.1 ai.out).1).trans ai.out);refine rdy 18 (fun K J=>?_);have q0:=z.cell;have q1:=z.frozen;have q2:=z.lt;go_simp;refine J.out _ _ (hHeld.setCell ac.out _) (fun U=>?_);clear J K hHeld;have hHeld:=U;clear U
 try simp only [Act.put,pA,pB,pC]
 refine wpAnyH_done (by kernel_rfl) ?_ _;refine ax4 ?_;exact⟨_,_,cv,av,ZM,_,_,_,_,_,_,_,_,_,_,_,_,_,_,_,_,_,_,_,_,_,_,_,_,_,_,_,_,_,_,_,_,_,_,_,_,_,_,_,_,rfl,z.set _,(axn _ _ _ _ a8.out).trans ai.out,aJ.out,N.out.turned (aa9 _ _ 0 _) z (of_decide_eq_true (by kernel_rfl)) (of_decide_eq_true (by kernel_rfl)),hHeld,ac.out,ak.out,am,a8.out⟩
end
def ownW (ws:List (List Int))(b:List Int):List Int:=if b∈ws then [aaR ws b] else []
def arx (ws:List (List Int)):List Int->List Int
 | []=>[]
 | c :: b=>ownW ws (c :: b)++arx ws b
section
variable {ws:List (List Int)}
theorem amN (h0:[] ∉ ws):∀b,arx ws (lsf (aa0 ws) b)=arx ws b
 | []=>by
  have:=ab1 (aa0 ws) [];rw [List.suffix_nil.1 this]
 | c :: b=>by
  by_cases h:(c :: b)∈aa0 ws
  · rw [acM h]
  ·
   have Y:(c :: b) ∉ ws:=fun X=>by
    obtain⟨w,Z⟩:=ayB X;obtain⟨j,_,V,_⟩:=akm Z (by simp);exact h (ay9 V)
   have e:lsf (aa0 ws) (c :: b)=lsf (aa0 ws) b:=arM (b:=c :: b) (k:=0) (by simp) h;rw [e,amN h0 b]
   conv=>rhs;unfold arx ownW
   rw [if_neg Y,ay0]
theorem arn (h0:∀x∈ws,x.length≠0){z:Nat}{x:List Int}(Z:(aa0 ws)[z]?=some x):∃v:Int,(aa5 ws).wrd[z]?=some v/\ownW ws x=if 0<=v then [v] else []:=by
 refine⟨aaR ws x,asp Z,?_⟩;unfold ownW
 by_cases h:x∈ws
 · rw [if_pos h,if_pos];unfold aaR;rw [if_pos h];omega
 · rw [if_neg h,agt h,if_neg (by decide)]
theorem aoo (h0:∀x∈ws,x.length≠0):∀{z:Nat} {x:List Int},(aa0 ws)[z]?=some x->aaD ws z=arx ws x:=by
 intro z;have N:[] ∉ ws:=fun B=>h0 [] B rfl
 induction z using Nat.strongRecOn with
 | _ z ih=>
  intro x Y;have I:=(awR.1 Y).1
  by_cases X:z=0
  · subst X;rw [aaf] at Y;have:=awV Y;subst this;exact alG ws
  ·
   have U:x≠[]:=fun e=>X ((aav Y).2 e);obtain⟨v,D,ho⟩:=arn h0 Y;rw [aii (by omega) I D,<-ho];obtain⟨k,h1,_,h3,h4⟩:=af6 Y;have V:=h3 (by omega);obtain⟨u,H,C⟩:=arn h0 h4;have A:aaD ws (nx ws z)=arx ws (ado (aa0 ws) x):=by
    rw [aqZ (by omega) I h1 H]
    by_cases Z:0<=u
    · rw [if_pos Z];exact ih k V h4
    ·
     rw [if_neg Z];have e:=ih k V h4
     by_cases J:k=0
     · subst J;rw [ahz];exact e
     · rw [aii (by omega) (by omega) H,if_neg Z,ay0] at e;exact e
   rw [A]
   cases x with
   | nil=>exact absurd rfl U
   | cons c b=>
    rw [show ado (aa0 ws) (c :: b)=lsf (aa0 ws) b from rfl,amN N b]
    rfl
end
theorem arj (ws:List (List Int))(c:Int)(t:List Int):arx ws (c :: t)=(if (c :: t)∈ws then [aaR ws (c :: t)] else [])++arx ws t:=rfl
theorem ap1 (B:Nat)(L:List Int)(m:Int)(n j:Nat)(row:Value)(fold:Bool)(D:Value)(lo C:Int)(H:Option Addr)(wc:Nat)(W:List (List Int))(xs:List Int)(w:World)(h:Mc w B L m (n:Int) row fold D lo C (.slice H n wc))(hW:Lls w H n W)(y:j<n)(z:W[j]?=some xs)(s:xs.length<=1000000) :
  Calls ZP 273 #[.pointer (some ⟨B,0,none⟩),.int .i64 (j:Int)] w fun e w'=>∃v,e=.returned v/\ams w' w.heap.size v xs/\Below w.heap.size w w':=by
 obtain⟨x,hi,N,U,V⟩:=info_parts ac8;obtain⟨b,off,a',l,c,ys,rfl,a1,I,A,J,o⟩:=hW.at_ y;obtain rfl:ys=xs:=by have:=A.symm.trans z;cases this;rfl
 have hl:=J.1;have s0:=h.cells.2.2.2.2.2.2.2;have Y:=agk B L m n row fold D lo C (.slice (some ⟨b,off,none⟩) n wc) j w h;rw [show decide (0<=(j:Int)/\(j:Int)<(n:Int))=true by simp;omega] at Y;have HI:=ax3 Y;have HS:=ax3 J;have i1:(0:Int)<=(j:Int):=by omega
 have i2:(j:Int)<(n:Int):=by omega
 subst hl;clear Y h hW z A J y;go_enter func273,ntmps273
 go_wp2_with (first
  | (go_at_call 271;refine HI.out.mono ?_;rintro e w4 ⟨rfl,rfl⟩)
  | (at_builtin;refine aba rfl _ _ 30 rfl (enc:=Value.int .i64) (fun _=>rfl) w.heap.size 3 x (.int .i64 0) 8 underlying30 hi N U V rfl _ 0 [] rfl (ayy _ _ _ _) a' _ c ys rfl HS.out (by unfold maxLen;omega) (by omega) (axe _) ?_;intro v' w5 Z X a2))
 go_ret;refine⟨_,rfl,?_,(axf _ _).grown X (axe _) (fun k e=>by cases e)⟩
 simpa [ams] using Z
theorem alw (B:Nat)(L:List Int)(m n:Int)(row:Value)(fold:Bool)(Y:Value)(lo X:Int)(wd:Value)(j:Int)(w:World)(h:Mc w B L m n row fold Y lo X wd)(V:j<0∨n<=j) :
  Calls ZP 273 #[.pointer (some ⟨B,0,none⟩),.int .i64 j] w fun e w'=>∃v,e=.returned v/\ams w' w.heap.size v []/\Below w.heap.size w w':=by
 have Z:=agk B L m n row fold Y lo X wd j w h;rw [show decide (0<=j/\j<n)=false by simp;omega] at Z;have U:=ax3 Z;clear Z h V;go_enter func273,ntmps273
 go_wp2_with (go_at_call 271;refine U.out.mono ?_;rintro e N ⟨rfl,rfl⟩)
 go_ret;exact⟨_,rfl,ayy _ _ _ _,axf _ _⟩
def ab2 (wss:List (List Int))(node:Int):List Int:=if 0<=node/\node<((aa0 wss).length:Int) then aaD wss node.toNat else []
theorem am2 {B R U N wc:Nat}{fold:Bool}{wss:List (List Int)}{lo Y:Int}{a V:Option Addr}(node:Int)(w:World)(h:MOK w B fold wss lo Y R a U N V wc)(Z:(ab2 wss node).length<=1000000) :
  Calls ZP 273 #[.pointer (some ⟨B,0,none⟩),.int .i64 node] w fun e w'=>∃v,e=.returned v/\ams w' w.heap.size v (ab2 wss node)/\Below w.heap.size w w':=by
 unfold ab2 at Z ⊢
 by_cases X:0<=node/\node<((aa0 wss).length:Int)
 · rw [if_pos X] at Z ⊢;obtain⟨j,rfl⟩:∃k:Nat,node=(k:Int):=⟨node.toNat,by omega⟩;rw [axs] at Z ⊢;exact ap1 B _ _ _ j _ fold _ lo Y _ _ _ _ w h.mc h.lls (by omega) (by rw [axa,axS (by omega)];rfl) Z
 · rw [if_neg X];exact alw B _ _ _ _ fold _ lo Y _ node w h.mc (by omega)
theorem anB (p:Value)(node at_:Int)(xs:List Int)(w:World)(a6:xs.length<=1000000)
  (hw:∀V,Below w.heap.size w V->Calls ZP 273 #[p,.int .i64 node] V fun e w'=>∃v,e=.returned v/\ams w' V.heap.size v xs/\Below V.heap.size V w') :
  Calls ZP 244 #[p,.int .i64 node,.int .i64 at_] w fun e w'=>∃v,e=.returned v/\adV w' w.heap.size v (xs.map fun x=>(at_,x))/\Below w.heap.size w w':=by
 obtain⟨i0,hi,A,B,C⟩:=info_parts adc;have HW:=ax3 hw;clear hw;go_enter func244,ntmps244;go_upto_region 2 with fail
 go_wp2_with (go_at_call 273;refine (HW.out _ (axf _ _)).mono ?_;rintro e U ⟨v,rfl,Y,I⟩;obtain⟨a1,c1,rfl,a8,H⟩:=aaC Y)
 have ab:=ax3 Y;have s:=ax3 H;clear Y H
 go_loopw [7,14] (fun v i wr=>∃k:Nat,k<=xs.length/\i=.int .i64 k/\Below U.heap.size U wr/\adV wr U.heap.size v ((xs.take k).map fun x=>(at_,x))) (fun _ i _=>xs.length-(intOf i).toNat)
 case atStart=>exact⟨0,axh _,rfl,axf _ _,by simpa [adV,aad] using ayy U U.heap.size 116 2⟩
 case round=>
  obtain⟨k,hk,rfl,X,Z⟩:=hrel
  by_cases z:k<xs.length
  ·
   have hd:decide ((k:Int)<(xs.length:Int))=true:=by simp;omega
   obtain⟨b0,o0,x,e0,aa,cx,h⟩:=abm (s.out.below X) z;subst e0;have i1:(0:Int)<=(k:Int):=by omega
   have i2:(k:Int)<(xs.length:Int):=by omega
   have HX:=ax3 h;obtain⟨m,D⟩:∃m,((xs.take k).map fun x=>(at_,x)).length=m:=⟨_,rfl⟩;have a7:m=k:=by rw [<-D,ayq,ay6];omega
   unfold adV at Z;rw [D] at Z;have HM:=ax3 D;clear D h
   go_wp2_with (at_builtin;refine wpList_append_own _ rfl _ _ 69 rfl U.heap.size 116 i0 (.agg #[.int .i64 0,.int .i64 0]) 2 16 underlying69 hi A B C rfl (by decide) _ _ _ rfl (Z.alloc _) ⟨wr.heap.size,0,none⟩ 1 1 [.int .i64 at_,.int .i64 x] rfl rfl (ab7 _ _ rfl) (by simp [Value.oneCell']) (by unfold maxLen;omega) (by omega) (by have:=X.size;simp;omega) ?_;intro v' o N J a2)
   have y:Below U.heap.size U o:=(X.alloc (by have:=X.size;omega) _).grown J (by have:=X.size;simp;omega) (fun j hj=>(Z.lt j hj).1)
   go_roundw
   case rel=>
    refine⟨k+1,by omega,by go_num,y,?_⟩;unfold adV;rw [aa7 HX.out,ay7,List.length_append,HM.out];show o.ownsRow U.heap.size 116 2 v' (m+1) (aad (((xs.take k).map fun x=>(at_,x))++[(at_,x)]));rw [alZ];exact N
   case measure=>simp [intOf];omega
  ·
   obtain rfl:k=xs.length:=by omega
   have hd:decide ((xs.length:Int)<(xs.length:Int))=false:=by simp
   rw [ayS] at Z;go_wp2;go_ret;exact⟨_,rfl,Go.Joins.ownsRow_le Z I.size,I.trans (X.mono I.size)⟩
theorem aoO {B R U J wc:Nat}{fold:Bool}{wss:List (List Int)}{lo X:Int}{a Y:Option Addr}(node at_:Int)(w:World)(h:MOK w B fold wss lo X R a U J Y wc)(Z:(ab2 wss node).length<=1000000) :
  Calls ZP 244 #[.pointer (some ⟨B,0,none⟩),.int .i64 node,.int .i64 at_] w fun e w'=>∃v,e=.returned v/\adV w' w.heap.size v ((ab2 wss node).map fun x=>(at_,x))/\Below w.heap.size w w':=
 anB _ node at_ _ w Z (fun V N=>am2 node V (h.below N) Z)
theorem al5:∀(l:List (List Int)) (k:Nat),∃N:Nat,l.foldl (fun n w=>max n (w.length:Int)) (k:Int)=(N:Int)/\k<=N/\(∀y∈l,y.length<=N)/\∀M,k<=M->(∀y∈l,y.length<=M)->N<=M
 | [],k=>⟨k,rfl,axe _,fun y Z=>by simp at Z,fun M h _=>h⟩
 | x :: l,k=>by
  obtain⟨N,h1,h2,h3,h4⟩:=al5 l (max k x.length);refine⟨N,?_,by omega,fun y Z=>?_,fun M X Y=>h4 M (by have:=Y x (List.mem_cons_self ..);omega) fun y Z=>Y y (ayM _ Z)⟩
  · rw [List.foldl_cons,<-h1];congr 1;omega
  ·
   rcases axG.1 Z with rfl | Z
   · omega
   · exact h3 y Z
theorem ai7 (l:List (List Int)):∃N:Nat,aaY l=(N:Int)/\(∀y∈l,y.length<=N)/\∀M,(∀y∈l,y.length<=M)->N<=M:=by
 obtain⟨N,h1,_,h3,h4⟩:=al5 l 0;exact⟨N,h1,h3,fun M Z=>h4 M (axh _) Z⟩
theorem asV {L F:List Int}{m j c:Nat}{y:Int}(h:goD L (m:Int) F (j:Int) c=some y)(V:L.length=256)(X:c<256):∃v:Nat,L[c]?=some (v:Int)/\v<m/\F[j*m+v]?=some y:=by
 obtain⟨v,Z⟩:∃v,L[c]?=some v:=⟨L[c]'(by omega),by simp⟩;unfold goD at h;rw [Z,ayr] at h
 split at h
 · exact absurd h (by simp)
 ·
  rename_i Y
  obtain⟨v,rfl⟩:∃k:Nat,v=(k:Int):=⟨v.toNat,by omega⟩;refine⟨v,Z,by omega,?_⟩;rw [show ((j:Int)*(m:Int)+(v:Int)).toNat=j*m+v by rw [<-axB];omega] at h;exact h
theorem arP (B R:Nat)(L F:List Int)(m j c Z c0:Nat)(y n:Int)(fold:Bool)(D:Value)(lo z:Int)(wd:Value)(w:World)(h:Mc w B L m n (.slice (some ⟨R,0,none⟩) Z c0) fold D lo z wd)(N:Sl1 (Value.int .i64) w (some ⟨R,0,none⟩) Z F)(hn:Z<=1000000000)(hc:c<256)(J:goD L (m:Int) F (j:Int) c=some y) :
  Calls ZP 272 #[.pointer (some ⟨B,0,none⟩),.int .i64 (j:Int),.int .u8 (c:Int)] w fun e w'=>e=.returned (.int .i64 y)/\Below w.heap.size w w':=by
 obtain⟨v,I,o,V⟩:=asV J h.len hc;have c1:(j:Int)*(m:Int)=((j*m:Nat):Int):=(axB _ _).symm;obtain⟨P,H⟩:∃P,j*m=P:=⟨_,rfl⟩;rw [H] at c1 V;have s:P+v<Z:=by have:=(awR.1 V).1;have:=N.1;omega
 obtain⟨b0,o0,x,e0,X,cx,Y⟩:=abm N s
 cases e0
 obtain rfl:x=y:=by have:=Y.symm.trans V;cases this;rfl
 obtain⟨C,s1,s2⟩:=And.intro (h.cls I) (And.intro h.cells.1 h.cells.2.2.1);have i1:(0:Int)<=(c:Int):=by omega
 have i2:(c:Int)<256:=by omega
 have l2:(0:Int)<=(P:Int)+(v:Int):=by omega
 have l3:(P:Int)+(v:Int)<(Z:Int):=by omega
 have e1:wrap64 ((j:Int)*(m:Int))=(P:Int):=by rw [c1];unfold wrap64;omega
 have U:=h.lt;have f0:∀d os,(grow (redrawn w d) os).cell? ⟨B,c,none⟩=some (.int .i64 (v:Int)):=fun d os=>((below_regrown w d os).cell (p:=⟨B,c,none⟩) U).trans C;have f1:∀d os,(grow (redrawn w d) os).cell? ⟨B,256,none⟩=some (.int .i64 (m:Int)):=fun d os=>((below_regrown w d os).cell (p:=⟨B,256,none⟩) U).trans s1;have f2:∀d os,(grow (redrawn w d) os).cell? ⟨B,258,none⟩=some (.slice (some ⟨R,0,none⟩) Z c0):=fun d os=>((below_regrown w d os).cell (p:=⟨B,258,none⟩) U).trans s2;have f3:∀d os,(grow (redrawn w d) os).cell? ⟨R,0+(P+v),none⟩=some (.int .i64 x):=fun d os=>((below_regrown w d os).cell (p:=⟨R,0+(P+v),none⟩) X).trans cx;simp only [axz] at f3;clear H N V Y J I h X U;go_enter func272,ntmps272
 go_wp2_with fail
 refine wp_region_quiet_below mixed (by kernel_rfl) ?_
 repeat (go_big_quiet_step (fail))
 refine wpQuiet_nil ?_;rintro _ ⟨⟨dq,A⟩,rfl⟩;go_wp2;go_ret;exact⟨rfl,below_regrown _ _ _⟩
theorem aqk (B R:Nat)(L F:List Int)(m j c Z c0:Nat)(y n:Int)(fold:Bool)(Y:Value)(lo X:Int)(wd:Value)(w:World)(h:Mc w B L m n (.slice (some ⟨R,0,none⟩) Z c0) fold Y lo X wd)(J:Sl1 (Value.int .i64) w (some ⟨R,0,none⟩) Z F)(H:Z<=1000000000)(C:c<256)(D:(j:Int)<n)(N:goD L (m:Int) F (j:Int) c=some y) :
  Calls ZP 243 #[.pointer (some ⟨B,0,none⟩),.int .i64 (j:Int),.int .u8 (c:Int)] w fun e w'=>e=.returned (.tuple #[.int .i64 y,.bool true])/\Below w.heap.size w w':=by
 have A:=ax3 (arP B R L F m j c Z c0 y n fold Y lo X wd w h J H C N);have V:=agk B L m n (.slice (some ⟨R,0,none⟩) Z c0) fold Y lo X wd j w h;rw [show decide (0<=(j:Int)/\(j:Int)<n)=true by simp;omega] at V;have z:=ax3 V;clear V h J N D;go_enter func243,ntmps243
 go_wp2_with (first
  | (go_at_call 271;refine z.out.mono ?_;rintro e I ⟨rfl,rfl⟩)
  | (go_at_call 272;refine A.out.mono ?_;rintro e I ⟨rfl,U⟩))
 go_ret2;exact⟨rfl,U⟩
theorem aoz (B:Nat)(L:List Int)(m n:Int)(row:Value)(fold:Bool)(Y:Value)(lo X:Int)(wd:Value)(j:Int)(c:Nat)(w:World)(h:Mc w B L m n row fold Y lo X wd)(V:j<0∨n<=j) :
  Calls ZP 243 #[.pointer (some ⟨B,0,none⟩),.int .i64 j,.int .u8 (c:Int)] w fun e w'=>e=.returned (.tuple #[.int .i64 0,.bool false])/\w=w':=by
 have Z:=agk B L m n row fold Y lo X wd j w h;rw [show decide (0<=j/\j<n)=false by simp;omega] at Z;have U:=ax3 Z;clear Z h V;go_enter func243,ntmps243
 go_wp2_with (go_at_call 271;refine U.out.mono ?_;rintro e N ⟨rfl,rfl⟩)
 go_ret2;exact⟨rfl,rfl⟩
theorem aof {B R J C wc:Nat}{fold:Bool}{wss:List (List Int)}{lo Z:Int}{a N:Option Addr}(node:Int)(c:Nat)(w:World)(h:MOK w B fold wss lo Z R a J C N wc)(Y:OkT fold wss)(H:aat fold wss*(aa0 wss).length<=1000000000)(U:c<256) :
  Calls ZP 243 #[.pointer (some ⟨B,0,none⟩),.int .i64 node,.int .u8 (c:Int)] w fun e w'=>e=.returned (aww (goD (ade fold wss) (aat fold wss) (an0 fold wss) node c))/\Below w.heap.size w w':=by
 by_cases X:node<0∨((aa0 wss).length:Int)<=node
 · rw [auE Y X];exact (aoz B _ _ _ _ fold _ lo Z _ node c w h.mc X).mono fun e w' ⟨h1,h2⟩=>⟨h1,by rw [<-h2];exact axf _ _⟩
 ·
  obtain⟨j,rfl⟩:∃k:Nat,node=(k:Int):=⟨node.toNat,by omega⟩;obtain⟨x,I⟩:∃x,(aa0 wss)[j]?=some x:=⟨(aa0 wss)[j]'(by omega),by simp⟩;have V:=apj Y I U;rw [V];have D:Sl1 (Value.int .i64) w (some ⟨R,0,none⟩) (aat fold wss*(aa0 wss).length) (an0 fold wss):=by
   rw [<-aiG Y];exact h.row.sl1
  exact aqk B R _ _ _ j c _ _ _ _ fold _ lo Z _ w h.mc D H U (by omega) V
theorem ajV (B:Nat)(L:List Int)(m n:Int)(row:Value)(fold:Bool)(Z:Value)(lo Y:Int)(wd:Value)(w:World)(h:Mc w B L m n row fold Z lo Y wd) :
  Calls ZP 269 #[.pointer (some ⟨B,0,none⟩)] w fun e w'=>e=.returned (.int .i64 n)/\w=w':=by
 have c5:=h.cells.2.1;clear h;go_enter func269,ntmps269;go_wp2;go_ret;exact⟨rfl,rfl⟩
theorem aiR (B:Nat)(L:List Int)(m n:Int)(row:Value)(fold:Bool)(Z:Value)(lo Y:Int)(wd:Value)(w:World)(h:Mc w B L m n row fold Z lo Y wd) :
  Calls ZP 95 #[.pointer (some ⟨B,0,none⟩)] w fun e w'=>e=.returned (.int .i64 lo)/\w=w':=by
 have c5:=h.cells.2.2.2.2.2.1;clear h;go_enter func95,ntmps95;go_wp2;go_ret;exact⟨rfl,rfl⟩
structure alm (W0:World)(B:Nat)(fold:Bool)(wss:List (List Int))(V:World):Prop where
 ex:∃(R la ca wc:Nat) (a wa:Option Addr),MOK V B fold wss (aaY wss) ((ad7 wss (aa0 wss).length:Nat):Int) R a la ca wa wc/\la<=1000000
 ok:OkT fold wss
 tab:aat fold wss*(aa0 wss).length<=1000000000
 len:∀x∈wss,x.length<=1000000
 nod:(aa0 wss).length<=1000000
 bel:Below W0.heap.size W0 V
section
variable {W0 V V':World}{B:Nat}{fold:Bool}{wss:List (List Int)}
theorem alm.below (h:alm W0 B fold wss V)(Z:Below V.heap.size V V'):alm W0 B fold wss V':=by
 obtain⟨⟨R,X,U,wc,a,Y,h1,h2⟩,h3,h4,h5,h6,h7⟩:=h;exact⟨⟨R,X,U,wc,a,Y,h1.below Z,h2⟩,h3,h4,h5,h6,h7.trans (Z.mono h7.size)⟩
theorem aoP (wss:List (List Int))(node:Int)(h:(aa0 wss).length<=1000000):(ab2 wss node).length<=1000000:=by
 unfold ab2
 split
 · have:=acI wss node.toNat;omega
 · simp
theorem alm.step (h:alm W0 B fold wss V)(node:Int)(c:Nat)(Z:c<256) :
  Calls ZP 243 #[.pointer (some ⟨B,0,none⟩),.int .i64 node,.int .u8 (c:Int)] V fun e w'=>e=.returned (aww (goD (ade fold wss) (aat fold wss) (an0 fold wss) node c))/\Below V.heap.size V w':=by
 obtain⟨⟨R,X,U,wc,a,Y,h1,h2⟩,h3,h4,h5,h6,h7⟩:=h;exact aof node c V h1 h3 h4 Z
theorem alm.hits (h:alm W0 B fold wss V)(node at_:Int)(Y:I64 at_)(Z:∀x∈ab2 wss node,I64 x) :
  Calls ZP 244 #[.pointer (some ⟨B,0,none⟩),.int .i64 node,.int .i64 at_] V fun e w'=>∃(a:Option Addr) (c:Nat),e=.returned (.slice a (ab2 wss node).length c)/\Hts w' a (ab2 wss node).length ((ab2 wss node).map fun x=>(at_,x))/\adV w' V.heap.size (.slice a (ab2 wss node).length c) ((ab2 wss node).map fun x=>(at_,x))/\Below V.heap.size V w':=by
 obtain⟨⟨R,D,A,wc,a,H,h1,h2⟩,h3,h4,h5,h6,h7⟩:=h;refine (aoO node at_ V h1 (aoP wss node h6)).mono ?_;rintro e w' ⟨v,rfl,ho,J⟩;obtain⟨I,c1,rfl,C,X⟩:=adV.hts ho (fun h N=>by
  obtain⟨x,U,rfl⟩:=axE.1 N;exact⟨Y,Z x U⟩)
 rw [ayq] at X ho ⊢;exact⟨I,c1,rfl,X,ho,J⟩
theorem alm.states (h:alm W0 B fold wss V) :
  Calls ZP 269 #[.pointer (some ⟨B,0,none⟩)] V fun e w'=>e=.returned (.int .i64 ((aa0 wss).length:Int))/\V=w':=by
 obtain⟨⟨R,Y,X,wc,a,Z,h1,h2⟩,h3,h4,h5,h6,h7⟩:=h;exact ajV B _ _ _ _ _ _ _ _ _ V h1.mc
theorem alm.longest (h:alm W0 B fold wss V) :
  Calls ZP 95 #[.pointer (some ⟨B,0,none⟩)] V fun e w'=>e=.returned (.int .i64 (aaY wss))/\V=w':=by
 obtain⟨⟨R,Y,X,wc,a,Z,h1,h2⟩,h3,h4,h5,h6,h7⟩:=h;exact aiR B _ _ _ _ _ _ _ _ _ V h1.mc
end
structure ahS (q B:Nat)(fold:Bool)(wss:List (List Int))(V:World):Prop where
 ex:∃(R la ca wc:Nat) (a wa:Option Addr),MOK V B fold wss (aaY wss) ((ad7 wss (aa0 wss).length:Nat):Int) R a la ca wa wc/\la<=1000000/\atH q V B R a la ca wss wa
 ok:OkT fold wss
 tab:aat fold wss*(aa0 wss).length<=1000000000
 len:∀x∈wss,x.length<=1000000
 nod:(aa0 wss).length<=1000000
theorem ahS.kept {q B:Nat}{fold:Bool}{wss:List (List Int)}{V V':World}(h:ahS q B fold wss V)(Z:adr q V V'):ahS q B fold wss V':=by
 obtain⟨⟨R,X,U,wc,a,Y,h1,h2,h8⟩,h3,h4,h5,h6⟩:=h;exact⟨⟨R,X,U,wc,a,Y,h8.mok Z h1,h2,h8.kept Z⟩,h3,h4,h5,h6⟩
theorem ahS.use {q B:Nat}{fold:Bool}{wss:List (List Int)}{V:World}(h:ahS q B fold wss V):alm V B fold wss V:=by
 obtain⟨⟨R,Y,X,wc,a,Z,h1,h2,h8⟩,h3,h4,h5,h6⟩:=h;exact⟨⟨R,Y,X,wc,a,Z,h1,h2⟩,h3,h4,h5,h6,axf _ _⟩
theorem ajq (fold:Bool)(a:Option Addr)(Z D:Nat)(wss:List (List Int))(w:World)(H:Wds w a Z wss)(Y:Z<=1000000)(I:∀x∈wss,x.length<=1000000)(v:(abo fold wss).length<=1000000)(X:aan fold wss=true) :
  Calls ZP 52 #[.agg (aaF fold a Z D)] w fun e w'=>∃B,e=.returned (.tuple #[.pointer (some ⟨B,0,none⟩),.int .i64 0])/\ahS w.heap.size B fold wss w'/\Below w.heap.size w w':=by
 have N:=okT X (fun x A c y=>H.bytes x A c y);have U:(aa0 wss).length<=400:=afO (ab6.2 ⟨abq X,rfl,rfl⟩);have z:aat fold wss<=257:=(abj _ _ _).2;refine (ajm fold a Z D wss w H Y I v X).mono ?_;rintro e w' ⟨B,R,J,wc,s,C,h1,h2,h3,h4⟩;exact⟨B,h1,⟨⟨R,Z,J,wc,s,C,h2,Y,h4⟩,N,awT (axA z U) (by omega),I,by omega⟩,h3⟩
section
variable {P:Program}{md:Region.Mode}{ops:Array Oper}{Q:Exit->Act->World->Prop}{S:World->Prop}
def aiu (P:Program)(ops:Array Oper)(Q:Exit->Act->World->Prop)(S:World->Prop)(o:Oper)(R:Value->World->Prop)(a:Act):Prop:=
 ∀w,S w->∀K:Act->World->Prop,(∀v w',S w'->R v w'->RowKit.Below w.heap.size w w'->K (a.put o.dst v) w')->if Region.wanted o (yielded ops a.tmps)=true then Oper.wp P o a w K Q else K (a.put o.dst undef) w
end
theorem an7 {ws:List (List Int)}(Y:ws.Nodup)(h0:∀y∈ws,y.length≠0){v:Int}:∀{b:List Int},v∈arx ws b↔∃(k:Nat) (y:List Int),ws[k]?=some y/\y <:+b/\v=(k:Int)
 | []=>by
  constructor
  · intro h;exact absurd h (by simp [arx])
  · rintro ⟨k,y,Z,V,_⟩;rw [List.suffix_nil] at V;subst V;exact absurd rfl (h0 [] (ay9 Z))
 | c :: b=>by
  have U:=an7 Y h0 (v:=v) (b:=b);rw [arj,ayd,U]
  constructor
  ·
   rintro (h | ⟨k,y,h1,h2,h3⟩)
   ·
    by_cases X:(c :: b)∈ws
    · rw [if_pos X,ayp] at h;obtain⟨k,Z⟩:=ayB X;exact⟨k,_,Z,List.suffix_refl _,by rw [h,aae Y Z]⟩
    · rw [if_neg X] at h;simp at h
   · exact⟨k,y,h1,List.suffix_cons_iff.2 (.inr h2),h3⟩
  ·
   rintro ⟨k,y,h1,h2,h3⟩
   rcases List.suffix_cons_iff.1 h2 with rfl | h2
   ·
    left
    rw [if_pos (ay9 h1),ayp,h3,aae Y h1]
   · exact .inr ⟨k,y,h1,h2,h3⟩
section
variable {fold:Bool}{ws:List (List Int)}
theorem au8 (x:List Int):∀y:List Int,lsf (aa0 ws) (lsf (aa0 ws) x++y)=lsf (aa0 ws) (x++y):=by
 intro y
 induction y generalizing x with
 | nil=>
  rw [ayj,ayj];exact acM (aeD (ay9 (aaf ws)) x)
 | cons c y ih=>
  rw [show lsf (aa0 ws) x++c :: y=(lsf (aa0 ws) x++[c])++y by simp,show x++c :: y=(x++[c])++y by simp];rw [<-ih (lsf (aa0 ws) x++[c]),<-(asv x c).2.2,ih (x++[c])]
end
def adF (fold:Bool)(ws:List (List Int))(z:Nat)(c:Int):Nat:=(aot ws (lsf (aa0 ws) (((aa0 ws)[z]?).getD []++[fcB fold c]))).toNat
def adf (fold:Bool)(ws:List (List Int))(z:Nat)(b:List Int):Nat:=b.foldl (adF fold ws) z
def afZ (fold:Bool)(ws:List (List Int)):Nat->Int->List Int->List aam
 | _,_,[]=>[]
 | z,at_,c :: b=>(aaD ws (adF fold ws z c)).map (fun v=>((at_+1,v):aam))++afZ fold ws (adF fold ws z c) (at_+1) b
section
variable {fold:Bool}{ws:List (List Int)}
theorem aqe (z:Nat):adf fold ws z []=z:=rfl
theorem aik (z:Nat)(c:Int)(b:List Int):adf fold ws z (c :: b)=adf fold ws (adF fold ws z c) b:=rfl
theorem afV (z:Nat)(b d:List Int):adf fold ws z (b++d)=adf fold ws (adf fold ws z b) d:=by simp [adf,axJ]
theorem akM (z:Nat)(at_:Int):∀(b d:List Int),afZ fold ws z at_ (b++d)=afZ fold ws z at_ b++afZ fold ws (adf fold ws z b) (at_+b.length) d
 | b,d=>by
  induction b generalizing z at_ with
  | nil=>simp [afZ,adf]
  | cons c b ih=>
   simp only [ay1,afZ,aik,ih,ayi,axU,az2,Int.natCast_one];rw [show at_+1+(b.length:Int)=at_+((b.length:Int)+1) by omega]
theorem agc {z:Nat}{x:List Int}(Z:(aa0 ws)[z]?=some x)(c:Int):(aa0 ws)[adF fold ws z c]?=some (lsf (aa0 ws) (x++[fcB fold c]))/\aot ws (lsf (aa0 ws) (x++[fcB fold c]))=(adF fold ws z c:Int):=by
 obtain⟨j,h1,h2,h3⟩:=auB (aeD (ay9 (aaf ws)) (x++[fcB fold c]));unfold adF;rw [Z,ayr,h2,axs];exact⟨h1,rfl⟩
theorem asI {z:Nat}{x:List Int}(Z:(aa0 ws)[z]?=some x):∀b:List Int,(aa0 ws)[adf fold ws z b]?=some (lsf (aa0 ws) (x++aai fold b)):=by
 intro b
 induction b generalizing z x with
 | nil=>
  rw [aqe,show aai fold []=[] by rw [af8];rfl,ayj,Z,acM (ay9 Z)]
 | cons c b ih=>
  rw [aik,ih (agc Z c).1,au8,akw,akw,ax0,ayi]
  rfl
theorem as9 {z:Nat}(Z:z<(aa0 ws).length)(b:List Int):adf fold ws z b<(aa0 ws).length:=
 (awR.1 (asI (ay4 Z) b)).1
end
theorem alP {wss:List (List Int)}(V:wss.length<=1000000)(X:wss.Nodup)(h0:∀x∈wss,x.length≠0)(node:Int):∀v∈ab2 wss node,I64 v:=by
 intro v Z;unfold ab2 at Z
 split at Z
 · obtain⟨x,Y⟩:∃x,(aa0 wss)[node.toNat]?=some x:=⟨_,ay4 (by omega)⟩;rw [aoo h0 Y,an7 X h0] at Z;obtain⟨k,y,h1,_,rfl⟩:=Z;have:=(awR.1 h1).1;unfold I64;omega
 · simp at Z
section
attribute [local go_sem] Oper.semAt_some
attribute [local simp] aab aa6
attribute [local go_sem] aab aa6
theorem alH {Z:List (List Int)}{i:Nat}{x:List Int}(h:Z[i]?=some x)(j:Nat):(Z.take i).flatten++x.take j <+: Z.flatten:=by
 have e:Z=Z.take i++x :: Z.drop (i+1):=by
  obtain⟨Y,rfl⟩:=awR.1 h;rw [<-List.drop_eq_getElem_cons Y,axI]
 have X:Z.flatten=(Z.take i).flatten++(x++(Z.drop (i+1)).flatten):=by
  conv=>lhs;rw [e]
  simp
 rw [X];exact (List.prefix_append_right_inj _).2 ((List.take_prefix j x).trans (List.prefix_append _ _))
theorem alf {Z:List (List Int)}{i:Nat}{x:List Int}(h:Z[i]?=some x):(Z.take (i+1)).flatten=(Z.take i).flatten++x:=by
 rw [aa7 h];simp
end
section
attribute [local go_sem] Oper.semAt_some
attribute [local simp] aab aa6
attribute [local go_sem] aab aa6
def au3 (n:Nat)(z at_:Int):Bool:=decide ((0<=z/\z<(n:Int))/\0<=at_/\at_<=4611686020574871551)
end
section
attribute [local go_sem] Oper.semAt_some
attribute [local simp] aab aa6
attribute [local go_sem] aab aa6
def atF (b base:Nat)(l:List aam)(W:World):Prop:=∃v,Boxed W b 69 v/\adV W base v l
theorem aoF {Z:List (List Int)}{i:Nat}{x:List Int}(h:Z[i]?=some x):(Z.take (i+1)).flatten.length=(Z.take i).flatten.length+x.length/\(Z.take (i+1)).flatten.length<=Z.flatten.length:=by
 have h1:=(alH h x.length).length_le;rw [axo (axe _),List.length_append] at h1;rw [alf h,List.length_append];exact⟨rfl,h1⟩
end
theorem akB {fold:Bool}{ws:List (List Int)}:∀(b:List Int) (z:Nat) (at_:Int),z<(aa0 ws).length->(afZ fold ws z at_ b).length<=(aa0 ws).length*b.length
 | [],z,at_,_=>by simp [afZ]
 | c :: b,z,at_,hz=>by
  have Z:(aa0 ws)[z]?=some (aa0 ws)[z]:=ay4 hz;have Y:=(awR.1 (agc (fold:=fold) Z c).1).1;have X:=akB (fold:=fold) b (adF fold ws z c) (at_+1) Y;have h9:=acI ws (adF fold ws z c);simp only [afZ,List.length_append,ayq,axU];rw [Nat.mul_succ];omega
end Go.Proofs.YtaamacoicojhnaaGreat
