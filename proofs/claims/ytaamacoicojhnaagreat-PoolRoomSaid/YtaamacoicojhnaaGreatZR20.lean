/- Proofs over the given program, part 20. -/
import Derived.Test.YtaamacoicojhnaaGreatZR19
set_option linter.unusedVariables false
set_option linter.unusedSimpArgs false
set_option maxRecDepth 100000
set_option maxHeartbeats 16000000
open Go.Proofs.Tryz
open Go.Proofs.Tryz renaming prog→ZP
open Go.World(cell? frozen?)
open Go.Value(int slice pointer bool)
open Go.IntKind(i64)
namespace Go.Proofs.YtaamacoicojhnaaGreat
open Go.RowKit Go.Sort
theorem PV(w:World):Calls ZP 23 #[] w λe w'=>e=.returned (bool true)/\Bt w w':=by
 have kc:=aql;have cu:=AA (AH w.heap.size w);go_enter func23,ntmps23;go_upto_region 3 with fail
 obtain⟨A1,aG⟩:∃X,X=w.alloc (.cells #[int i64 2,int i64 3,int i64 2,int i64 1,int i64 1,int i64 2,int i64 0] 26):=⟨_,rfl⟩;rw[<-aG];have z1:A1.heap.size=w.heap.size+1:=by rw[aG];simp
 have n1:A1.heap[w.heap.size]?=some (.cells #[int i64 2,int i64 3,int i64 2,int i64 1,int i64 1,int i64 2,int i64 0] 26 (0,0)):=by rw[aG];exact AT _ _
 have B1:Bt w A1:=by rw[aG];exact AL _ _
 clear aG;obtain⟨A2,aF⟩:∃X,X=A1.alloc (.cells #[.int .u8 117,.int .u8 115,.int .u8 104] 5 (3,4)):=⟨_,rfl⟩;rw[<-aF];have z2:A2.heap.size=w.heap.size+1+1:=by rw[aF];simp[z1]
 have y1:Bys A2 (some ⟨w.heap.size+1,0,none⟩) 3 [117,115,104]:=by rw[aF];exact PO [117,115,104] sm _ _ z1
 have B2:Bt A1 A2:=by rw[aF];exact AL _ _
 clear aF;obtain⟨A3,aE⟩:∃X,X=A2.alloc (.cells #[.int .u8 101,.int .u8 114,.int .u8 115] 5 (3,4)):=⟨_,rfl⟩;rw[<-aE];have z3:A3.heap.size=w.heap.size+1+1+1:=by rw[aE];simp[z2]
 have y2:Bys A3 (some ⟨w.heap.size+1+1,0,none⟩) 3 [101,114,115]:=by rw[aE];exact PO [101,114,115] sm _ _ z2
 have B3:Bt A2 A3:=by rw[aE];exact AL _ _
 clear aE;obtain⟨J,aP⟩:∃X,X=A3.alloc (.cells #[slice (some ⟨w.heap.size+1,0,none⟩) 3 3,slice none 0 0,slice (some ⟨w.heap.size+1+1,0,none⟩) 3 3] 32):=⟨_,rfl⟩;rw[<-aP];have y3:Sl1 (λv:Option Addr×Nat×Nat=>slice v.1 v.2.1 v.2.2) J (some ⟨w.heap.size+1+1+1,0,none⟩) 3 [(some ⟨w.heap.size+1,0,none⟩,3,3),(none,0,0),(some ⟨w.heap.size+1+1,0,none⟩,3,3)]:=by rw[aP];exact Sl1.lay (α:=Option Addr×Nat×Nat) _ A3 [(some ⟨w.heap.size+1,0,none⟩,3,3),(none,0,0),(some ⟨w.heap.size+1+1,0,none⟩,3,3)] _ _ z3
 have B4:Bt A3 J:=by rw[aP];exact AL _ _
 clear aP;have bL:=B3.trans (B4.mono B3.size);have aU:Hid (aph J (some ⟨w.heap.size+1+1+1,0,none⟩) 3 [(some ⟨w.heap.size+1,0,none⟩,3,3),(none,0,0),(some ⟨w.heap.size+1+1,0,none⟩,3,3)] rW):=by
  refine⟨y3,rfl,λi v xs hv hx=>?_⟩
  match i,hv,hx with
  |0,hv,hx=>cases hv;cases hx;exact y1.below bL
  |1,hv,hx=>cases hv;cases hx;exact Bys.nil _ _
  |2,hv,hx=>cases hv;cases hx;exact y2.below B4
 have bM:Bt A1 J:=B2.trans (bL.mono B2.size);have cj:Hid (Bt w J):=B1.trans (bM.mono B1.size);have bG:Hid (J.heap[w.heap.size]?=some (.cells #[int i64 2,int i64 3,int i64 2,int i64 1,int i64 1,int i64 2,int i64 0] 26 (0,0))):=(bM.block _ (AD.1 n1).1).trans n1;clear y1 y2 y3 B1 B2 B3 B4 bL bM n1 z1 z2 z3;obtain⟨cb,bt⟩:∃x,w.heap.size=x:=⟨_,rfl⟩;obtain⟨rb,bT⟩:∃x,w.heap.size+1+1+1=x:=⟨_,rfl⟩;rw[bT]at aU⊢;rw[bt]at bG⊢;have cD:=AA bt;clear bT bt;have aL:Hid (∀V,Bt J V->V.cell? ⟨cb,0,none⟩=some (int i64 2)/\V.cell? ⟨cb,1,none⟩=some (int i64 3)/\V.cell? ⟨cb,2,none⟩=some (int i64 2)/\V.cell? ⟨cb,3,none⟩=some (int i64 1)/\V.cell? ⟨cb,4,none⟩=some (int i64 1)/\V.cell? ⟨cb,5,none⟩=some (int i64 2)/\V.cell? ⟨cb,6,none⟩=some (int i64 0)):=λV N=>by have h:=(N.block _ (AD.1 bG.out).1).trans bG.out;exact⟨by simp[cell?,h],by simp[cell?,h],by simp[cell?,h],by simp[cell?,h],by simp[cell?,h],by simp[cell?,h],by simp[cell?,h]⟩
 have bp:∀V,Bt J V->∃vs,aph V (some ⟨rb,0,none⟩) 3 vs rW:=λV N=>⟨_,aU.out.1.below N,aU.out.2.1,λi v xs h1 h2=>(aU.out.2.2 i v xs h1 h2).below N⟩;have K1:Hid (∀V,Bt J V->∀a,Wds V (some a) 3 heW->Calls ZP 24 #[.agg (AM false (some a) 3 3),.agg #[int i64 2,int i64 3,int i64 2,int i64 1,int i64 1,int i64 2,int i64 0],bool false,slice (some ⟨rb,0,none⟩) 3 3,slice none 0 0] V λe w'=>∃A o,e=.returned (pointer (some ⟨A.P,0,none⟩))/\AI A (cW false []) o (sP 0) w'/\Bt V w'/\∀k,k<V.heap.size->o k=1000000):=λV N a hw=>
  apT (cW false []) false (some a) 3 3 (some ⟨rb,0,none⟩) 3 3 none 0 0 heW rW V hw (bp V N) ⟨rfl,.inl rfl⟩ (by decide+kernel) (by decide) aqI aqJ (by decide+kernel) (by decide) rfl Ov (by decide) (by decide) (by decide) (by decide)
 have K2:Hid (∀V,Bt J V->∀a g,Wds V (some a) 3 heW->V.heap[g]?=some (.cells #[bool false] 4 (0,0))->Calls ZP 24 #[.agg (AM false (some a) 3 3),.agg #[int i64 2,int i64 3,int i64 2,int i64 1,int i64 1,int i64 2,int i64 0],bool true,slice (some ⟨rb,0,none⟩) 3 3,slice (some ⟨g,0,none⟩) 1 1] V λe w'=>∃A o,e=.returned (pointer (some ⟨A.P,0,none⟩))/\AI A (cW true [false]) o (sQ 0) w'/\Bt V w'/\∀k,k<V.heap.size->o k=1000000):=λV N a g hw hg=>
  apT (cW true [false]) false (some a) 3 3 (some ⟨rb,0,none⟩) 3 3 (some ⟨g,0,none⟩) 1 1 heW rW V hw (bp V N) ⟨rfl,.inr ⟨g,0,rfl,(AD.1 hg).1,λi x hx=>by
   match i,hx with
   |0,hx=>cases hx;simp[cell?,hg]⟩⟩ (by decide+kernel) (by decide) aqI aqJ (by decide+kernel) (by decide) rfl Ov (by decide) (by decide) (by decide) (by decide)
 clear bp;obtain⟨D,hD⟩:∃D,D=J.drew:=⟨_,rfl⟩;have af:Bt J D:=by rw[hD];exact AN J 1
 refine Vb ?_;refine Va (S:=Bt J) kr (by rw[<-hD];exact af) (λhHeld=>?_);rw[<-hD];clear hD hHeld;refine tkB 1 aL.out ?_;refine tkB 2 aL.out ?_;refine tkB 5 aL.out ?_;refine tkB 6 aL.out ?_;refine apJ 7 (λv V=>∃g,v=slice (some ⟨g,0,none⟩) 1 1/\V.heap[g]?=some (.cells #[bool false] 4 (0,0))) ?_ ?_ (λF=>?_)
 ·rintro _ V V' ⟨g,rfl,h⟩ U;exact⟨g,rfl,(U.block _ (AD.1 h).1).trans h⟩
 ·intro f V N _ K Z;go_simp;exact Z _ _ (N.alloc N.size _) ⟨_,rfl,AT _ _⟩ (AL _ _)
 refine Oo F 0 (λv V=>∃a,v=.agg (AM false (some a) 3 3)/\Wds V (some a) 3 heW) ?_ ?_
 ·rintro f (rfl|⟨vk,rfl⟩) V N-K Z<;>(try simp only[pq]at Z⊢)<;>go_simp<;>(go_at_call 60;refine(PW V).mono ?_;rintro e V2 ⟨a,rfl,hw,Y⟩;exact Z _ _ (N.trans (Y.mono N.size)) ⟨a,rfl,hw⟩ Y)
 rintro _ u1 bB-⟨a,rfl,bR⟩
 try simp only[pq]
 refine Oo F 3 (λv V=>∃(A:PAd)(o:Nat->Nat),v=pointer (some ⟨A.P,0,none⟩)/\AI A (cW false []) o (sP 0) V/\J.heap.size<=V.heap.size/\∀k,k<J.heap.size->o k=1000000) ?_ ?_
 ·rintro f (rfl|⟨vk,rfl⟩) V N hu K Z<;>(try simp only[pq]at Z⊢)<;>go_simp<;>(go_at_call 24;refine(K1.out V N a (bR.below hu)).mono ?_;rintro e V2 ⟨A,o,rfl,hp,Y,hz⟩;exact Z _ _ (N.trans (Y.mono N.size)) ⟨A,o,rfl,hp,AS N.size Y.size,λk hk=>hz k (Af hk N.size)⟩ Y)
 rintro _ u2 aO-⟨A,o,rfl,hp,bU,hz⟩
 try simp only[pq]
 refine Oo F 4 (λv V=>∃a,v=.agg (AM false (some a) 3 3)/\Wds V (some a) 3 heW) ?_ ?_
 ·rintro f (rfl|⟨vk,rfl⟩) V N-K Z<;>(try simp only[pq]at Z⊢)<;>go_simp<;>(go_at_call 60;refine(PW V).mono ?_;rintro e V2 ⟨a,rfl,hw,Y⟩;exact Z _ _ (N.trans (Y.mono N.size)) ⟨a,rfl,hw⟩ Y)
 rintro _ u3 aB ay ⟨a2,rfl,bQ⟩
 try simp only[pq]
 refine apI F ?_;rintro _ u4 ac aw-⟨g,rfl,hg⟩
 try simp only[pq]
 have aX:=ay.trans (aw.mono ay.size);have K3:=AA (K2.out u4 ac a2 g (bQ.below aw) hg);refine rdy 8 (λK Z=>?_);go_simp
 go_at_call 24;refine K3.out.mono ?_;rintro e u5 ⟨B,p,rfl,hq,av,bO⟩
 have HT:Hid (TwW A B (λk=>k<J.heap.size) 0 0 u5):=⟨Two.mk hp bU hz aX av hq bO⟩;have aV:Hid (Bt J u5):=ac.trans (av.mono ac.size);refine Z.out _ _ aV.out (λh8=>?_);clear Z K F K1 K2 K3 hp bU hz aX av hq bO ay aw bR bQ hg bB aO aB ac h8 af
 try simp only[pq]
 refine tkA 9 ?_;refine tkA 10 ?_;refine Vd kr ?_ _;refine At ?_;go_upto_region 5 with(first|(go_at_call 60;refine(PW _).mono ?_;rintro e u6 ⟨a6,rfl,bP,au⟩;have cd:=AA bP;have bK:=AA au;clear bP au)|(go_at_call 52;refine(adn false (some a6) 3 3 heW _ cd.out (by decide) aqI aqJ (by decide+kernel)).mono ?_;rintro e u7 ⟨MB,rfl,_,ar⟩;have bJ:=AA ar;clear ar))
 go_upto_region 6 with(go_at_call 54;refine(aqp MB _).mono ?_;rintro e u8 ⟨rfl,ab⟩;have bI:=AA ab;clear ab)
 go_upto_region 7 with(go_at_call 54;refine(aqT _).mono ?_;rintro e u9 ⟨rfl,ag⟩;have bH:=AA ag;clear ag)
 have aJ:=AA ((((HT.out.same bK.out).same bJ.out).same bI.out).same bH.out);have ci:Hid (Bt J u9):=by have h6:=aV.out.trans (bK.out.mono aV.out.size);have h7:=h6.trans (bJ.out.mono h6.size);have h8:=h7.trans (bI.out.mono h7.size);exact h8.trans (bH.out.mono h8.size)
 clear HT aV bK bJ bI bH cd;go_upto_region 10 with fail
 go_loopw[11] (λbo wr=>∃i:Nat,i<=200/\bo=int i64 i/\Hid (TwW A B (λk=>k<J.heap.size) i i wr)/\Hid (Bt J wr)) (λbo _=>200-(intOf bo).toNat)
 case atStart=>exact⟨0,AR _,rfl,aJ,ci⟩
 case round=>
  clear aJ ci;obtain⟨i,hi,rfl,HT,HL⟩:=hrel
  by_cases cB:i<200
  ·have hd:decide ((i:Int)<200)=true:=by simp;omega
   go_upto_region 13 with(go_at_call 17;refine(HT.out.pickA om).mono ?_;rintro e x1 ⟨⟨y1,y2,rfl⟩,aa,aA⟩;have aT:=AA aa;have ah:=AA (HL.out.trans (aA.belF HL.out.size));clear aa aA)
   go_upto_region 14 with(go_at_call 17;refine(aT.out.pickB om).mono ?_;rintro e x2 ⟨⟨y3,y4,rfl⟩,y,Y⟩;have aS:=AA y;have C:=AA (ah.out.trans (Y.belF ah.out.size));clear y Y)
   go_wp2_with fail
   refine(aS.out.viewB om).mono ?_;rintro e x3 ⟨⟨v0,v3,v4,a6,n6,c6,b0,b1,b2,n1,n2,n5,n7,cy,rfl,cz⟩,z,ax⟩;have aR:=AA z;have aI:=AA (C.out.trans (ax.mono C.out.size));have g1:decide ((2:Int)<(n6:Int))=false:=by simp;omega
   have g2:decide (2<n6)=false:=by simp;omega
   clear z ax;go_wp2
   rename_i co
   go_simp;refine co _ _ ?_;go_wp2
   go_roundw
   case rel=>exact⟨i+1,by omega,by go_num,aR,aI⟩
   case measure=>simp[intOf];omega
  ·obtain rfl:i=200:=by omega
   have hd:decide ((200:Int)<200)=false:=by decide
   go_upto_region 17 with (first
    |(go_at_call 37;refine HT.out.statB.mono ?_;rintro e x1 ⟨rfl,aa,aA⟩;have aT:=AA aa;have ah:=AA (HL.out.trans (aA.mono HL.out.size));clear aa aA)
    |(go_at_call 16;refine aT.out.overB.mono ?_;rintro e x2 ⟨rfl,y,Y⟩;have aS:=AA y;have C:=AA (ah.out.trans (Y.mono ah.out.size));clear y Y)
    |(go_at_call 41;refine aS.out.tookB.mono ?_;rintro e x3 ⟨⟨a3,c3,rfl⟩,z,ax⟩;have aR:=AA z;have aI:=AA (C.out.trans (ax.mono C.out.size));clear z ax)
    |(go_at_call 29;refine aR.out.enB.mono ?_;rintro e x4 ⟨⟨a4,c4,rfl⟩,aq,bZ⟩;have ch:=AA aq;have bE:=AA (aI.out.trans (bZ.mono aI.out.size));clear aq bZ))
   go_wp2_with fail
   refine ch.out.canB.mono ?_;rintro e x5 ⟨rfl,ap,bY⟩;have cg:=AA ap;have bD:=AA (bE.out.trans (bY.belF bE.out.size));clear ap bY
   go_wp2_with fail
   refine cg.out.canB.mono ?_;rintro e x6 ⟨rfl,ao,au⟩;have cf:=AA ao;have ca:=AA (bD.out.trans (au.belF bD.out.size));clear ao au HT aT aS aR ch cg ah C aI bE bD HL;go_upto_region 19 with fail
   go_loopw[15] (λbm wr=>∃j:Nat,j<=60/\bm=int i64 j/\Hid (TwE A B (λk=>k<J.heap.size) j wr)/\Hid (Bt J wr)) (λbm _=>60-(intOf bm).toNat)
   case atStart=>exact⟨0,AR _,rfl,cf,ca⟩
   case round=>
    clear cf ca;obtain⟨j,hj,rfl,HT,HL⟩:=hrel
    by_cases cA:j<60
    ·have hd:decide ((j:Int)<60)=true:=by simp;omega
     go_wp2_with fail
     refine(HT.out.pickB om).mono ?_;rintro e x7 ⟨⟨y1,y2,rfl⟩,am,ar⟩;have ct:=AA am;have cq:=AA (HL.out.trans (ar.belF HL.out.size));clear am ar;go_wp2
     go_roundw
     case rel=>exact⟨j+1,by omega,by go_num,ct,cq⟩
     case measure=>simp[intOf];omega
    ·obtain rfl:j=60:=by omega
     have hd:decide ((60:Int)<60)=false:=by decide
     clear hd;go_upto_region 23 with(go_at_call 34;refine HT.out.viewB.mono ?_;rintro e x8 ⟨⟨v0,v3,v4,v6,rfl,hv⟩,al,ab⟩;obtain⟨a0,c0,rfl,_,_⟩:=Co hv.r0;obtain⟨a3,c3,rfl,_,_⟩:=Co hv.r3;obtain⟨a4,c4,rfl,_,_⟩:=Co hv.r4;obtain⟨a6,c6,rfl,_,_⟩:=Co hv.r6;have HV:=AA hv;have cr:=AA al;have cp:=AA (HL.out.trans (ab.mono HL.out.size));clear hv al)
     obtain⟨H,aM⟩:∃X,X=x8.alloc (.cells (vwC (slice a0 (vwE true).ph.length c0) (slice a3 (vwE true).q.length c3) (slice a4 (vwE true).rg.length c4) (slice a6 (vwE true).live.length c6) (vwE true)) 63):=⟨_,rfl⟩;obtain⟨g8,aN⟩:∃g,x8.heap.size=g:=⟨_,rfl⟩;have ag:Bt x8 H:=by rw[aM];exact AL _ _
     have bu:Bt wr H:=ab.trans (ag.mono ab.size);have bq:H.heap[g8]?=some (.cells (vwC (slice a0 (vwE true).ph.length c0) (slice a3 (vwE true).q.length c3) (slice a4 (vwE true).rg.length c4) (slice a6 (vwE true).live.length c6) (vwE true)) 63 (0,0)):=by rw[aM,<-aN];exact AT _ _
     have bs:=(AD.1 bq).1;have bX:wr.heap.size<=g8:=by rw[<-aN];exact ab.size
     rw[<-aM,aN];obtain⟨F2,aD⟩:∃F:Nat->Prop,F=λk=>k<J.heap.size∨wr.heap.size<=k/\k<H.heap.size:=⟨_,rfl⟩;have aJ:Hid (TwE A B F2 60 H):=HT.out.more bu λk hk=>by rw[aD]at hk;exact hk
     have aK:Hid (∀V,Chg (λk=>¬F2 k) H V->V.cell? ⟨g8,0,none⟩=some (slice a0 5 c0)/\V.cell? ⟨g8,1,none⟩=some (int i64 2)/\V.cell? ⟨g8,2,none⟩=some (int i64 2)/\V.cell? ⟨g8,3,none⟩=some (slice a3 0 c3)/\V.cell? ⟨g8,4,none⟩=some (slice a4 0 c4)/\V.cell? ⟨g8,5,none⟩=some (int i64 0)/\V.cell? ⟨g8,6,none⟩=some (slice a6 0 c6)/\V.cell? ⟨g8,7,none⟩=some (int i64 2)/\V.cell? ⟨g8,8,none⟩=some (bool true)/\V.cell? ⟨g8,9,none⟩=some (bool true)/\V.cell? ⟨g8,10,none⟩=some (bool true)/\V.cell? ⟨g8,11,none⟩=some (int i64 6)):=λV N=>by have h:V.heap[g8]?=_:=(N.block _ bs λe=>e (by rw[aD];exact .inr ⟨bX,bs⟩)).trans bq;exact⟨by simp[cell?,h,vwE],by simp[cell?,h,vwE],by simp[cell?,h,vwE],by simp[cell?,h,vwE],by simp[cell?,h,vwE],by simp[cell?,h,vwE],by simp[cell?,h,vwE],by simp[cell?,h,vwE],by simp[cell?,h,vwE],by simp[cell?,h,vwE],by simp[cell?,h,vwE],by simp[cell?,h,vwE]⟩
     have bF:=HL.out.trans (bu.mono HL.out.size);have ck:Hid (∀V,Chg (λk=>¬F2 k) H V->Bt J V):=λV N=>bF.trans (N.below bF.size λk hk e=>e (by rw[aD];exact .inl hk));have aQ:Hid (∀V,Chg (λk=>¬F2 k) H V->VwS V wr.heap.size (slice a0 (vwE true).ph.length c0) (slice a3 (vwE true).q.length c3) (slice a4 (vwE true).rg.length c4) (slice a6 (vwE true).live.length c6) (vwE true)):=λV N=>(HV.out.below ag).keep N λk h1 h2 e=>e (by rw[aD];exact .inr ⟨h1,h2⟩);have bC:Hid (Chg (λk=>¬F2 k) H H):=.refl _ _;have cC:Hid (∀V W',Chg (λk=>¬F2 k) H V->Chg (λk=>¬F2 k) V W'->Chg (λk=>¬F2 k) H W'):=λV W' h1 h2=>h1.then h2;clear aM aN ab ag bu bq bs bX aD bF HL HT cr HV cp;obtain⟨bl,bk,bj,bi,bh,bg,bf,be,bd,bb,ak,aj⟩:=aK.out H bC.out
     go_wp2_with fail
     refine(aJ.out.statB).mono ?_;rintro e bN ⟨rfl,a1,aZ⟩;have b8:=AA a1;have aH:Hid (Chg (λk=>¬F2 k) H bN):=bC.out.same aZ;clear aZ a1;clear bl bk bj bi bh bg bf be bd bb ak aj;obtain⟨bl,bk,bj,bi,bh,bg,bf,be,bd,bb,ak,aj⟩:=aK.out bN aH.out
     go_wp2_with fail
     refine(b8.out.enB).mono ?_;rintro e cl ⟨⟨a7,c7,rfl⟩,s,aY⟩;have b7:=AA s;have b5:Hid (Chg (λk=>¬F2 k) H cl):=aH.out.same aY;clear aY s;clear bl bk bj bi bh bg bf be bd bb ak aj aJ b8 bC aH
     go_wp2_with fail
     refine(aqt 0 _).mono ?_;rintro e ai ⟨rfl,az⟩;have b9:=AA az;have b4:Hid (Chg (λk=>¬F2 k) H ai):=b5.out.same az;clear az;have b6:=AA (b7.out.same b9.out);have M1:Hid (∀V,Chg (λk=>¬F2 k) H V->Calls ZP 36 #[.agg #[slice a0 5 c0,int i64 2,int i64 2,slice a3 0 c3,slice a4 0 c4,int i64 0,slice a6 0 c6,int i64 2,bool true,bool true,bool true,int i64 6],.agg #[slice a0 5 c0,int i64 2,int i64 2,slice a3 0 c3,slice a4 0 c4,int i64 0,slice a6 0 c6,int i64 2,bool true,bool true,bool true,int i64 6]] V λe w'=>e=.returned (bool true)/\Bt V w'):=λV N=>aq3 _ _ _ _ _ _ _ _ (vwE true) true V (aQ.out V N) (aQ.out V N);have M2:Hid (∀V,Chg (λk=>¬F2 k) H V->∀(w0 w3 w4 w6:Value)(m:Nat),VwS V m w0 w3 w4 w6 (vwE false)->Calls ZP 36 #[.agg #[slice a0 5 c0,int i64 2,int i64 2,slice a3 0 c3,slice a4 0 c4,int i64 0,slice a6 0 c6,int i64 2,bool true,bool true,bool true,int i64 6],.agg (vwC w0 w3 w4 w6 (vwE false))] V λe w'=>e=.returned (bool false)/\Bt V w'):=λV N w0 w3 w4 w6 m hw=>aq3 _ _ _ _ _ _ _ _ (vwE true) false V (aQ.out V N) hw;have R1:Hid (∀V,Calls ZP 26 #[.agg #[int i64 2,int i64 3,int i64 2,int i64 1,int i64 1,int i64 2,int i64 0]] V λe w'=>e=.returned (bool true)/\Bt V w'):=λV=>by
      have:=NG 2 3 2 1 1 2 0 V
      rwa[show Ce 2 3 2 1 1 2 0=true by decide]at this
     have R2:Hid (∀V,Calls ZP 26 #[.agg #[int i64 0,int i64 0,int i64 0,int i64 0,int i64 0,int i64 0,int i64 0]] V λe w'=>e=.returned (bool false)/\Bt V w'):=λV=>by
      have:=NG 0 0 0 0 0 0 0 V
      rwa[show Ce 0 0 0 0 0 0 0=false by decide]at this
     clear b7 b5 aQ;go_upto_region 26 with fail
     simp only[List.append_eq,CT,Av];obtain⟨D,hD⟩:∃D,D=ai.drew:=⟨_,rfl⟩;have af:Bt ai D:=by rw[hD];exact AN ai 1
     have ce:=AA (b6.out.same af);have c9:=b4.out.same af;clear b6 b4 af b9;refine Vb ?_;refine Va (S:=λV=>Chg (λk=>¬F2 k) H V) kr (by rw[<-hD];exact c9) (λhHeld=>?_);rw[<-hD];clear hD hHeld;refine tkA 0 ?_;refine tkA 2 ?_;refine tkA 3 ?_;refine tkA 4 ?_;refine arh 5 (λv V=>∃g,v=slice (some ⟨g,0,none⟩) 3 3/\Hts V (some ⟨g,0,none⟩) 3 [(4,1),(4,0),(5,2)]) (λf=>f.tmps[161]?.getD undef=.agg #[int i64 4,int i64 1]/\f.tmps[162]?.getD undef=.agg #[int i64 4,int i64 0]/\f.tmps[163]?.getD undef=.agg #[int i64 5,int i64 2]) ?_ ?_ (λF=>?_)
     ·rintro _ V V' ⟨g,rfl,h⟩ U;exact⟨g,rfl,h.below U⟩
     ·intro f V ⟨g1,g2,g3⟩ N _ K Z;go_simp;exact Z _ _ (N.same (AL _ _)) ⟨_,rfl,aqH [(4,1),(4,0),(5,2)] (by unfold I64;decide) rfl⟩ (AL _ _)
     refine Oo F 1 (λv V=>∃a cc,v=slice a 3 cc/\Hts V a 3 [(4,1),(4,0),(5,2)]/\TwE A B F2 60 V) ?_ ?_
     ·rintro f (rfl|⟨vk,rfl⟩) V N hu K Z<;>(try simp only[pq]at Z⊢)<;>go_simp<;>(go_at_call 41;refine(ce.out.same hu).tookA.mono ?_;rintro e V2 ⟨⟨a,cc,rfl,hh⟩,ht,Y⟩;exact Z _ _ (N.same Y) ⟨a,cc,rfl,hh,ht⟩ Y)
     rintro _ u1 bB-⟨a8,c8,rfl,bW,aa⟩
     try simp only[pq]
     refine apI F ?_;rintro _ u2 aO Y-⟨g9,rfl,bV⟩
     try simp only[pq]
     have C:=AA (aqd a8 (some ⟨g9,0,none⟩) 3 c8 3 3 [(4,1),(4,0),(5,2)] [(4,1),(4,0),(5,2)] u2 (bW.below Y) bV (by decide));have y:=aa.same Y;clear F bW bV Y aa bB ce c9;refine rdy 6 (λK Z=>?_);go_simp
     go_at_call 40;refine C.out.mono ?_;rintro e u3 ⟨rfl,U⟩;simp only[decide_true]
     have aB:=aO.same U;have z:=y.same U;refine Z.out _ _ aB (λI=>?_);clear Z K I U C aO y
     try simp only[pq]
     refine tkA 7 ?_;refine tkA 8 ?_;refine tkA 10 ?_;refine rdy 9 (λK Z=>?_);go_simp
     go_at_call 37;refine(z.statA).mono ?_;rintro e u4 ⟨rfl,aq,U⟩
     have ac:=aB.same U;refine Z.out _ _ ac (λI=>?_);clear Z K I U aB z
     try simp only[pq]
     refine tkA 11 ?_;refine tkA 12 ?_;refine tkA 13 ?_;refine tkA 14 ?_;refine rdy 15 (λK Z=>?_);go_simp
     go_at_call 16;refine(aq.overA).mono ?_;rintro e u5 ⟨rfl,ap,U⟩
     have bA:=ac.same U;refine Z.out _ _ bA (λI=>?_);clear Z K I U ac aq
     try simp only[pq]
     refine tkA 16 ?_;refine tkA 17 ?_;refine tkA 18 ?_;refine rdy 19 (λK Z=>?_);go_simp
     go_at_call 21;refine(ap.canA).mono ?_;rintro e u6 ⟨rfl,ao,U⟩
     have bz:=bA.then U;refine Z.out _ _ bz (λI=>?_);clear Z K I U bA ap
     try simp only[pq]
     refine tkA 20 ?_;refine tkA 21 ?_;refine tkA 22 ?_;refine tkA 23 ?_;refine rdy 24 (λK Z=>?_);go_simp
     go_at_call 44;refine(ao.stepA).mono ?_;rintro e u7 ⟨rfl,am,U⟩
     have bx:=bz.then U;refine Z.out _ _ bx (λI=>?_);clear Z K I U bz ao
     try simp only[pq]
     refine tkA 25 ?_;refine tkA 26 ?_;refine tkA 27 ?_;refine tkA 28 ?_;refine tkA 29 ?_;refine tkA 30 ?_;refine tkA 31 ?_;refine tkA 32 ?_;refine tkA 33 ?_;refine tkA 34 ?_;refine tkA 35 ?_;refine tkA 36 ?_;refine tkA 37 ?_;refine tkA 38 ?_;refine tkA 39 ?_;refine tkA 40 ?_;refine tkA 41 ?_;refine tkA 42 ?_;refine tkA 43 ?_;refine tkA 44 ?_;refine tkA 45 ?_;refine rdy 46 (λK Z=>?_);go_simp
     go_at_call 16;refine(aqu u7).mono ?_;rintro e u8 ⟨rfl,U⟩
     have bw:=bx.same U;have al:=am.same U;refine Z.out _ _ bw (λI=>?_);clear Z K I U bx am
     try simp only[pq]
     refine tkA 47 ?_;refine tkA 48 ?_;refine tkA 49 ?_;refine tkW 50 (v:=?_) ?_ ?_;rotate_left
     ·intro V N;obtain⟨q0,q1,q2,q3,q4,q5,q6⟩:=aL.out V (ck.out V N)
      first|(go_simp;done)|(go_simp;with_reducible rfl)
     try simp only[pq]
     refine rdy 51 (λK Z=>?_);go_simp
     go_at_call 26;refine(R1.out u8).mono ?_;rintro e u9 ⟨rfl,U⟩
     have bv:=bw.same U;have bS:=al.same U;refine Z.out _ _ bv (λI=>?_);clear Z K I U bw al
     try simp only[pq]
     refine tkA 52 ?_;refine tkA 53 ?_;refine tkA 54 ?_;refine rdy 55 (λK Z=>?_);go_simp
     go_at_call 26;refine(R2.out u9).mono ?_;rintro e cn ⟨rfl,U⟩
     have ae:=bv.same U;have a1:=bS.same U;refine Z.out _ _ ae (λI=>?_);clear Z K I U bv bS
     try simp only[pq]
     refine tkA 56 ?_;refine tkA 57 ?_;refine tkA 58 ?_;refine tkB 59 aK.out ?_;refine tkB 60 aK.out ?_;refine rdy 61 (λK Z=>?_);go_simp
     go_at_call 36;refine(M1.out cn ae).mono ?_;rintro e cx ⟨rfl,U⟩
     have aC:=ae.same U;have s:=a1.same U;refine Z.out _ _ aC (λI=>?_);clear Z K I U ae a1
     try simp only[pq]
     refine tkA 62 ?_;refine tkA 63 ?_;refine tkB 64 aK.out ?_;refine tkA 65 ?_;refine rdy 66 (λK Z=>?_);go_simp
     go_at_call 34;refine(s.viewA).mono ?_;rintro e cm ⟨⟨w0,w3,w4,w6,rfl,hw⟩,aW,U⟩
     have ad:=aC.same U;have HW:=AA hw;clear hw;refine Z.out _ _ ad (λI=>?_);clear Z K I U aC s
     try simp only[pq]
     refine rdy 67 (λK Z=>?_);go_simp
     go_at_call 36;refine(M2.out cm ad w0 w3 w4 w6 _ HW.out).mono ?_;rintro e cw ⟨rfl,U⟩
     have b3:=ad.same U;have cv:=aW.same U;refine Z.out _ _ b3 (λI=>?_);clear Z K I U ad aW
     try simp only[pq]
     refine tkA 68 ?_;refine tkA 69 ?_;refine tkA 70 ?_;refine Vd kr ?_ _;refine At ?_;go_wp2;go_ret;exact⟨rfl,cu.out.trans ((cj.out.trans ((ck.out _ b3).mono cj.out.size)))⟩
def Ox(Z:La):Nat:=(Z.map λx=>min x.length 200).sum
theorem aq8{Z:La}{i:Nat}{x:List Int}(h:Z[i]?=some x):Ox (Z.take (i+1))=Ox (Z.take i)+min x.length 200:=by unfold Ox;rw[LH,h];simp
theorem PX(Z:La):∀i,Ox (Z.take i)<=200*i
 |0=>by simp[Ox]
 |i+1=>by
  have:=PX Z i
  cases h:Z[i]? with
  |none=>rw[LH,h];simp;omega
  |some x=>rw[aq8 h];omega
def PE(fold:Bool)(wss Z:La)(m k:Nat):Bool:=!Ev wss&&Fw fold wss&&decide (Z.length<=40)&&decide (Ox (Z.take 41)<=120)&&decide (m<=20)&&decide (k<=300)
theorem apU{fold:Bool}{wss Z:La}{m k:Nat}(h:PE fold wss Z m k=true):Ev wss=false/\Fw fold wss=true/\Z.length<=40/\Z.flatten.length<=120/\m<=20/\k<=300/\∀x∈Z,x.length<=120:=by
 unfold PE at h;simp only[Bq,Bool.not_eq_true',decide_eq_true_eq]at h;obtain⟨⟨⟨⟨⟨h1,h2⟩,h3⟩,h4⟩,h5⟩,h6⟩:=h;rw[Ap om]at h4;have X:∀l:La,Ox l<=120->l.flatten.length<=Ox l/\∀x∈l,x.length<=120:=by
  intro l
  induction l with
  |nil=>intro _;exact⟨AC _,λx Y=>by cases Y⟩
  |cons y l ih=>
   intro U;have e:Ox (y::l)=min y.length 200+Ox l:=by unfold Ox;rw[BO,List.sum_cons]
   rw[e]at U;obtain⟨N,V⟩:=ih om;refine⟨?_,λx Y=>?_⟩
   ·rw[e,List.flatten_cons,List.length_append];omega
   ·rcases CR.1 Y with rfl|Y
    ·omega
    ·exact V x Y
 obtain⟨N,V⟩:=X Z h4;exact⟨h1,h2,h3,by omega,h5,h6,V⟩
theorem apZ(fold:Bool)(a:Option Addr)(U J:Nat)(b:Option Addr)(n cb:Nat)(d:Option Addr)(m cd:Nat)(f:Option Addr)(k cf:Nat)(wss X:La)(w:World)(hA:Wds w a U wss)(hB:Wds w b n X) :Calls ZP 22 #[.agg (AM fold a U J),slice b n cb,slice d m cd,slice f k cf] w λe w'=>e=.returned (bool (PE fold wss X m k))/\Bt w w':=by
 obtain⟨W,hW⟩:∃W,W=w.alloc (.cells (AM fold a U J) 24):=⟨_,rfl⟩;have N:Bt w W:=by rw[hW];exact AL _ _
 have hO:Bx w.heap.size [.cells (AM fold a U J) 24] W:=by rw[hW];exact(Bx.nil _ w).snoc _ rfl
 have HC:Hid (∀V,Bt W V->V.cell? ⟨w.heap.size,0,none⟩=some (bool fold)/\V.cell? ⟨w.heap.size,1,none⟩=some (slice a U J)):=λV I=>by have h:=hO.below I;exact⟨h.cell (i:=0) rfl rfl,h.cell (i:=0) rfl rfl⟩
 have hn:X.length=n:=hB.len;have C:=hA.below N;have a8:=hB.below N;have k1:Hid (∀V,Bt W V->Calls ZP 45 #[.agg (AM fold a U J)] V λe w'=>e=.returned (bool (Ev wss))/\Bt V w'):=λV I=>ai3 fold a U J wss V (C.below I);have k2:Hid (Ev wss=false->∀V,Bt W V->Calls ZP 46 #[.agg (AM fold a U J)] V λe w'=>e=.returned (bool (Fw fold wss))/\Bt V w'):=λhg V I=>by obtain⟨b1,b2,_⟩:=ako hg fold;have hl:=hA.len;exact acH fold a U J wss V (C.below I) om (λx hx=>AS (b2 x hx) om)
 have k3:Hid (∀V,Bt W V->∀i,i<n->∃q A a' l c' xs,b=some ⟨q,A,none⟩/\V.cell? ⟨q,A+i,none⟩=some (slice a' l c')/\X[i]?=some xs/\xs.length=l):=λV I i hi=>by obtain⟨q,A,a',l,c',xs,e,_,h1,h2,h3,_⟩:=(a8.below I).at_ hi;exact⟨q,A,a',l,c',xs,e,h1,h2,h3.1.1⟩
 unfold PE;rw[hn];obtain⟨G,hG⟩:∃G,Ev wss=G:=⟨_,rfl⟩;obtain⟨R,hR⟩:∃G,Fw fold wss=G:=⟨_,rfl⟩;rw[hG]at k1 k2⊢;rw[hR]at k2⊢;obtain⟨D3,H⟩:∃D,decide (m<=20)=D:=⟨_,rfl⟩;obtain⟨D4,a2⟩:∃D,decide (k<=300)=D:=⟨_,rfl⟩;have d3:decide ((m:Int)<=20)=D3:=by rw[<-H,decide_eq_decide];omega
 have d4:decide ((k:Int)<=300)=D4:=by rw[<-a2,decide_eq_decide];omega
 have hm:decide (m<=20)=D3:=H;rw[H,a2];have HB:=AA N;obtain⟨T,hT⟩:∃T,Ox (X.take 41)=T:=⟨_,rfl⟩;have ao:T<=8200:=by rw[<-hT];have:=PX X 41;omega
 have ae:Hid (∀i,n<=i∨41<=i->i<=n->i<=41->Ox (X.take i)=T):=λi h1 h2 h3=>by
  rw[<-hT]
  rcases h1 with h1|h1
  ·rw[Ap om,Ap om]
  ·rw[show i=41 by omega]
 obtain⟨D1,a7⟩:∃D,decide (n<=40)=D:=⟨_,rfl⟩;obtain⟨D2,a6⟩:∃D,decide (T<=120)=D:=⟨_,rfl⟩;have d1:decide ((n:Int)<=40)=D1:=by rw[<-a7,decide_eq_decide];omega
 have d2:decide ((T:Int)<=120)=D2:=by rw[<-a6,decide_eq_decide];omega
 rw[hT,a7,a6];clear hT;clear hA hB hO N hn C a8 hG hR;go_enter func22,ntmps22;go_upto_region 1 with fail
 rw[<-hW];clear hW;go_upto_region 3 with fail
 go_loopw[9,10] (λs9 aa wr=>∃i:Nat,i<=n/\i<=41/\s9=int i64 (Ox (X.take i):Nat)/\aa=int i64 i/\Hid (Bt W wr)) (λ_ s _=>41-(intOf s).toNat)
 case atStart=>exact⟨0,AR _,by omega,rfl,rfl,AH _ _⟩
 case round=>
  obtain⟨i,ab,y,rfl,rfl,B⟩:=hrel
  by_cases hc:i<n/\i<41
  ·obtain⟨Z,hZ⟩:∃Z,Ox (X.take i)=Z:=⟨_,rfl⟩;have al:Z<=8200:=by rw[<-hZ];have:=PX X i;omega
   obtain⟨ad,ak⟩:=hc;obtain⟨q,A,a',l,c',xs,rfl,ac,hx,z⟩:=k3.out wr B.out i ad;have HZ:Hid (Ox (X.take (i+1))=Z+min l 200):=by rw[Hid,aq8 hx,hZ,z]
   have hd:decide ((i:Int)<(n:Int))=true:=by simp;omega
   have aj:decide ((i:Int)<=40)=true:=by simp;omega
   have ai:decide (i<=40)=true:=by simp;omega
   have ah:decide (i<n)=true:=by simp;omega
   have i1:(0:Int)<=(i:Int):=by omega
   have i2:(i:Int)<(n:Int):=by omega
   obtain⟨Y,hY⟩:∃Y,min l 200=Y:=⟨_,rfl⟩;have ag:min (l:Int) 200=(Y:Int):=by omega
   have am:Y<=200:=by omega
   have af:IntKind.i64.wrap ((Z:Int)+(Y:Int))=(Z:Int)+(Y:Int):=by rw[BK];omega
   rw[hY]at HZ;rw[hZ];clear z hx hZ hY;go_wp2
   go_roundw
   case rel=>exact⟨i+1,by omega,by omega,by rw[HZ.out];simp,by simp,B⟩
   case measure=>simp[intOf];omega
  ·have HZ:=ae.out i om ab y;rw[HZ];clear HZ k3;obtain⟨q0,q1⟩:=HC.out _ B.out
   go_wp2_with fail
   all_goals
    refine(k1.out _ B.out).mono ?_;rintro e w1 ⟨rfl,a1⟩;have X1:=AA (B.out.trans (a1.mono B.out.size));clear a1 q0 q1;obtain⟨q0,q1⟩:=HC.out _ X1.out
    cases G with
    |true=>
     go_wp2;go_ret;exact⟨rfl,HB.out.trans (X1.out.mono HB.out.size)⟩
    |false=>
     have K2:=AA (k2.out rfl w1 X1.out)
     go_wp2_with fail
     refine K2.out.mono ?_;rintro e w2 ⟨rfl,j⟩;have X2:=AA (X1.out.trans (j.mono X1.out.size));clear j K2
     cases R<;>cases D1<;>cases D2<;>cases D3<;>cases D4<;>(go_wp2;go_ret;exact⟨rfl,HB.out.trans (X2.out.mono HB.out.size)⟩)
theorem FC.mov{c:CfM}{H D L n:Nat}{s:PlM}(h:FC c H D L n s)(Y:c.K<=256)(X:ML c H D)(d z:Int):FC c H D L (n+1) (PD c s d z):=by
 unfold PD
 split
 ·exact h.pick Y X z
 ·split
  ·unfold PA
   split
   ·rename_i Z
    unfold Ou at Z;exact h.step Y X (Bool.and_eq_true_iff.1 Z).2
   ·exact h.up
  ·exact h.cancel.up
structure KB(c:CfM)(s:PlM):Prop where
 le:s.next<=s.number/\s.number-s.next<=c.R
 cnt:∀y,(s.q.map Bc.num).count y+(Cj s.next s.rg).count y<=if s.next<=y/\y<s.number then 1 else 0
 fre:s.rd.ph=1->s.number<s.next+c.R->s.fr≠[]
section
variable {c:CfM}{s t:PlM}{i:Nat}{x:WkM}
theorem KB.of(hB:AW c s)(Z:Ba c s)(X:Az s):KB c s:=⟨Z.le,λy=>by have h:=Z.cnt y;rw[Ea]at h;rw[<-h];omega,λY h=>hB.free Z X Y (by unfold Du;have:=Z.le;simp only[Bq,decide_eq_true_eq];omega)⟩
theorem KB.less(h:KB c s)(h1:t.next=s.next)(h2:t.number=s.number)(h3:∀y,(t.q.map Bc.num).count y<=(s.q.map Bc.num).count y)(h4:∀y,(Cj s.next t.rg).count y<=(Cj s.next s.rg).count y)(h5:t.rd.ph=1->s.rd.ph=1)(h6:s.fr≠[]->t.fr≠[]):KB c t:=⟨by rw[h1,h2];exact h.le,λy=>by rw[h1,h2];have a:=h.cnt y;have b:=h3 y;have d:=h4 y;omega,λZ Y=>h6 (h.fre (h5 Z) om)⟩
theorem arw(s:PlM)(n:Nat)(h:s.fr≠[]):(Bv s n).fr≠[]:=by
 unfold Bv;dsimp only
 split
 ·simp
 ·exact h
theorem KB.takeW(h:KB c s):KB c (takeW s i):=by
 unfold Proofs.YtaamacoicojhnaaGreat.takeW
 cases Z:s.q with
 |nil=>exact h.less rfl rfl (λy=>AC _) (λy=>AC _) id id
 |cons b q=>exact h.less rfl rfl (λy=>by rw[Z,BO];exact List.count_le_count_cons) (λy=>AC _) id id
theorem KB.leaveW(h:KB c s):KB c (leaveW s i):=by
 unfold Proofs.YtaamacoicojhnaaGreat.leaveW
 split
 ·exact h
 ·exact h.less rfl rfl (λy=>AC _) (λy=>AC _) id (arw s _)
theorem KB.step(h:KB c s)(Z:s.cancelled=true)(k:Nat):KB c (Bi c s k):=by
 unfold Bi
 split
 ·unfold stepR stopR shutR;rw[Lc Z]
  split
  ·exact h.less rfl rfl (λy=>AC _) (λy=>AC _) (λe=>by cases e) (arw s _)
  ·exact h.less rfl rfl (λy=>AC _) (λy=>AC _) (λe=>by cases e) id
 ·split
  ·unfold stepW stopW;rw[Lc Z];dsimp only
   split
   ·split
    ·exact h.takeW
    ·exact h.takeW.leaveW
   ·split
    ·exact h
    ·exact h.leaveW
  ·split
   ·unfold stepMg Hr;rw[Lc Z];exact h.less rfl rfl (λy=>AC _) (λy=>by rw[acz];exact AR _) id id
   ·unfold stepE Fr;rw[Lc Z]
    split
    ·exact h.less rfl rfl (λy=>AC _) (λy=>AC _) id id
    ·exact h.less rfl rfl (λy=>AC _) (λy=>AC _) id id
theorem EE.toC(h:EE c s)(Z:s.cancelled=false):KB c s:=.of h.b (h.n Z) h.a.r
structure Pg(c:CfM)(s:PlM):Prop where
 p:EE c s
 v:KB c s
theorem Pg.step(h:Pg c s){k:Nat}(Z:Bj c s k=true):Pg c (Bi c s k):=by
 refine⟨h.p.step Z,?_⟩
 cases Y:s.cancelled with
 |true=>exact h.v.step Y k
 |false=>exact(h.p.step Z).toC (by rw[ae3];exact Y)
theorem Pg.pick(h:Pg c s)(n:Int):Pg c (Fi c s n):=by
 unfold Fi
 cases Z:EZ c s n with
 |none=>exact h
 |some k=>exact h.step (aaO Z).2
theorem Pg.cancel(h:Pg c s):Pg c (LN s):=by
 refine⟨h.p.cancel,?_⟩;unfold LN
 split
 ·exact h.v
 ·exact h.v.less rfl rfl (λy=>AC _) (λy=>AC _) id id
theorem EE.held(h:EE c s):s.fr.length+(s.q.length+(if s.rd.ph=2∨s.rd.ph=3 then 1 else 0)+(s.wk.map λx=>(if x.ph=2∨x.ph=3 then 1 else 0)).sum)=c.R:=by
 have h1:=h.b.perm.length_eq;rw[List.length_append,List.length_range]at h1;have h2:(rdB s.rd).length=if s.rd.ph=2∨s.rd.ph=3 then 1 else 0:=by
  unfold rdB
  by_cases e:s.rd.holds=true
  ·rw[Lc e,Lc (h.a.r.ho.1 e)];rfl
  ·rw[Lb e,Lb λZ=>e (h.a.r.ho.2 Z)];rfl
 have h3:∀l:List WkM,(l.flatMap hW).length=(l.map λx=>(if x.ph=2∨x.ph=3 then 1 else 0)).sum:=by
  intro l
  induction l with
  |nil=>rfl
  |cons x l ih=>
   rw[List.flatMap_cons,List.length_append,BO,List.sum_cons,ih];congr 1;unfold hW
   split<;>rfl
 unfold Cu If at h1;rw[List.length_append,BP,List.length_append,h2,h3]at h1;omega
end
def dtB(K wm:Nat)(text:List Int)(j:Nat):List Int:=(text.take (j*K+K)).drop (j*K-min wm (j*K))
section
variable {c:CfM}{s t:PlM}{text:List Int}{i:Nat}{x:WkM}
end
section
variable {fold:Bool}{wss:La}
theorem aiO(Y:An fold wss=true):∃M:Nat,Au wss=(M:Int)/\(∀y∈wss,y.length<=M)/\1<=M/\M<=32:=by obtain⟨M,h1,h2,h3⟩:=acs wss;refine⟨M,h1,h2,?_,h3 32 (λv Z=>((EI Y).2.2.1 v Z).2)⟩;obtain⟨_,h4,h5,_⟩:=EI Y;obtain⟨v,Z⟩:=List.exists_mem_of_ne_nil _ h4;have:=(h5 v Z).1;have:=h2 v Z;omega
end
def hB(c:CfM)(fold:Bool)(wss:La)(text:List Int)(j:Nat):List AF:=Dj ((c.F+j*c.K:Nat):Int) (BQ fold wss 0 (((c.F+j*c.K:Nat):Int)-((min c.wm (j*c.K):Nat):Int)) (dtB c.K c.wm text j))
section
variable {c:CfM}{fold:Bool}{wss:La}{text:List Int}{x:WkM}{b:Bc}
end
theorem Ph:∀(n:Nat)(l:List (Option (List AF))) (x:Option (List AF)),Cj n (l++[x])=Cj n l++(match x with|some _=>[n+l.length]|_=>[])
 |n,[],none=>rfl
 |n,[],some _=>rfl
 |n,none::t,x=>by show Cj (n+1) (t++[x])=Cj (n+1) t++_;rw[Ph,Ao,show n+1+t.length=n+(t.length+1) by omega]
 |n,some _::t,x=>by
  show n::Cj (n+1) (t++[x])=n::Cj (n+1) t++_;rw[Ph,Ao,show n+1+t.length=n+(t.length+1) by omega]
  rfl
theorem arp(n:Nat)(rg:List (Option (List AF))):∀j,j<=rg.length->Ga n rg j=Cj n (rg.take j)
 |0,_=>by simp[Ga,Cj]
 |j+1,h=>by
  have Z:rg[j]?=some rg[j]:=Ar om;have e:rg.take (j+1)=rg.take j++[rg[j]]:=(List.take_append_getElem om).symm;unfold Ga;rw[arp n rg j om,e,Ph,Z,Ag,Nat.min_eq_left om]
  cases rg[j]<;>rfl
theorem ars(us:List Bool):∀j,Oy us j=((List.range j).filter λi=>us.getD i false).map λx:Nat=>(x:Int)
 |0=>rfl
 |j+1=>by
  unfold Oy;rw[ars us j,El,List.filter_append,Aj];congr 1;rw[List.filter_cons,List.filter_nil]
  split<;>rfl
section
variable {c:CfM}{fold:Bool}{wss:La}{text:List Int}{s t:PlM}{i:Nat}{x:WkM}
theorem EE.live(h:EE c s):(Oy s.us s.us.length).length+s.fr.length=c.R:=by
 have h1:=h.b.perm.filter λi=>s.us.getD i false;have h2:=h.b.perm.length_eq;have h3:s.fr.filter (λi=>s.us.getD i false)=[]:=List.filter_eq_nil_iff.2 λx Z=>by rw[DZ,h.b.uf x Z];decide
 have h4:(Cu s).filter (λi=>s.us.getD i false)=Cu s:=List.filter_eq_self.2 λx Z=>by rw[DZ,h.b.ut x Z];rfl
 rw[List.filter_append,h3,h4,Av]at h1;have h5:=h1.length_eq;rw[ars,BP,h.b.ul,<-h5];rw[List.length_append,List.length_range]at h2;omega
end
section
variable {c:CfM}{s:PlM}
def Pf(s:PlM):List Nat:=s.q.map Bc.num++Cj s.next s.rg
theorem arv(h:EE c s):(Br c s).q++(Br c s).rg=(Pf s).map λx:Nat=>(x:Int):=by
 have Z:Ga s.next s.rg c.R=Cj s.next s.rg:=by have Y:=h.a.f.gl;rw[arp s.next s.rg c.R om,Ap om]
 unfold Br Pf;dsimp only;rw[Z,Aj,List.map_map]
 rfl
theorem ary(h:KB c s){x:Nat}(Z:x∈Pf s):s.next<=x/\x<s.number:=by
 have h1:=h.cnt x;have h2:1<=(Pf s).count x:=Iv.2 Z;unfold Pf at h2;rw[En]at h2
 split at h1
 ·assumption
 ·omega
theorem art(h:KB c s):(Pf s).Nodup:=List.nodup_iff_count.2 λx=>by
 have h1:=h.cnt x;unfold Pf;rw[En]
 split at h1<;>omega
theorem arx(h:KB c s){i j x:Nat}(Z:(Pf s)[i]?=some x)(Y:(Pf s)[j]?=some x):i=j:=by exact(List.getElem?_inj (AP.1 Z).1 (art h)).1 (Z.trans Y.symm)
def Pe(c:CfM)(s:PlM):Nat->Nat
 |0=>0
 |w+1=>Pe c s w+(if w<=c.W/\(phT c s w=2∨phT c s w=3) then 1 else 0)
theorem arq(c:CfM)(s:PlM):∀n,n<=c.W->n<=s.wk.length->Pe c s (n+1)=(if s.rd.ph=2∨s.rd.ph=3 then 1 else 0)+((s.wk.take n).map λx=>(if x.ph=2∨x.ph=3 then 1 else 0)).sum
 |0,_,_=>by simp[Pe,phT]
 |n+1,h,h2=>by
  have Y:=arq c s n om om;unfold Pe;rw[Y];have Z:s.wk[n]?=some s.wk[n]:=Ar om;have X:phT c s (n+1)=(s.wk[n]'om).ph:=by unfold phT;rw[Lb om,Lc om];exact IZ Z
  rw[X,LH,Z];simp only[Option.toList_some,Aj,BO,DE,List.sum_append,List.sum_cons,List.sum_nil];have:n+1<=c.W:=h;simp only[this,true_and];omega
theorem aru(h:EE c s):s.q.length+Pe c s (c.W+3)=(Oy s.us s.us.length).length:=by
 have h1:=h.live;have h2:=h.held;have Z:=h.a.f.wl;have h3:=arq c s c.W (AC _) om;rw[Ap om]at h3;have h4:Pe c s (c.W+3)=Pe c s (c.W+1):=by show Pe c s (c.W+1+1+1)=_;unfold Pe;rw[Pe.eq_2,Lb om,Lb om];simp[Pe]
 omega
end
section
variable {A:PAd}{c:CfM}{s s':PlM}{o:Nat->Nat}{F:Nat->Prop}{w w':World}
def One(A:PAd)(c:CfM)(F:Nat->Prop)(s:PlM)(w:World):Prop:=∃o,AI A c o s w/\∀k,F k->k<w.heap.size/\o k=1000000
theorem One.more{G:Nat->Prop}(h:One A c F s w)(V:Bt w w')(U:∀k,G k->F k∨w.heap.size<=k/\k<w'.heap.size):One A c G s w':=by
 obtain⟨o,h1,h3⟩:=h;have Y:Chg (λ_=>False) w w':=.of_same V;refine⟨o,h1.far Y λ_ _ e=>e.elim,λk hk=>?_⟩
 rcases U k hk with Z|⟨Z,X⟩
 ·exact⟨Af (h3 k Z).1 Y.size,(h3 k Z).2⟩
 ·exact⟨X,h1.out k Z⟩
theorem One.same(h:One A c F s w)(Z:Bt w w'):One A c F s w':=h.more Z λk hk=>.inl hk
theorem One.mk{b:Nat}(h1:AI A c o s w)(Y:b<=w.heap.size)(Z:∀k,k<b->o k=1000000):One A c (λk=>k<b) s w:=⟨o,h1,λk hk=>⟨Af hk Y,Z k hk⟩⟩
theorem AE.one(h:AE A c o s' w w')(ha:∀k,F k->k<w.heap.size/\o k=1000000):One A c F s' w'/\Chg (λk=>¬F k) w w':=by obtain⟨Z,h1,h2,h3⟩:=h;exact⟨⟨Z,h1,λk hk=>⟨Af (ha k hk).1 h3.c.size,h3.f k (ha k hk).1 (ha k hk).2⟩⟩,h3.c.mono λk _ e Y=>e.2 (ha k Y).2⟩
theorem One.call(h:One A c F s w){f:FuncId}{args:Array Value}{R:Ending->World->Prop}(k:∀o,AI A c o s w->Calls ZP f args w λe w'=>R e w'/\AE A c o s' w w') :Calls ZP f args w λe w'=>R e w'/\One A c F s' w'/\Chg (λk=>¬F k) w w':=by obtain⟨o,h1,h3⟩:=h;refine(k o h1).mono ?_;rintro e w' ⟨Z,Y⟩;exact⟨Z,Y.one h3⟩
theorem One.calm(h:One A c F s w){f:FuncId}{args:Array Value}{R:Ending->World->Prop}(k:∀o,AI A c o s w->Calls ZP f args w λe w'=>R e w'/\Bt w w') :Calls ZP f args w λe w'=>R e w'/\One A c F s w'/\Bt w w':=by have h0:=h;obtain⟨o,h1,h3⟩:=h;refine(k o h1).mono ?_;rintro e w' ⟨Y,Z⟩;exact⟨Y,h0.same Z,Z⟩
theorem One.moves(h:One A c F s w)(Z:OkC c)(ok:OkM c s)(x y:Int) :Calls ZP 31 #[pointer (some ⟨A.P,0,none⟩),.agg #[int i64 x,int i64 y]] w λe w'=>e=.returned (PM c s x y)/\One A c F (PD c s x y) w'/\Chg (λk=>¬F k) w w':=h.call λo h1=>aqj w h1 Z ok x y
theorem One.view(h:One A c F s w)(Y:OkC c)(ok:OkM c s)(X:EE c s) :Calls ZP 34 #[pointer (some ⟨A.P,0,none⟩)] w λe w'=>(∃v0 v3 v4 Z,e=.returned (.agg (vwC v0 v3 v4 Z (Br c s)))/\VwS w' w.heap.size v0 v3 v4 Z (Br c s))/\One A c F s w'/\Bt w w':=h.calm λo h1=>(aqY w h1 Y ok X).mono λe w' ⟨v0,v3,v4,Z,h2,h3,h4⟩=>⟨⟨v0,v3,v4,Z,h2,h3⟩,h4⟩
end
theorem arr(c:CfM)(s:PlM):∀n,Pe c s n<=n
 |0=>AC _
 |n+1=>by
  have:=arr c s n;unfold Pe
  split<;>omega
theorem arz{c:CfM}{s:PlM}{n t:Nat}(h:t<n):(phF c s n)[t]?=some ((phT c s t:Nat):Int):=by
 unfold phF;rw[BU,It h]
 rfl
theorem Pg.up{c:CfM}{s:PlM}(h:Pg c s)(d z:Int):Pg c (PD c s d z):=by
 unfold PD
 split
 ·exact h.pick z
 ·split
  ·unfold PA
   split
   ·rename_i Z
    unfold Ou at Z;exact h.step (Bool.and_eq_true_iff.1 Z).2
   ·exact h
  ·exact h.cancel
theorem aro(c:CfM)(fold:Bool)(a:Option Addr)(la ca:Nat)(b:Option Addr)(n cb:Nat)(d:Option Addr)(m cd:Nat)(f:Option Addr)(k cf:Nat)(wss J:La)(mv:List AF)(w:World)(hA:Wds w a la wss)(hR:Wds w b n J)(hD:Sl1 bool w d m c.ans)(hM:Hts w f k mv)
  (aW:PE fold wss J m k=true) (aD:Ce c.W c.K c.R c.Q c.O c.S c.F=true) (hL:Au wss=(c.L:Int)) (al:c.L<=32) (aX:c.scan=scF fold wss c.S) :
  Calls ZP 9 #[.agg (AM fold a la ca),.agg (Ee c.W c.K c.R c.Q c.O c.S c.F),bool c.br,slice b n cb,slice d m cd,slice f k cf] w λe w'=>e=.returned (bool true)/\Bt w w':=by
 obtain⟨W,hW⟩:∃W,W=(w.alloc (.cells (AM fold a la ca) 24)).alloc (.cells (Ee c.W c.K c.R c.Q c.O c.S c.F) 26):=⟨_,rfl⟩;have hO:Bx w.heap.size [.cells (AM fold a la ca) 24,.cells (Ee c.W c.K c.R c.Q c.O c.S c.F) 26] W:=by rw[hW];exact((Bx.nil _ w).snoc _ rfl).snoc _ sm
 have Y:Bt w W:=by rw[hW];exact(AL w _).alloc (AL w _).size _
 obtain⟨S0,bL⟩:∃x,(w.alloc (.cells (AM fold a la ca) 24)).heap.size=x:=⟨_,rfl⟩;have ak:S0=w.heap.size+1:=by rw[<-bL];simp
 have HC:Hid (∀V,Bt W V->V.cell? ⟨w.heap.size,0,none⟩=some (bool fold)/\V.cell? ⟨w.heap.size,1,none⟩=some (slice a la ca)/\V.cell? ⟨w.heap.size+1,0,none⟩=some (int i64 c.W)/\V.cell? ⟨w.heap.size+1,1,none⟩=some (int i64 c.K)/\V.cell? ⟨w.heap.size+1,2,none⟩=some (int i64 c.R)/\V.cell? ⟨w.heap.size+1,3,none⟩=some (int i64 c.Q)/\V.cell? ⟨w.heap.size+1,4,none⟩=some (int i64 c.O)/\V.cell? ⟨w.heap.size+1,5,none⟩=some (int i64 c.S)/\V.cell? ⟨w.heap.size+1,6,none⟩=some (int i64 c.F)):=λV hV=>by have h:=hO.below hV;exact⟨h.cell (i:=0) rfl rfl,h.cell (i:=0) rfl rfl,h.cell (i:=1) rfl rfl,h.cell (i:=1) rfl rfl,h.cell (i:=1) rfl rfl,h.cell (i:=1) rfl rfl,h.cell (i:=1) rfl rfl,h.cell (i:=1) rfl rfl,h.cell (i:=1) rfl rfl⟩
 rw[<-ak]at HC;obtain⟨p1,p2,p4,p5,p6,p7,p8⟩:=apU aW;have p2:An fold wss=true:=by rw[NF];exact p2
 have a1:=aok aD al;obtain⟨g1,g2,g3⟩:=ako p1 fold;have ci:=hA.len;have ch:=hR.len;have bC:(AB wss).length<=400:=Hx (Fy.2 ⟨IY p2,rfl,rfl⟩);have bd:=ao2 aX bC;have bM:400*(c.K+c.wm)<=1000000:=by
  have h1:=a1.K;have h2:c.wm<=31:=by unfold CfM.wm;omega
  omega
 have bh:∀x∈J,FS x/\x.length<=120:=λx hx=>⟨λy hy=>hR.bytes x hx y hy,p8 x hx⟩;have bX:Hid (KB c (Bn c J)):=EE.toC (FC.p (FC.new (H:=400) (D:=c.K+c.wm) a1.W.1 J bh)) rfl;have bY:Hid (FC c 400 (c.K+c.wm) 120 0 (Bn c J)):=FC.new a1.W.1 J bh;have bV:Hid (∀i s,FC c 400 (c.K+c.wm) 120 i s->i<=3900->OkM c s):=λi s h hi=>h.ok a1 hi bM om bd;have cy:Hid (∀i s,FC c 400 (c.K+c.wm) 120 i s->∀x y,FC c 400 (c.K+c.wm) 120 (i+1) (PD c s x y)):=λi s h x y=>h.mov a1.K.2 bd x y;have cB:Hid (∀s,EE c s->KB c s->∀x y,KB c (PD c s x y)):=λs h1 h2 x y=>(Pg.up ⟨h1,h2⟩ x y).v;have cz:Hid (∀V,Bt W V->Hts V f k mv):=λV hV=>(hM.below Y).below hV;have k1:Hid (Calls ZP 22 #[.agg (AM fold a la ca),slice b n cb,slice d m cd,slice f k cf] W λe w'=>e=.returned (bool true)/\Bt W w'):=by
  have:=apZ fold a la ca b n cb d m cd f k cf wss J W (hA.below Y) (hR.below Y)
  rwa[aW]at this
 have k2:Hid (∀V,Calls ZP 25 #[.agg #[int i64 c.W,int i64 c.K,int i64 c.R,int i64 c.Q,int i64 c.O,int i64 c.S,int i64 c.F]] V λe w'=>e=.returned (bool true)/\Bt V w'):=λV=>by
  have:=afn c.W c.K c.R c.Q c.O c.S c.F V
  rwa[aD]at this
 have k3:Hid (∀V,Bt W V->Calls ZP 24 #[.agg #[bool fold,slice a la ca],.agg #[int i64 c.W,int i64 c.K,int i64 c.R,int i64 c.Q,int i64 c.O,int i64 c.S,int i64 c.F],bool c.br,slice b n cb,slice d m cd] V λe w'=>∃A o,e=.returned (pointer (some ⟨A.P,0,none⟩))/\AI A c o (Bn c J) w'/\Bt V w'/\∀k,k<V.heap.size->o k=1000000):=λV hV=>
  apT c fold a la ca b n cb d m cd wss J V ((hA.below Y).below hV) ((hR.below Y).below hV).rds ((hD.below Y).below hV) p2 om (λx hx=>by have:=g2 x hx;omega) om hL al aX a1 aD om (λx hx=>by have:=p8 x hx;omega) om
 have a8:=AA a1;have HB:=AA Y;have cN:k<=300:=p7;obtain⟨q0,q1,q2,q3,q4,q5,q6,q7,q8⟩:=HC.out W (AH _ _);clear hA hR hD hM aW aD hL al aX hO Y ak p1 p2 p4 p5 p6 p7 p8 a1 g1 g2 g3 ci ch bC bd bM bh;go_enter func9,ntmps9;go_upto_region 1 with fail
 rw[<-hW];clear hW bL
 go_wp2_with fail
 refine k1.out.mono ?_;rintro e w1 ⟨rfl,I⟩;have X1:=AA I;clear q0 q1 q2 q3 q4 q5 q6 q7 q8 I k1;obtain⟨q0,q1,q2,q3,q4,q5,q6,q7,q8⟩:=HC.out w1 X1.out
 go_wp2_with fail
 refine(k2.out _).mono ?_;rintro e w2 ⟨rfl,aj⟩;have X2:=AA (X1.out.trans (aj.mono X1.out.size));clear q0 q1 q2 q3 q4 q5 q6 q7 q8 aj k2;obtain⟨q0,q1,q2,q3,q4,q5,q6,q7,q8⟩:=HC.out w2 X2.out
 go_wp2_with fail
 refine(k3.out _ X2.out).mono ?_;rintro e u1 ⟨A,o,rfl,hp,hb,hz⟩;have Y1:=AA (X2.out.trans (hb.mono X2.out.size));have bS:Hid (One A c (λj=>j<W.heap.size) (Bn c J) u1):=One.mk hp Y1.out.size λk hk=>hz k (Af hk X2.out.size);clear hp hb hz k3 q0 q1 q2 q3 q4 q5 q6 q7 q8;go_upto_region 7 with fail
 go_loopw[14] (λaO wr=>∃(i:Nat)(s:PlM),i<=k/\aO=int i64 i/\Hid (FC c 400 (c.K+c.wm) 120 i s)/\Hid (KB c s)/\Hid (One A c (λj=>j<W.heap.size) s wr)/\Hid (Bt W wr)) (λaO _=>k-(intOf aO).toNat)
 case atStart=>exact⟨0,_,AR _,rfl,bY,bX,bS,Y1⟩
 case round=>
  clear bY bX bS Y1 X1 X2;obtain⟨i,s,cP,rfl,HI,HV,HT,HL⟩:=hrel
  by_cases ck:i<k
  ·have hd:decide ((i:Int)<(k:Int))=true:=by simp;omega
   have cQ:decide (i<k)=true:=by simp;omega
   obtain⟨g,of,x,y,hx⟩:∃g of x y,f=some ⟨g,of,none⟩/\wr.cell? ⟨g,of+i*2,none⟩=some (int i64 x)/\wr.cell? ⟨g,of+i*2+1,none⟩=some (int i64 y):=by obtain⟨g,of,x,h1,h2,h3,h4,h5⟩:=(cz.out wr HL.out).at_ ck;exact⟨g,of,_,_,h1,by first|exact h4|exact h3|exact h2,by first|exact h5|exact h4⟩
   obtain⟨rfl,cc,c9⟩:=hx;have i1:(0:Int)<=(i:Int):=by omega
   have i2:(i:Int)<(k:Int):=by omega
   have ok:=bV.out i s HI.out om;have HM:=AA (HT.out.moves a8.out ok x y);have C:=AA (cy.out i s HI.out x y);have a7:=AA (cB.out s HI.out.p HV.out x y);clear HT HI HV ok
   go_wp2_with fail
   refine HM.out.mono ?_;rintro e u2 ⟨rfl,ht,hb⟩;have bk:=AA ht;have bp:Hid (Bt W u2):=HL.out.trans (hb.belF HL.out.size);clear HM ht hb cc c9 HL;obtain⟨s',bx⟩:∃s',PD c s x y=s':=⟨_,rfl⟩;rw[bx]at C a7 bk;clear bx;have aP:=bV.out (i+1) s' C.out om;have HW:=AA (bk.out.view a8.out aP C.out.p);clear bk
   go_wp2_with fail
   refine HW.out.mono ?_;rintro e u3 ⟨⟨v0,v3,v4,v6,rfl,hv⟩,ht,hb⟩;have bR:=AA ht;have bo:=AA (bp.out.trans (hb.mono bp.out.size));obtain⟨r0,r3,r4,r6,co,l3,l4,l6,l0⟩:=hv;obtain⟨a0,c0,rfl,m0,s0⟩:=Co r0;obtain⟨a3,c3,rfl,m3,s3⟩:=SlK.own r3;obtain⟨a4,c4,rfl,m4,s4⟩:=SlK.own r4;obtain⟨a6,c6,rfl,m6,s6⟩:=Co r6;have H0:=AA s0;have H3:=AA s3;have H4:=AA s4;have ae:Hid ((Br c s').q.length<=1000000/\(Br c s').rg.length<=1000000/\(Br c s').live.length<=1000000/\(Br c s').ph.length<=1000000):=⟨l3,l4,l6,l0⟩;clear HW ht hb r0 r3 r4 r6 s0 s3 s4 s6 co l3 l4 l6 l0 m0 m3 m4 m6 bp;have HA:Hid ((Br c s').q++(Br c s').rg=(Pf s').map λx:Nat=>(x:Int)):=arv C.out.p;have HH:Hid (s'.q.length+Pe c s' (c.W+3)=(Oy s'.us s'.us.length).length):=aru C.out.p;have F1:(Br c s').live.length+s'.fr.length=c.R:=C.out.p.live;have F2:(Br c s').q.length<=c.Q:=by have:=C.out.p.a.f.ql;simpa[Br]using this
   have F3:s'.out.length<=c.O:=C.out.p.a.f.ol;have F4:(Br c s').ph.length=c.W+3:=aqN _ _ _;have F5:s'.next<=s'.number/\s'.number-s'.next<=c.R:=a7.out.le;have F6:s'.number<=1000000000:=aP.num;have F7:s'.rd.ph=1->s'.number<s'.next+c.R->s'.fr≠[]:=a7.out.fre;have aH:=AA (λx (hx:x∈Pf s')=>ary a7.out hx);have bm:=AA (λi j x (hi:(Pf s')[i]?=some x) (hj:(Pf s')[j]?=some x)=>arx a7.out hi hj);clear aP;obtain⟨X,hX⟩:∃X,Br c s'=X:=⟨_,rfl⟩;rw[hX]at H0 H3 H4 ae HA F1 F2 F4;rw[hX];obtain⟨xs,xn,xu,q,rg,ou,lv,fr,sh,en,ca,re⟩:=X;unfold Br at hX
   injection hX with h0 h1 h2 h3 h4 h5 h6 h7 h8 h9 h10 h11
   subst h1 h2 h5 h7 h9 h10 h11;obtain⟨nx,ai⟩:∃n,s'.next=n:=⟨_,rfl⟩;obtain⟨nu,ad⟩:∃n,s'.number=n:=⟨_,rfl⟩;obtain⟨ou,bb⟩:∃n,s'.out.length=n:=⟨_,rfl⟩;obtain⟨fr,aC⟩:∃n,s'.fr.length=n:=⟨_,rfl⟩;rw[ai,ad]at F5;rw[ad]at F6;rw[ai,ad]at F7;rw[bb]at F3;rw[aC]at F1;rw[ai,ad]at aH;rw[ai,ad,bb,aC];dsimp only at H0 H3 H4 ae HA F1 F2 F4;have F8:s'.rd.ph=1->nu<nx+c.R->fr≠0:=λa b e=>F7 a b (Bz (aC.trans e));have bU:Hid (xs=phF c s' (c.W+3)):=h0.symm;have bW:Hid (s'.q.length=q.length/\(Oy s'.us s'.us.length).length=lv.length):=⟨by rw[<-h3];simp,by rw[<-h6]⟩;clear ai ad bb aC F7 h0 h3 h4 h6 h8;obtain⟨P,hP⟩:∃P,c.W+3=P:=⟨_,rfl⟩;rw[F4,hP]at H0;rw[hP]at F4;rw[F4];go_upto_region 11 with fail
   obtain⟨CS,bj⟩:∃CS:Array Value,CS=#[slice a0 P c0,int i64 (nx:Nat),int i64 (nu:Nat),slice a3 q.length c3,slice a4 rg.length c4,int i64 (ou:Nat),slice a6 lv.length c6,int i64 (fr:Nat),bool sh,bool s'.ended,bool s'.cancelled,int i64 s'.read]:=⟨_,rfl⟩;rw[<-bj];obtain⟨B,az⟩:∃X,X=u3.alloc (.cells CS 63):=⟨_,rfl⟩;obtain⟨g0,bg⟩:∃g,u3.heap.size=g:=⟨_,rfl⟩;have Y:Bt u3 B:=by rw[az];exact AL _ _
   have bf:B.heap[g0]?=some (.cells CS 63 (0,0)):=by rw[az,<-bg];exact AT _ _
   have bF:=(AD.1 bf).1;rw[<-az,bg];have ac:Hid (∀V,Bt B V->V.cell? ⟨g0,0,none⟩=some (slice a0 P c0)/\V.cell? ⟨g0,1,none⟩=some (int i64 (nx:Nat))/\V.cell? ⟨g0,2,none⟩=some (int i64 (nu:Nat))/\V.cell? ⟨g0,3,none⟩=some (slice a3 q.length c3)/\V.cell? ⟨g0,4,none⟩=some (slice a4 rg.length c4)/\V.cell? ⟨g0,5,none⟩=some (int i64 (ou:Nat))/\V.cell? ⟨g0,6,none⟩=some (slice a6 lv.length c6)/\V.cell? ⟨g0,7,none⟩=some (int i64 (fr:Nat))):=λV hV=>by have h:V.heap[g0]?=_:=(hV.block _ bF).trans bf;subst bj;exact⟨by simp[cell?,h],by simp[cell?,h],by simp[cell?,h],by simp[cell?,h],by simp[cell?,h],by simp[cell?,h],by simp[cell?,h],by simp[cell?,h]⟩
   have cw:=AA (bR.out.same Y);have aa:=AA (bo.out.trans (Y.mono bo.out.size));have bQ:=AA (H0.out.below Y);have bP:=AA (H3.out.below Y);have bO:=AA (H4.out.below Y);clear bj az bg Y bf bF bR bo H0 H3 H4;obtain⟨b1,b2,b3,b4,b5,b6,b7,b8⟩:(c.W<=8/\c.R<=16/\c.Q<=16/\c.O<=16)/\q.length<=1000000/\rg.length<=1000000/\lv.length<=1000000/\xs.length<=1000000/\nx<=1000000000/\fr<=1000/\ou<=1000:=⟨⟨a8.out.W.2,a8.out.R.2,a8.out.Q.2,a8.out.O.2⟩,ae.out.1,ae.out.2.1,ae.out.2.2.1,ae.out.2.2.2,by omega,by have:=a8.out.R;omega,by have:=a8.out.O;omega⟩;obtain⟨b1,b9,cV,cU⟩:=b1;have e1:((lv.length:Int)+(fr:Int) != (c.R:Int))=false:=by simp;omega
   have e2:decide ((q.length:Int) > (c.Q:Int))=false:=by simp;omega
   have cv:decide (c.Q<q.length)=false:=by simp;omega
   have e3:decide ((ou:Int) > (c.O:Int))=false:=by simp;omega
   have cu:decide (c.O<ou)=false:=by simp;omega
   have e4:((P:Int) != (c.W:Int)+3)=false:=by simp;omega
   have e5:decide ((nu:Int)<(nx:Int))=false:=by simp;omega
   have ct:decide (nu<nx)=false:=by simp;omega
   have e6:decide ((nu:Int) > (nx:Int)+(c.R:Int))=false:=by simp;omega
   have cr:decide ((nx:Int)+(c.R:Int)<(nu:Int))=false:=by simp;omega
   obtain⟨q0,q1,q2,q3,q4,q5,q6,q7,q8⟩:=HC.out B aa.out;obtain⟨ay,ax,aw,av,au,ar,aq,ap⟩:=ac.out B (AH _ _);go_upto_region 13 with fail
   clear e1 e2 cv e3 cu e4 e5 ct e6 cr q0 q1 q2 q3 q4 q5 q6 q7 q8 ay ax aw av au ar aq ap;obtain⟨D,hD⟩:∃D,D=B.drew:=⟨_,rfl⟩;have aE:Bt B D:=by rw[hD];exact AN B 1
   have HD:=AA aE;have bZ:=AA (bP.out.below aE);have bq:=AA (bO.out.below aE);clear aE;refine Vb ?_;refine Va (S:=Bt B) kr (by rw[<-hD];exact HD.out) (λhHeld=>?_);rw[<-hD];clear hD hHeld;refine tkB 1 ac.out ?_;refine tkB 2 ac.out ?_;refine tkB 4 ac.out ?_;refine tkB 5 ac.out ?_;obtain⟨i0,hi,aS,aR,aQ⟩:=Ve JS;have ah:D.alloc (.cells #[] 3) |>.ownsRow D.heap.size 3 1 (slice (some ⟨D.heap.size,0,none⟩) 0 0) 0 []:=⟨rfl,.inr ⟨D.heap.size,0,#[],rfl,AC _,AT D _,AR _,AR _,rfl,by simp⟩⟩;have bw:=bZ.out.below (AL D (.cells #[] 3));have cg:=bq.out.below (AL D (.cells #[] 3));have aV:D.heap.size<=(D.alloc (.cells #[] 3)).heap.size:=by simp
   have ak:Bt B (D.alloc (.cells #[] 3)):=HD.out.alloc HD.out.size _;refine rdy 0 (λK hK=>?_);go_simp;refine hK.out _ _ ak (λh_=>?_);clear hK K h_
   try simp only[pq]
   refine rdy 3 (λK hK=>?_);refine Mi kr ?_;refine NT _ _ _ 30 rfl D.heap.size 3 i0 (.int .i64 0) 1 8 underlying30 hi aS aR aQ rfl (by decide) _ 0 _ rfl ah a3 q.length c3 _ rfl bw (by simp[Value.oneCell']) (by unfold maxLen;omega) om aV ?_;intro va Wa be bH bJ;have I:Bt D Wa:=(AL D (.cells #[] 3)).grown bH aV (λk hk=>(ah.lt k hk).1);have bu:=bq.out.below I;have bK:Bt B Wa:=HD.out.trans (I.mono HD.out.size);refine hK.out _ _ bK (λh_=>?_);clear hK K h_ bw cg bJ bH
   try simp only[pq]
   refine rdy 6 (λK hK=>?_);refine Mi kr ?_;refine NT _ _ _ 30 rfl D.heap.size 3 i0 (.int .i64 0) 1 8 underlying30 hi aS aR aQ rfl (by decide) _ (0+q.length) _ rfl be a4 rg.length c4 _ rfl bu (by simp[Value.oneCell']) (by unfold maxLen;omega) om I.size ?_;intro vb Wb bB bG bI;have aj:Bt D Wb:=I.grown bG I.size (λk hk=>(be.lt k hk).1);have bi:Bt B Wb:=HD.out.trans (aj.mono HD.out.size);refine hK.out _ _ bi (λh_=>?_);clear hK K h_ bG bI bu bK be I
   try simp only[pq]
   refine tkA 7 ?_;refine Vd kr ?_ _;refine At ?_;obtain⟨L,hL⟩:∃L,Pf s'=L:=⟨_,rfl⟩;rw[hL]at HA aH bm;have aI:Wb.ownsRow D.heap.size 3 1 vb L.length (L.map λx:Nat=>int i64 (x:Int)):=by
    have e1:(L.map λx:Nat=>int i64 (x:Int))=([]++q.map (int i64))++rg.map (int i64):=by rw[Av,<-Aj,HA.out,List.map_map];rfl
    have e2:L.length=0+q.length+rg.length:=by have:=congrArg List.length HA.out;simp at this;omega
    rw[e1,e2];exact bB
   obtain⟨aL,cL,rfl,_,bv⟩:=Co (enc:=λx:Nat=>int i64 (x:Int)) aI;have aF:=AA bv;have c7:=AA bi;have HN:L.length<=2000000:=by have:=congrArg List.length HA.out;simp at this;omega
   clear hL bB aI bv bi aj aV ak ah hi aS aR aQ HD bZ bq bP bO HA;obtain⟨N,hN⟩:∃N,L.length=N:=⟨_,rfl⟩;rw[hN]at aF HN;rw[hN];have am:=AA hN;clear hN;go_upto_region 15 with fail
   go_loopw[17] (λaN wr=>∃j:Nat,j<=N/\aN=int i64 j/\Hid (Bt Wb wr)) (λaN _=>N-(intOf aN).toNat)
   case atStart=>exact⟨0,AR _,rfl,.refl _ _⟩
   case round=>
    obtain⟨j,hj,rfl,HR⟩:=hrel;have bl:=AA (c7.out.trans (HR.out.mono c7.out.size));obtain⟨ay,ax,aw,av,au,ar,aq,ap⟩:=ac.out wr bl.out;obtain⟨q0,q1,q2,q3,q4,q5,q6,q7,q8⟩:=HC.out wr (aa.out.trans (bl.out.mono aa.out.size))
    by_cases cO:j<N
    ·as_aux_lemma=>
      have cn:decide ((j:Int)<(N:Int))=true:=by simp;omega
      have cE:decide (j<N)=true:=by simp;omega
      obtain⟨ab,ao,z,rfl,hz,bs,bt⟩:∃ab ao z,aL=some ⟨ab,ao,none⟩/\wr.cell? ⟨ab,ao+j,none⟩=some (int i64 (z:Nat))/\z∈L/\L[j]?=some z:=by obtain⟨h1,h2⟩:=aF.out.below HR.out;obtain⟨b,off,e,aB,hc⟩:=h2.resolve_left om;have hl:=am.out;have hg:L[j]?=some (L[j]'om):=Ar om;exact⟨b,off,_,e,hc j _ hg,AX hg,hg⟩
      obtain⟨z1,z2⟩:=aH.out z bs;have j1:(0:Int)<=(j:Int):=by omega
      have j2:(j:Int)<(N:Int):=by omega
      have f1:decide ((z:Int)<(nx:Int))=false:=by simp;omega
      have bN:decide (z<nx)=false:=by simp;omega
      have f2:decide ((nx:Int)+(c.R:Int)<=(z:Int))=false:=by simp;omega
      have f3:decide ((nu:Int)<=(z:Int))=false:=by simp;omega
      have cq:decide (nu<=z)=false:=by simp;omega
      have HZ:=AA bt;clear bs bt;go_upto_region 17 with fail
      go_quiet (fail)
      clear f1 bN f2 f3 cq q0 q1 q2 q3 q4 q5 q6 q7 q8 ay ax aw av au ar aq ap;have HQ:Hid (Bt Wb (wr.drewN nq)):=HR.out.trans ((AN wr nq).mono HR.out.size);go_upto_region 20 with fail
      go_loopw[18] (λaM wq=>∃l:Nat,l<=j/\aM=int i64 l/\Hid (Bt Wb wq)) (λaM _=>j-(intOf aM).toNat)
      case atStart=>exact⟨0,AR _,rfl,HQ⟩
      case round=>
       obtain⟨l,hl,rfl,aG⟩:=hrel
       by_cases cK:l<j
       ·have cm:decide ((l:Int)<(j:Int))=true:=by simp;omega
        have cD:decide (l<j)=true:=by simp;omega
        obtain⟨y,hy,cI,cJ⟩:∃y:Nat,wr.cell? ⟨ab,ao+l,none⟩=some (int i64 (y:Nat))/\wr.cell? ⟨ab,ao+j,none⟩=some (int i64 (z:Nat))/\y≠z:=by
         obtain⟨h1,h2⟩:=aF.out.below aG.out;obtain⟨b,off,e,aB,hc⟩:=h2.resolve_left om;obtain⟨rfl,rfl,_⟩:=by simpa using e
         have hl:=am.out;have hg:L[l]?=some (L[l]'om):=Ar om;refine⟨_,hc l _ hg,hc j _ HZ.out,λe=>?_⟩;have:=bm.out l j z (by rw[hg,e]) HZ.out;omega
        have l1:(0:Int)<=(l:Int):=by omega
        have l2:(l:Int)<(N:Int):=by omega
        have f1:((y:Int)==(z:Int))=false:=by simp;omega
        have bN:decide ((y:Int)=(z:Int))=false:=by simp;omega
        have cF:decide (y=z)=false:=by simp;omega
        go_upto_region 22 with fail
        go_quiet (fail)
        have cx:Hid (Bt Wb (wr.drewN nq)):=aG.out.trans ((AN wr nq).mono aG.out.size)
        go_wp2_with fail
        go_roundw
        case rel=>exact⟨l+1,by omega,by go_num,cx⟩
        case measure=>simp[intOf];omega
       ·obtain rfl:l=j:=by omega
        have cm:decide ((l:Int)<(l:Int))=false:=by simp
        go_wp2_with fail
        go_roundw
        case rel=>exact⟨l+1,by omega,by go_num,aG⟩
        case measure=>simp[intOf];omega
    ·obtain rfl:j=N:=by omega
     have cn:decide ((j:Int)<(j:Int))=false:=by simp
     clear aF bm aH am q0 q1 q2 q3 q4 q5 q6 q7 q8;have bT:Hid (∀V,Bt B V->∀t,t<P->∃pb po,a0=some ⟨pb,po,none⟩/\V.cell? ⟨pb,po+t,none⟩=some (.int .u8 (phT c s' t:Nat))):=λV hV t ht=>by obtain⟨h1,h2⟩:=bQ.out.below hV;obtain⟨b,off,e,aB,hc⟩:=h2.resolve_left om;exact⟨b,off,e,hc t _ (by rw[bU.out];exact arz om)⟩
     have cA:Hid (q.length+Pe c s' P=lv.length):=by have h1:=HH.out;have h2:=bW.out;rw[hP]at h1;rw[Hid,<-h2.1,<-h2.2];exact h1
     clear bQ bU HH bW;go_upto_region 26 with fail
     go_loopw[19,20] (λc8 aK wr=>∃t:Nat,t<=P/\c8=int i64 ((q.length+Pe c s' t:Nat):Int)/\aK=int i64 t/\Hid (Bt B wr)) (λ_ aK _=>P-(intOf aK).toNat)
     case atStart=>exact⟨0,AR _,rfl,rfl,bl⟩
     case round=>
      obtain⟨t,ht,rfl,rfl,U⟩:=hrel;obtain⟨ay,ax,aw,av,au,ar,aq,ap⟩:=ac.out wr U.out;obtain⟨q0,q1,q2,q3,q4,q5,q6,q7,q8⟩:=HC.out wr (aa.out.trans (U.out.mono aa.out.size));have cM:=arr c s' t
      by_cases ce:t<P
      ·as_aux_lemma=>
        have cl:decide ((t:Int)<(P:Int))=true:=by simp;omega
        have cC:decide (t<P)=true:=by simp;omega
        obtain⟨pb,po,rfl,a2⟩:=bT.out wr U.out t ce;have t1:(0:Int)<=(t:Int):=by omega
        have t2:(t:Int)<(P:Int):=by omega
        have Z:Hid (q.length+Pe c s' (t+1)=q.length+Pe c s' t+(if t<=c.W/\(phT c s' t=2∨phT c s' t=3) then 1 else 0)):=by rw[Hid,Pe.eq_2];omega
        obtain⟨hc,bE⟩:∃h,q.length+Pe c s' t=h:=⟨_,rfl⟩;rw[bE]at Z⊢;have cR:hc<=1000100:=by have:=b1;omega
        obtain⟨ph,ag⟩:∃ph,phT c s' t=ph:=⟨_,rfl⟩;rw[ag]at a2 Z;clear bE ag;obtain⟨pz,aA⟩:∃pz:Int,(ph:Int)=pz:=⟨_,rfl⟩;rw[aA]at a2;have aY:((ph=2∨ph=3)/\pz=2)∨((ph=2∨ph=3)/\pz=3)∨(¬(ph=2∨ph=3)/\pz≠2/\pz≠3):=by omega
        clear aA
        by_cases aU:t=0
        ·subst aU;rw[DQ]at a2
         rcases aY with⟨h1,rfl⟩|⟨h1,rfl⟩|⟨h1,b0,aZ⟩
         ·rw[Lc ⟨AR _,h1⟩]at Z
          go_wp2_with fail
          go_roundw
          case rel=>exact⟨0+1,by omega,by rw[Z.out];go_num,by go_num,U⟩
          case measure=>simp[intOf];omega
         ·rw[Lc ⟨AR _,h1⟩]at Z
          go_wp2_with fail
          go_roundw
          case rel=>exact⟨0+1,by omega,by rw[Z.out];go_num,by go_num,U⟩
          case measure=>simp[intOf];omega
         ·rw[Lb (λe=>h1 e.2)]at Z;have p2:(pz==2)=false:=by simp[b0]
          have p3:(pz==3)=false:=by simp[aZ]
          go_wp2_with fail
          go_roundw
          case rel=>exact⟨0+1,by omega,by rw[Z.out];go_num,by go_num,U⟩
          case measure=>simp[intOf];omega
        ·have g0:((t:Int)==0)=false:=by simp[aU]
         have cT:decide (t=0)=false:=by simp[aU]
         have g1:decide ((0:Int)<(t:Int))=true:=by simp;omega
         have cS:decide (0<t)=true:=by simp;omega
         by_cases aT:t<=c.W
         ·have g2:decide ((t:Int)<=(c.W:Int))=true:=by simp;omega
          have cp:decide (t<=c.W)=true:=by simp;omega
          rcases aY with⟨h1,rfl⟩|⟨h1,rfl⟩|⟨h1,b0,aZ⟩
          ·rw[Lc ⟨aT,h1⟩]at Z
           go_wp2_with fail
           go_roundw
           case rel=>exact⟨t+1,by omega,by rw[Z.out];go_num,by go_num,U⟩
           case measure=>simp[intOf];omega
          ·rw[Lc ⟨aT,h1⟩]at Z
           go_wp2_with fail
           go_roundw
           case rel=>exact⟨t+1,by omega,by rw[Z.out];go_num,by go_num,U⟩
           case measure=>simp[intOf];omega
          ·rw[Lb (λe=>h1 e.2)]at Z;have p2:(pz==2)=false:=by simp[b0]
           have p3:(pz==3)=false:=by simp[aZ]
           go_wp2_with fail
           go_roundw
           case rel=>exact⟨t+1,by omega,by rw[Z.out];go_num,by go_num,U⟩
           case measure=>simp[intOf];omega
         ·have g2:decide ((t:Int)<=(c.W:Int))=false:=by simp;omega
          have cp:decide (t<=c.W)=false:=by simp;omega
          rw[Lb (λe=>aT e.1)]at Z;clear aY
          go_wp2_with fail
          go_roundw
          case rel=>exact⟨t+1,by omega,by rw[Z.out];go_num,by go_num,U⟩
          case measure=>simp[intOf];omega
      ·as_aux_lemma=>
        obtain rfl:t=P:=by omega
        have cl:decide ((t:Int)<(t:Int))=false:=by simp
        have af:Hid (One A c (λj=>j<W.heap.size) s' wr/\Bt W wr):=⟨cw.out.same U.out,aa.out.trans (U.out.mono aa.out.size)⟩;have hh:=cA.out;obtain⟨cj,bD⟩:∃h,q.length+Pe c s' t=h:=⟨_,rfl⟩;rw[bD]at hh⊢;obtain rfl:cj=lv.length:=hh;clear bD;have w1:((lv.length:Int) != (lv.length:Int))=false:=by simp
        obtain⟨pb,po,rfl,a2⟩:=bT.out wr U.out 0 om;have bA:phT c s' 0=s'.rd.ph:=rfl;rw[bA]at a2;rw[DQ]at a2;obtain⟨ph,ag⟩:∃ph,s'.rd.ph=ph:=⟨_,rfl⟩;rw[ag]at a2 F8;clear ag bA;obtain⟨pz,aA⟩:∃pz:Int,(ph:Int)=pz:=⟨_,rfl⟩;rw[aA]at a2;have cH:(0:Int)<(t:Int):=by omega
        by_cases bz:pz=1
        ·subst bz
         by_cases aB:nu<nx+c.R
         ·have aJ:fr≠0:=F8 om aB;have m1:decide ((nu:Int)<(nx:Int)+(c.R:Int))=true:=by simp;omega
          have m2:((fr:Int)==0)=false:=by simp[aJ]
          have cG:decide (fr=0)=false:=by simp[aJ]
          go_wp2_with fail
          go_roundw
          case rel=>exact⟨i+1,s',by omega,by go_num,C,a7,AA af.out.1,AA af.out.2⟩
          case measure=>simp[intOf];omega
         ·have m1:decide ((nu:Int)<(nx:Int)+(c.R:Int))=false:=by simp;omega
          go_wp2_with fail
          go_roundw
          case rel=>exact⟨i+1,s',by omega,by go_num,C,a7,AA af.out.1,AA af.out.2⟩
          case measure=>simp[intOf];omega
        ·have m1:(pz==1)=false:=by simp[bz]
         go_wp2_with fail
         go_roundw
         case rel=>exact⟨i+1,s',by omega,by go_num,C,a7,AA af.out.1,AA af.out.2⟩
         case measure=>simp[intOf];omega
  ·obtain rfl:i=k:=by omega
   have hd:decide ((i:Int)<(i:Int))=false:=by simp
   go_wp2_with fail
   refine(PV _).mono ?_;rintro e u1 ⟨rfl,I⟩
   go_wp2_with fail
   go_ret;exact⟨rfl,HB.out.trans ((HL.out.trans (I.mono HL.out.size)).mono HB.out.size)⟩
theorem aqf{fold:Bool}{wss Z:La}{wk bl rg X V Y fr:Int}{m k:Nat}(br:Bool)(ans:List Bool)(h:PE fold wss Z m k=true)(J:Ce wk bl rg X V Y fr=true):∃c:CfM,wk=c.W/\bl=c.K/\rg=c.R/\X=c.Q/\V=c.O/\Y=c.S/\fr=c.F/\c.br=br/\c.ans=ans/\Au wss=(c.L:Int)/\c.L<=32/\c.scan=scF fold wss c.S:=by obtain⟨_,p2,_⟩:=apU h;obtain⟨W,K,R,Q,O,S,F,h1,h2,h3,h4,h5,h6,h7⟩:=amg J;obtain⟨M,N,H,I,U⟩:=aiO (by rw[NF];exact p2);exact⟨⟨W,K,R,Q,O,S,F,M,scF fold wss S,br,ans⟩,h1,h2,h3,h4,h5,h6,h7,rfl,rfl,N,U,rfl⟩
theorem arm(fold:Bool)(a:Option Addr)(D A:Nat)(wk bl rg N J X fr:Int)(br:Bool)(b:Option Addr)(n cb:Nat)(d:Option Addr)(m cd:Nat)(f:Option Addr)(k cf:Nat)(wss U:La)(w:World)(hA:Wds w a D wss)(hR:Wds w b n U)
  (Z:PE fold wss U m k=false∨Ce wk bl rg N J X fr=false) :
  Calls ZP 9 #[.agg (AM fold a D A),.agg (Ee wk bl rg N J X fr),bool br,slice b n cb,slice d m cd,slice f k cf] w λe w'=>e=.returned (bool true)/\Bt w w':=by
 obtain⟨W,hW⟩:∃W,W=(w.alloc (.cells (AM fold a D A) 24)).alloc (.cells (Ee wk bl rg N J X fr) 26):=⟨_,rfl⟩;have hO:Bx w.heap.size [.cells (AM fold a D A) 24,.cells (Ee wk bl rg N J X fr) 26] W:=by rw[hW];exact((Bx.nil _ w).snoc _ rfl).snoc _ sm
 have H:Bt w W:=by rw[hW];exact(AL w _).alloc (AL w _).size _
 obtain⟨S0,C⟩:∃x,(w.alloc (.cells (AM fold a D A) 24)).heap.size=x:=⟨_,rfl⟩;have y:S0=w.heap.size+1:=by rw[<-C];simp
 have HC:Hid (∀V,Bt W V->V.cell? ⟨w.heap.size,0,none⟩=some (bool fold)/\V.cell? ⟨w.heap.size,1,none⟩=some (slice a D A)/\V.cell? ⟨w.heap.size+1,0,none⟩=some (int i64 wk)/\V.cell? ⟨w.heap.size+1,1,none⟩=some (int i64 bl)/\V.cell? ⟨w.heap.size+1,2,none⟩=some (int i64 rg)/\V.cell? ⟨w.heap.size+1,3,none⟩=some (int i64 N)/\V.cell? ⟨w.heap.size+1,4,none⟩=some (int i64 J)/\V.cell? ⟨w.heap.size+1,5,none⟩=some (int i64 X)/\V.cell? ⟨w.heap.size+1,6,none⟩=some (int i64 fr)):=λV hV=>by have h:=hO.below hV;exact⟨h.cell (i:=0) rfl rfl,h.cell (i:=0) rfl rfl,h.cell (i:=1) rfl rfl,h.cell (i:=1) rfl rfl,h.cell (i:=1) rfl rfl,h.cell (i:=1) rfl rfl,h.cell (i:=1) rfl rfl,h.cell (i:=1) rfl rfl,h.cell (i:=1) rfl rfl⟩
 rw[<-y]at HC;have z:=AA (apZ fold a D A b n cb d m cd f k cf wss U W (hA.below H) (hR.below H));have k2:Hid (∀V,Calls ZP 25 #[.agg #[int i64 wk,int i64 bl,int i64 rg,int i64 N,int i64 J,int i64 X,int i64 fr]] V λe w'=>e=.returned (bool (Ce wk bl rg N J X fr))/\Bt V w'):=λV=>afn wk bl rg N J X fr V;obtain⟨S,hS⟩:∃S,PE fold wss U m k=S:=⟨_,rfl⟩;rw[hS]at z Z;have HB:=AA H;obtain⟨q0,q1,q2,q3,q4,q5,q6,q7,j⟩:=HC.out W (AH _ _);clear hA hR hO H hS y
 cases S with
 |false=>
  go_enter func9,ntmps9;go_upto_region 1 with fail
  rw[<-hW];clear hW C
  go_wp2_with fail
  refine z.out.mono ?_;rintro e s ⟨rfl,Y⟩;have B:=AA (HB.out.trans (Y.mono HB.out.size));clear q0 q1 q2 q3 q4 q5 q6 q7 j Y z
  go_wp2_with fail
  refine(PV s).mono ?_;rintro e w2 ⟨rfl,I⟩;go_wp2;go_ret;exact⟨rfl,B.out.trans (I.mono B.out.size)⟩
 |true=>
  have hc:Ce wk bl rg N J X fr=false:=by
   rcases Z with h|h
   ·cases h
   ·exact h
  rw[hc]at k2;clear hc Z;go_enter func9,ntmps9;go_upto_region 1 with fail
  rw[<-hW];clear hW C
  go_wp2_with fail
  refine z.out.mono ?_;rintro e s ⟨rfl,Y⟩;have B:=AA Y;clear q0 q1 q2 q3 q4 q5 q6 q7 j Y z;obtain⟨q0,q1,q2,q3,q4,q5,q6,q7,j⟩:=HC.out s B.out
  go_wp2_with fail
  refine(k2.out s).mono ?_;rintro e w2 ⟨rfl,I⟩;have X2:=AA (HB.out.trans ((B.out.trans (I.mono B.out.size)).mono HB.out.size));clear q0 q1 q2 q3 q4 q5 q6 q7 j I k2 B
  go_wp2_with fail
  refine(PV w2).mono ?_;rintro e w3 ⟨rfl,a1⟩;go_wp2;go_ret;exact⟨rfl,X2.out.trans (a1.mono X2.out.size)⟩
theorem arn(fold:Bool)(a:Option Addr)(Y H:Nat)(wk bl rg V U X fr:Int)(br:Bool)(b:Option Addr)(n I:Nat)(d:Option Addr)(m J:Nat)(f:Option Addr)(k N:Nat)(wss Z:La)(ans:List Bool)(z:List AF)(w:World)(A:Wds w a Y wss)(B:Wds w b n Z)(h:Sl1 bool w d m ans)(j:Hts w f k z) :Calls ZP 9 #[.agg (AM fold a Y H),.agg (Ee wk bl rg V U X fr),bool br,slice b n I,slice d m J,slice f k N] w λe w'=>e=.returned (bool true)/\Bt w w':=by
 cases D:PE fold wss Z m k with
 |false=>exact arm fold a Y H wk bl rg V U X fr br b n I d m J f k N wss Z w A B (.inl D)
 |true=>
  cases C:Ce wk bl rg V U X fr with
  |false=>exact arm fold a Y H wk bl rg V U X fr br b n I d m J f k N wss Z w A B (.inr C)
  |true=>
   obtain⟨c,rfl,rfl,rfl,rfl,rfl,rfl,rfl,rfl,rfl,s,x,y⟩:=aqf br ans D C;exact aro c fold a Y H b n I d m J f k N wss Z z w A B h j D C s x y
end Go.Proofs.YtaamacoicojhnaaGreat
