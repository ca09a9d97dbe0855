/- Proofs over the given program, part 20. -/
import Derived.Test.YtaamacoicojhnaaGreatZV19
set_option linter.unusedVariables false
set_option linter.unusedSimpArgs false
set_option maxRecDepth 100000
set_option maxHeartbeats 16000000
open Go.Proofs.Tryz
open Go.Proofs.Tryz renaming prog→ZP
open Go.World(cell? frozen?)
open Go.Value(int slice pointer bool)
open Go.IntKind(i64)
namespace Go.Proofs.YtaamacoicojhnaaGreat
open Go.RowKit Go.Sort
theorem PW(w:World):Calls ZP 60 #[] w λe w'=>∃a,e=.returned (.agg (AM false (some a) 3 3))/\Wds w' (some a) 3 heW/\Bt w w':=by
 have kc:=aql;go_enter func60,ntmps60;go_wp2;obtain⟨H,V⟩:∃H,H=w.alloc (.cells #[bool false,slice (some ⟨w.heap.size+1+1+1+1,0,none⟩) 3 3] 24):=⟨_,rfl⟩;rw[<-V];have y:H.heap.size=w.heap.size+1:=by rw[V];simp
 have n1:H.heap[w.heap.size]?=some (.cells #[bool false,slice (some ⟨w.heap.size+1+1+1+1,0,none⟩) 3 3] 24 (0,0)):=by rw[V];exact AT _ _
 have B1:Bt w H:=by rw[V];exact AL _ _
 clear V;obtain⟨I,X⟩:∃I,I=H.alloc (.cells #[.int .u8 104,.int .u8 101] 5 (2,3)):=⟨_,rfl⟩;rw[<-X];have z:I.heap.size=w.heap.size+1+1:=by rw[X];simp[y]
 have y1:Bys I (some ⟨w.heap.size+1,0,none⟩) 2 [104,101]:=by rw[X];exact PO [104,101] sm _ _ y
 have x:Bt H I:=by rw[X];exact AL _ _
 clear X;obtain⟨J,Y⟩:∃J,J=I.alloc (.cells #[.int .u8 115,.int .u8 104,.int .u8 101] 5 (3,4)):=⟨_,rfl⟩;rw[<-Y];have z3:J.heap.size=w.heap.size+1+1+1:=by rw[Y];simp[z]
 have h:Bys J (some ⟨w.heap.size+1+1,0,none⟩) 3 [115,104,101]:=by rw[Y];exact PO [115,104,101] sm _ _ z
 have A:Bt I J:=by rw[Y];exact AL _ _
 clear Y;obtain⟨N,Z⟩:∃N,N=J.alloc (.cells #[.int .u8 104,.int .u8 101,.int .u8 114] 5 (3,4)):=⟨_,rfl⟩;rw[<-Z];have z4:N.heap.size=w.heap.size+1+1+1+1:=by rw[Z];simp[z3]
 have j:Bys N (some ⟨w.heap.size+1+1+1,0,none⟩) 3 [104,101,114]:=by rw[Z];exact PO [104,101,114] sm _ _ z3
 have B:Bt J N:=by rw[Z];exact AL _ _
 clear Z;obtain⟨C,U⟩:∃C,C=N.alloc (.cells #[slice (some ⟨w.heap.size+1,0,none⟩) 2 2,slice (some ⟨w.heap.size+1+1,0,none⟩) 3 3,slice (some ⟨w.heap.size+1+1+1,0,none⟩) 3 3] 32):=⟨_,rfl⟩;rw[<-U];have s:Sl1 (λv:Option Addr×Nat×Nat=>slice v.1 v.2.1 v.2.2) C (some ⟨w.heap.size+1+1+1+1,0,none⟩) 3 [(some ⟨w.heap.size+1,0,none⟩,2,2),(some ⟨w.heap.size+1+1,0,none⟩,3,3),(some ⟨w.heap.size+1+1+1,0,none⟩,3,3)]:=by rw[U];exact Sl1.lay (α:=Option Addr×Nat×Nat) _ N [(some ⟨w.heap.size+1,0,none⟩,2,2),(some ⟨w.heap.size+1+1,0,none⟩,3,3),(some ⟨w.heap.size+1+1+1,0,none⟩,3,3)] _ _ z4
 have D:Bt N C:=by rw[U];exact AL _ _
 clear U;have n5:C.heap[w.heap.size]?=_:=(D.block _ om).trans ((B.block _ om).trans ((A.block _ om).trans ((x.block _ om).trans n1)));refine Vf (results_cell_row rfl _ _ w.heap.size _ _ _ _ rfl n5 underlying24 rfl kr) rfl ⟨_,rfl,?_,?_⟩
 ·exact arl s (((y1.below A).below B).below D) ((h.below B).below D) (j.below D) (AC _) (AC _) (AC _)
 ·exact B1.trans ((x.trans ((A.trans ((B.trans (D.mono om)).mono om)).mono om)).mono om)
theorem aqT(w:World):Calls ZP 54 #[pointer none,.agg (Ee 0 0 0 0 0 0 0),pointer none,pointer none] w λe w'=>e=.returned (.tuple #[pointer none,int i64 2])/\Bt w w':=by have Z:=AA (AL w (.cells (Ee 0 0 0 0 0 0 0) 26));go_enter func54,ntmps54;go_wp2;go_ret2;exact⟨rfl,Z.out⟩
theorem aqp(m:Nat)(w:World):Calls ZP 54 #[pointer (some ⟨m,0,none⟩),.agg (Ee 0 0 0 0 0 0 0),pointer none,pointer none] w λe w'=>e=.returned (.tuple #[pointer none,int i64 270])/\Bt w w':=by
 obtain⟨W,hW⟩:∃W,W=w.alloc (.cells (Ee 0 0 0 0 0 0 0) 26):=⟨_,rfl⟩;have X:=AA (AL w (.cells (Ee 0 0 0 0 0 0 0) 26));rw[<-hW]at X;have Z:W.heap[w.heap.size]?=some (.cells (Ee 0 0 0 0 0 0 0) 26 (0,0)):=by rw[hW];exact AT _ _
 have A:W.cell? ⟨w.heap.size,0,none⟩=some (int i64 0):=by simp[cell?,Z]
 have B:W.cell? ⟨w.heap.size,1,none⟩=some (int i64 0):=by simp[cell?,Z]
 have C:W.cell? ⟨w.heap.size,2,none⟩=some (int i64 0):=by simp[cell?,Z]
 have D:W.cell? ⟨w.heap.size,3,none⟩=some (int i64 0):=by simp[cell?,Z]
 have H:W.cell? ⟨w.heap.size,4,none⟩=some (int i64 0):=by simp[cell?,Z]
 have I:W.cell? ⟨w.heap.size,5,none⟩=some (int i64 0):=by simp[cell?,Z]
 have J:W.cell? ⟨w.heap.size,6,none⟩=some (int i64 0):=by simp[cell?,Z]
 have U:=NG 0 0 0 0 0 0 0 W;have N:Ce 0 0 0 0 0 0 0=false:=by decide
 rw[N]at U;have V:=AA U;clear U N Z;go_enter func54,ntmps54;go_upto_region 1 with fail
 rw[<-hW];clear hW
 go_wp2_with fail
 refine V.out.mono ?_;rintro e y ⟨rfl,Y⟩;have z:=AA (X.out.trans (Y.mono X.out.size));clear Y A B C D H I J;go_wp2;go_ret2;exact⟨rfl,z.out⟩
theorem aq7(w:World):Calls ZP 29 #[pointer none] w λe w'=>e=.returned (slice none 0 0)/\Bt w w':=by have Z:=AA (AH w.heap.size w);go_enter func29,ntmps29;go_wp2;go_ret;exact⟨rfl,Z.out⟩
theorem aqu(w:World):Calls ZP 16 #[pointer none] w λe w'=>e=.returned (bool false)/\Bt w w':=by have Z:=AA (AH w.heap.size w);go_enter func16,ntmps16;go_wp2;go_ret;exact⟨rfl,Z.out⟩
theorem aqt(n:Int)(w:World):Calls ZP 17 #[pointer none,int i64 n] w λe w'=>e=.returned (.tuple #[int i64 0,bool false])/\Bt w w':=by
 have X:=AA (aq7 w);go_enter func17,ntmps17
 go_wp2_with (first|(go_at_call 29;refine X.out.mono ?_;rintro e U ⟨rfl,Z⟩;have Y:=AA Z;clear Z)|(go_at_call 43;refine(acE n none 0 0 [] _ ⟨rfl,.inl rfl⟩ om).mono ?_;rintro e V ⟨rfl,rfl⟩))
 go_ret2;exact⟨rfl,Y.out⟩
theorem PV(w:World):Calls ZP 23 #[] w λe w'=>e=.returned (bool true)/\Bt w w':=by
 have kc:=aql;have cu:=AA (AH w.heap.size w);go_enter func23,ntmps23;go_upto_region 3 with fail
 obtain⟨A1,aG⟩:∃X,X=w.alloc (.cells #[int i64 2,int i64 3,int i64 2,int i64 1,int i64 1,int i64 2,int i64 0] 26):=⟨_,rfl⟩;rw[<-aG];have z1:A1.heap.size=w.heap.size+1:=by rw[aG];simp
 have n1:A1.heap[w.heap.size]?=some (.cells #[int i64 2,int i64 3,int i64 2,int i64 1,int i64 1,int i64 2,int i64 0] 26 (0,0)):=by rw[aG];exact AT _ _
 have B1:Bt w A1:=by rw[aG];exact AL _ _
 clear aG;obtain⟨A2,aF⟩:∃X,X=A1.alloc (.cells #[.int .u8 117,.int .u8 115,.int .u8 104] 5 (3,4)):=⟨_,rfl⟩;rw[<-aF];have z2:A2.heap.size=w.heap.size+1+1:=by rw[aF];simp[z1]
 have y1:Bys A2 (some ⟨w.heap.size+1,0,none⟩) 3 [117,115,104]:=by rw[aF];exact PO [117,115,104] sm _ _ z1
 have B2:Bt A1 A2:=by rw[aF];exact AL _ _
 clear aF;obtain⟨A3,aE⟩:∃X,X=A2.alloc (.cells #[.int .u8 101,.int .u8 114,.int .u8 115] 5 (3,4)):=⟨_,rfl⟩;rw[<-aE];have z3:A3.heap.size=w.heap.size+1+1+1:=by rw[aE];simp[z2]
 have y2:Bys A3 (some ⟨w.heap.size+1+1,0,none⟩) 3 [101,114,115]:=by rw[aE];exact PO [101,114,115] sm _ _ z2
 have B3:Bt A2 A3:=by rw[aE];exact AL _ _
 clear aE;obtain⟨J,aP⟩:∃X,X=A3.alloc (.cells #[slice (some ⟨w.heap.size+1,0,none⟩) 3 3,slice none 0 0,slice (some ⟨w.heap.size+1+1,0,none⟩) 3 3] 32):=⟨_,rfl⟩;rw[<-aP];have y3:Sl1 (λv:Option Addr×Nat×Nat=>slice v.1 v.2.1 v.2.2) J (some ⟨w.heap.size+1+1+1,0,none⟩) 3 [(some ⟨w.heap.size+1,0,none⟩,3,3),(none,0,0),(some ⟨w.heap.size+1+1,0,none⟩,3,3)]:=by rw[aP];exact Sl1.lay (α:=Option Addr×Nat×Nat) _ A3 [(some ⟨w.heap.size+1,0,none⟩,3,3),(none,0,0),(some ⟨w.heap.size+1+1,0,none⟩,3,3)] _ _ z3
 have B4:Bt A3 J:=by rw[aP];exact AL _ _
 clear aP;have bL:=B3.trans (B4.mono B3.size);have aU:Hid (aph J (some ⟨w.heap.size+1+1+1,0,none⟩) 3 [(some ⟨w.heap.size+1,0,none⟩,3,3),(none,0,0),(some ⟨w.heap.size+1+1,0,none⟩,3,3)] rW):=by
  refine⟨y3,rfl,λi v xs hv hx=>?_⟩
  match i,hv,hx with
  |0,hv,hx=>cases hv;cases hx;exact y1.below bL
  |1,hv,hx=>cases hv;cases hx;exact Bys.nil _ _
  |2,hv,hx=>cases hv;cases hx;exact y2.below B4
 have bM:Bt A1 J:=B2.trans (bL.mono B2.size);have cj:Hid (Bt w J):=B1.trans (bM.mono B1.size);have bG:Hid (J.heap[w.heap.size]?=some (.cells #[int i64 2,int i64 3,int i64 2,int i64 1,int i64 1,int i64 2,int i64 0] 26 (0,0))):=(bM.block _ (AD.1 n1).1).trans n1;clear y1 y2 y3 B1 B2 B3 B4 bL bM n1 z1 z2 z3;obtain⟨cb,bt⟩:∃x,w.heap.size=x:=⟨_,rfl⟩;obtain⟨rb,bT⟩:∃x,w.heap.size+1+1+1=x:=⟨_,rfl⟩;rw[bT]at aU⊢;rw[bt]at bG⊢;have cD:=AA bt;clear bT bt;have aL:Hid (∀V,Bt J V->V.cell? ⟨cb,0,none⟩=some (int i64 2)/\V.cell? ⟨cb,1,none⟩=some (int i64 3)/\V.cell? ⟨cb,2,none⟩=some (int i64 2)/\V.cell? ⟨cb,3,none⟩=some (int i64 1)/\V.cell? ⟨cb,4,none⟩=some (int i64 1)/\V.cell? ⟨cb,5,none⟩=some (int i64 2)/\V.cell? ⟨cb,6,none⟩=some (int i64 0)):=λV N=>by have h:=(N.block _ (AD.1 bG.out).1).trans bG.out;exact⟨by simp[cell?,h],by simp[cell?,h],by simp[cell?,h],by simp[cell?,h],by simp[cell?,h],by simp[cell?,h],by simp[cell?,h]⟩
 have bp:∀V,Bt J V->∃vs,aph V (some ⟨rb,0,none⟩) 3 vs rW:=λV N=>⟨_,aU.out.1.below N,aU.out.2.1,λi v xs h1 h2=>(aU.out.2.2 i v xs h1 h2).below N⟩;have K1:Hid (∀V,Bt J V->∀a,Wds V (some a) 3 heW->Calls ZP 24 #[.agg (AM false (some a) 3 3),.agg #[int i64 2,int i64 3,int i64 2,int i64 1,int i64 1,int i64 2,int i64 0],bool false,slice (some ⟨rb,0,none⟩) 3 3,slice none 0 0] V λe w'=>∃A o,e=.returned (pointer (some ⟨A.P,0,none⟩))/\AI A (cW false []) o (sP 0) w'/\Bt V w'/\∀k,k<V.heap.size->o k=1000000):=λV N a hw=>
  apT (cW false []) false (some a) 3 3 (some ⟨rb,0,none⟩) 3 3 none 0 0 heW rW V hw (bp V N) ⟨rfl,.inl rfl⟩ (by decide+kernel) (by decide) aqI aqJ (by decide+kernel) (by decide) rfl Ov (by decide) (by decide) (by decide) (by decide)
 have K2:Hid (∀V,Bt J V->∀a g,Wds V (some a) 3 heW->V.heap[g]?=some (.cells #[bool false] 4 (0,0))->Calls ZP 24 #[.agg (AM false (some a) 3 3),.agg #[int i64 2,int i64 3,int i64 2,int i64 1,int i64 1,int i64 2,int i64 0],bool true,slice (some ⟨rb,0,none⟩) 3 3,slice (some ⟨g,0,none⟩) 1 1] V λe w'=>∃A o,e=.returned (pointer (some ⟨A.P,0,none⟩))/\AI A (cW true [false]) o (sQ 0) w'/\Bt V w'/\∀k,k<V.heap.size->o k=1000000):=λV N a g hw hg=>
  apT (cW true [false]) false (some a) 3 3 (some ⟨rb,0,none⟩) 3 3 (some ⟨g,0,none⟩) 1 1 heW rW V hw (bp V N) ⟨rfl,.inr ⟨g,0,rfl,(AD.1 hg).1,λi x hx=>by
   match i,hx with
   |0,hx=>cases hx;simp[cell?,hg]⟩⟩ (by decide+kernel) (by decide) aqI aqJ (by decide+kernel) (by decide) rfl Ov (by decide) (by decide) (by decide) (by decide)
 clear bp;obtain⟨D,hD⟩:∃D,D=J.drew:=⟨_,rfl⟩;have af:Bt J D:=by rw[hD];exact AN J 1
 refine Vb ?_;refine Va (S:=Bt J) kr (by rw[<-hD];exact af) (λhHeld=>?_);rw[<-hD];clear hD hHeld;refine tkB 1 aL.out ?_;refine tkB 2 aL.out ?_;refine tkB 5 aL.out ?_;refine tkB 6 aL.out ?_;refine apJ 7 (λv V=>∃g,v=slice (some ⟨g,0,none⟩) 1 1/\V.heap[g]?=some (.cells #[bool false] 4 (0,0))) ?_ ?_ (λF=>?_)
 ·rintro _ V V' ⟨g,rfl,h⟩ U;exact⟨g,rfl,(U.block _ (AD.1 h).1).trans h⟩
 ·intro f V N _ K Z;go_simp;exact Z _ _ (N.alloc N.size _) ⟨_,rfl,AT _ _⟩ (AL _ _)
 refine Oo F 0 (λv V=>∃a,v=.agg (AM false (some a) 3 3)/\Wds V (some a) 3 heW) ?_ ?_
 ·rintro f (rfl|⟨vk,rfl⟩) V N-K Z<;>(try simp only[pq]at Z⊢)<;>go_simp<;>(go_at_call 60;refine(PW V).mono ?_;rintro e V2 ⟨a,rfl,hw,Y⟩;exact Z _ _ (N.trans (Y.mono N.size)) ⟨a,rfl,hw⟩ Y)
 rintro _ u1 bB-⟨a,rfl,bR⟩
 try simp only[pq]
 refine Oo F 3 (λv V=>∃(A:PAd)(o:Nat->Nat),v=pointer (some ⟨A.P,0,none⟩)/\AI A (cW false []) o (sP 0) V/\J.heap.size<=V.heap.size/\∀k,k<J.heap.size->o k=1000000) ?_ ?_
 ·rintro f (rfl|⟨vk,rfl⟩) V N hu K Z<;>(try simp only[pq]at Z⊢)<;>go_simp<;>(go_at_call 24;refine(K1.out V N a (bR.below hu)).mono ?_;rintro e V2 ⟨A,o,rfl,hp,Y,hz⟩;exact Z _ _ (N.trans (Y.mono N.size)) ⟨A,o,rfl,hp,AS N.size Y.size,λk hk=>hz k (Af hk N.size)⟩ Y)
 rintro _ u2 aO-⟨A,o,rfl,hp,bU,hz⟩
 try simp only[pq]
 refine Oo F 4 (λv V=>∃a,v=.agg (AM false (some a) 3 3)/\Wds V (some a) 3 heW) ?_ ?_
 ·rintro f (rfl|⟨vk,rfl⟩) V N-K Z<;>(try simp only[pq]at Z⊢)<;>go_simp<;>(go_at_call 60;refine(PW V).mono ?_;rintro e V2 ⟨a,rfl,hw,Y⟩;exact Z _ _ (N.trans (Y.mono N.size)) ⟨a,rfl,hw⟩ Y)
 rintro _ u3 aB ay ⟨a2,rfl,bQ⟩
 try simp only[pq]
 refine apI F ?_;rintro _ u4 ac aw-⟨g,rfl,hg⟩
 try simp only[pq]
 have aX:=ay.trans (aw.mono ay.size);have K3:=AA (K2.out u4 ac a2 g (bQ.below aw) hg);refine rdy 8 (λK Z=>?_);go_simp
 go_at_call 24;refine K3.out.mono ?_;rintro e u5 ⟨B,p,rfl,hq,av,bO⟩
 have HT:Hid (TwW A B (λk=>k<J.heap.size) 0 0 u5):=⟨Two.mk hp bU hz aX av hq bO⟩;have aV:Hid (Bt J u5):=ac.trans (av.mono ac.size);refine Z.out _ _ aV.out (λh8=>?_);clear Z K F K1 K2 K3 hp bU hz aX av hq bO ay aw bR bQ hg bB aO aB ac h8 af
 try simp only[pq]
 refine tkA 9 ?_;refine tkA 10 ?_;refine Vd kr ?_ _;refine At ?_;go_upto_region 5 with(first|(go_at_call 60;refine(PW _).mono ?_;rintro e u6 ⟨a6,rfl,bP,au⟩;have cd:=AA bP;have bK:=AA au;clear bP au)|(go_at_call 52;refine(adn false (some a6) 3 3 heW _ cd.out (by decide) aqI aqJ (by decide+kernel)).mono ?_;rintro e u7 ⟨MB,rfl,_,ar⟩;have bJ:=AA ar;clear ar))
 go_upto_region 6 with(go_at_call 54;refine(aqp MB _).mono ?_;rintro e u8 ⟨rfl,ab⟩;have bI:=AA ab;clear ab)
 go_upto_region 7 with(go_at_call 54;refine(aqT _).mono ?_;rintro e u9 ⟨rfl,ag⟩;have bH:=AA ag;clear ag)
 have aJ:=AA ((((HT.out.same bK.out).same bJ.out).same bI.out).same bH.out);have ci:Hid (Bt J u9):=by have h6:=aV.out.trans (bK.out.mono aV.out.size);have h7:=h6.trans (bJ.out.mono h6.size);have h8:=h7.trans (bI.out.mono h7.size);exact h8.trans (bH.out.mono h8.size)
 clear HT aV bK bJ bI bH cd;go_upto_region 10 with fail
 go_loopw[11] (λbo wr=>∃i:Nat,i<=200/\bo=int i64 i/\Hid (TwW A B (λk=>k<J.heap.size) i i wr)/\Hid (Bt J wr)) (λbo _=>200-(intOf bo).toNat)
 case atStart=>exact⟨0,AR _,rfl,aJ,ci⟩
 case round=>
  clear aJ ci;obtain⟨i,hi,rfl,HT,HL⟩:=hrel
  by_cases cB:i<200
  ·have hd:decide ((i:Int)<200)=true:=by simp;omega
   go_upto_region 13 with(go_at_call 17;refine(HT.out.pickA om).mono ?_;rintro e x1 ⟨⟨y1,y2,rfl⟩,aa,aA⟩;have aT:=AA aa;have ah:=AA (HL.out.trans (aA.belF HL.out.size));clear aa aA)
   go_upto_region 14 with(go_at_call 17;refine(aT.out.pickB om).mono ?_;rintro e x2 ⟨⟨y3,y4,rfl⟩,y,Y⟩;have aS:=AA y;have C:=AA (ah.out.trans (Y.belF ah.out.size));clear y Y)
   go_wp2_with fail
   refine(aS.out.viewB om).mono ?_;rintro e x3 ⟨⟨v0,v3,v4,a6,n6,c6,b0,b1,b2,n1,n2,n5,n7,cy,rfl,cz⟩,z,ax⟩;have aR:=AA z;have aI:=AA (C.out.trans (ax.mono C.out.size));have g1:decide ((2:Int)<(n6:Int))=false:=by simp;omega
   have g2:decide (2<n6)=false:=by simp;omega
   clear z ax;go_wp2
   rename_i co
   go_simp;refine co _ _ ?_;go_wp2
   go_roundw
   case rel=>exact⟨i+1,by omega,by go_num,aR,aI⟩
   case measure=>simp[intOf];omega
  ·obtain rfl:i=200:=by omega
   have hd:decide ((200:Int)<200)=false:=by decide
   go_upto_region 17 with (first
    |(go_at_call 37;refine HT.out.statB.mono ?_;rintro e x1 ⟨rfl,aa,aA⟩;have aT:=AA aa;have ah:=AA (HL.out.trans (aA.mono HL.out.size));clear aa aA)
    |(go_at_call 16;refine aT.out.overB.mono ?_;rintro e x2 ⟨rfl,y,Y⟩;have aS:=AA y;have C:=AA (ah.out.trans (Y.mono ah.out.size));clear y Y)
    |(go_at_call 41;refine aS.out.tookB.mono ?_;rintro e x3 ⟨⟨a3,c3,rfl⟩,z,ax⟩;have aR:=AA z;have aI:=AA (C.out.trans (ax.mono C.out.size));clear z ax)
    |(go_at_call 29;refine aR.out.enB.mono ?_;rintro e x4 ⟨⟨a4,c4,rfl⟩,aq,bZ⟩;have ch:=AA aq;have bE:=AA (aI.out.trans (bZ.mono aI.out.size));clear aq bZ))
   go_wp2_with fail
   refine ch.out.canB.mono ?_;rintro e x5 ⟨rfl,ap,bY⟩;have cg:=AA ap;have bD:=AA (bE.out.trans (bY.belF bE.out.size));clear ap bY
   go_wp2_with fail
   refine cg.out.canB.mono ?_;rintro e x6 ⟨rfl,ao,au⟩;have cf:=AA ao;have ca:=AA (bD.out.trans (au.belF bD.out.size));clear ao au HT aT aS aR ch cg ah C aI bE bD HL;go_upto_region 19 with fail
   go_loopw[15] (λbm wr=>∃j:Nat,j<=60/\bm=int i64 j/\Hid (TwE A B (λk=>k<J.heap.size) j wr)/\Hid (Bt J wr)) (λbm _=>60-(intOf bm).toNat)
   case atStart=>exact⟨0,AR _,rfl,cf,ca⟩
   case round=>
    clear cf ca;obtain⟨j,hj,rfl,HT,HL⟩:=hrel
    by_cases cA:j<60
    ·have hd:decide ((j:Int)<60)=true:=by simp;omega
     go_wp2_with fail
     refine(HT.out.pickB om).mono ?_;rintro e x7 ⟨⟨y1,y2,rfl⟩,am,ar⟩;have ct:=AA am;have cq:=AA (HL.out.trans (ar.belF HL.out.size));clear am ar;go_wp2
     go_roundw
     case rel=>exact⟨j+1,by omega,by go_num,ct,cq⟩
     case measure=>simp[intOf];omega
    ·obtain rfl:j=60:=by omega
     have hd:decide ((60:Int)<60)=false:=by decide
     clear hd;go_upto_region 23 with(go_at_call 34;refine HT.out.viewB.mono ?_;rintro e x8 ⟨⟨v0,v3,v4,v6,rfl,hv⟩,al,ab⟩;obtain⟨a0,c0,rfl,_,_⟩:=Co hv.r0;obtain⟨a3,c3,rfl,_,_⟩:=Co hv.r3;obtain⟨a4,c4,rfl,_,_⟩:=Co hv.r4;obtain⟨a6,c6,rfl,_,_⟩:=Co hv.r6;have HV:=AA hv;have cr:=AA al;have cp:=AA (HL.out.trans (ab.mono HL.out.size));clear hv al)
     obtain⟨H,aM⟩:∃X,X=x8.alloc (.cells (vwC (slice a0 (vwE true).ph.length c0) (slice a3 (vwE true).q.length c3) (slice a4 (vwE true).rg.length c4) (slice a6 (vwE true).live.length c6) (vwE true)) 63):=⟨_,rfl⟩;obtain⟨g8,aN⟩:∃g,x8.heap.size=g:=⟨_,rfl⟩;have ag:Bt x8 H:=by rw[aM];exact AL _ _
     have bu:Bt wr H:=ab.trans (ag.mono ab.size);have bq:H.heap[g8]?=some (.cells (vwC (slice a0 (vwE true).ph.length c0) (slice a3 (vwE true).q.length c3) (slice a4 (vwE true).rg.length c4) (slice a6 (vwE true).live.length c6) (vwE true)) 63 (0,0)):=by rw[aM,<-aN];exact AT _ _
     have bs:=(AD.1 bq).1;have bX:wr.heap.size<=g8:=by rw[<-aN];exact ab.size
     rw[<-aM,aN];obtain⟨F2,aD⟩:∃F:Nat->Prop,F=λk=>k<J.heap.size∨wr.heap.size<=k/\k<H.heap.size:=⟨_,rfl⟩;have aJ:Hid (TwE A B F2 60 H):=HT.out.more bu λk hk=>by rw[aD]at hk;exact hk
     have aK:Hid (∀V,Chg (λk=>¬F2 k) H V->V.cell? ⟨g8,0,none⟩=some (slice a0 5 c0)/\V.cell? ⟨g8,1,none⟩=some (int i64 2)/\V.cell? ⟨g8,2,none⟩=some (int i64 2)/\V.cell? ⟨g8,3,none⟩=some (slice a3 0 c3)/\V.cell? ⟨g8,4,none⟩=some (slice a4 0 c4)/\V.cell? ⟨g8,5,none⟩=some (int i64 0)/\V.cell? ⟨g8,6,none⟩=some (slice a6 0 c6)/\V.cell? ⟨g8,7,none⟩=some (int i64 2)/\V.cell? ⟨g8,8,none⟩=some (bool true)/\V.cell? ⟨g8,9,none⟩=some (bool true)/\V.cell? ⟨g8,10,none⟩=some (bool true)/\V.cell? ⟨g8,11,none⟩=some (int i64 6)):=λV N=>by have h:V.heap[g8]?=_:=(N.block _ bs λe=>e (by rw[aD];exact .inr ⟨bX,bs⟩)).trans bq;exact⟨by simp[cell?,h,vwE],by simp[cell?,h,vwE],by simp[cell?,h,vwE],by simp[cell?,h,vwE],by simp[cell?,h,vwE],by simp[cell?,h,vwE],by simp[cell?,h,vwE],by simp[cell?,h,vwE],by simp[cell?,h,vwE],by simp[cell?,h,vwE],by simp[cell?,h,vwE],by simp[cell?,h,vwE]⟩
     have bF:=HL.out.trans (bu.mono HL.out.size);have ck:Hid (∀V,Chg (λk=>¬F2 k) H V->Bt J V):=λV N=>bF.trans (N.below bF.size λk hk e=>e (by rw[aD];exact .inl hk));have aQ:Hid (∀V,Chg (λk=>¬F2 k) H V->VwS V wr.heap.size (slice a0 (vwE true).ph.length c0) (slice a3 (vwE true).q.length c3) (slice a4 (vwE true).rg.length c4) (slice a6 (vwE true).live.length c6) (vwE true)):=λV N=>(HV.out.below ag).keep N λk h1 h2 e=>e (by rw[aD];exact .inr ⟨h1,h2⟩);have bC:Hid (Chg (λk=>¬F2 k) H H):=.refl _ _;have cC:Hid (∀V W',Chg (λk=>¬F2 k) H V->Chg (λk=>¬F2 k) V W'->Chg (λk=>¬F2 k) H W'):=λV W' h1 h2=>h1.then h2;clear aM aN ab ag bu bq bs bX aD bF HL HT cr HV cp;obtain⟨bl,bk,bj,bi,bh,bg,bf,be,bd,bb,ak,aj⟩:=aK.out H bC.out
     go_wp2_with fail
     refine(aJ.out.statB).mono ?_;rintro e bN ⟨rfl,a1,aZ⟩;have b8:=AA a1;have aH:Hid (Chg (λk=>¬F2 k) H bN):=bC.out.same aZ;clear aZ a1;clear bl bk bj bi bh bg bf be bd bb ak aj;obtain⟨bl,bk,bj,bi,bh,bg,bf,be,bd,bb,ak,aj⟩:=aK.out bN aH.out
     go_wp2_with fail
     refine(b8.out.enB).mono ?_;rintro e cl ⟨⟨a7,c7,rfl⟩,s,aY⟩;have b7:=AA s;have b5:Hid (Chg (λk=>¬F2 k) H cl):=aH.out.same aY;clear aY s;clear bl bk bj bi bh bg bf be bd bb ak aj aJ b8 bC aH
     go_wp2_with fail
     refine(aqt 0 _).mono ?_;rintro e ai ⟨rfl,az⟩;have b9:=AA az;have b4:Hid (Chg (λk=>¬F2 k) H ai):=b5.out.same az;clear az;have b6:=AA (b7.out.same b9.out);have M1:Hid (∀V,Chg (λk=>¬F2 k) H V->Calls ZP 36 #[.agg #[slice a0 5 c0,int i64 2,int i64 2,slice a3 0 c3,slice a4 0 c4,int i64 0,slice a6 0 c6,int i64 2,bool true,bool true,bool true,int i64 6],.agg #[slice a0 5 c0,int i64 2,int i64 2,slice a3 0 c3,slice a4 0 c4,int i64 0,slice a6 0 c6,int i64 2,bool true,bool true,bool true,int i64 6]] V λe w'=>e=.returned (bool true)/\Bt V w'):=λV N=>aq3 _ _ _ _ _ _ _ _ (vwE true) true V (aQ.out V N) (aQ.out V N);have M2:Hid (∀V,Chg (λk=>¬F2 k) H V->∀(w0 w3 w4 w6:Value)(m:Nat),VwS V m w0 w3 w4 w6 (vwE false)->Calls ZP 36 #[.agg #[slice a0 5 c0,int i64 2,int i64 2,slice a3 0 c3,slice a4 0 c4,int i64 0,slice a6 0 c6,int i64 2,bool true,bool true,bool true,int i64 6],.agg (vwC w0 w3 w4 w6 (vwE false))] V λe w'=>e=.returned (bool false)/\Bt V w'):=λV N w0 w3 w4 w6 m hw=>aq3 _ _ _ _ _ _ _ _ (vwE true) false V (aQ.out V N) hw;have R1:Hid (∀V,Calls ZP 26 #[.agg #[int i64 2,int i64 3,int i64 2,int i64 1,int i64 1,int i64 2,int i64 0]] V λe w'=>e=.returned (bool true)/\Bt V w'):=λV=>by
      have:=NG 2 3 2 1 1 2 0 V
      rwa[show Ce 2 3 2 1 1 2 0=true by decide]at this
     have R2:Hid (∀V,Calls ZP 26 #[.agg #[int i64 0,int i64 0,int i64 0,int i64 0,int i64 0,int i64 0,int i64 0]] V λe w'=>e=.returned (bool false)/\Bt V w'):=λV=>by
      have:=NG 0 0 0 0 0 0 0 V
      rwa[show Ce 0 0 0 0 0 0 0=false by decide]at this
     clear b7 b5 aQ;go_upto_region 26 with fail
     simp only[List.append_eq,CT,Av];obtain⟨D,hD⟩:∃D,D=ai.drew:=⟨_,rfl⟩;have af:Bt ai D:=by rw[hD];exact AN ai 1
     have ce:=AA (b6.out.same af);have c9:=b4.out.same af;clear b6 b4 af b9;refine Vb ?_;refine Va (S:=λV=>Chg (λk=>¬F2 k) H V) kr (by rw[<-hD];exact c9) (λhHeld=>?_);rw[<-hD];clear hD hHeld;refine tkA 0 ?_;refine tkA 2 ?_;refine tkA 3 ?_;refine tkA 4 ?_;refine arh 5 (λv V=>∃g,v=slice (some ⟨g,0,none⟩) 3 3/\Hts V (some ⟨g,0,none⟩) 3 [(4,1),(4,0),(5,2)]) (λf=>f.tmps[161]?.getD undef=.agg #[int i64 4,int i64 1]/\f.tmps[162]?.getD undef=.agg #[int i64 4,int i64 0]/\f.tmps[163]?.getD undef=.agg #[int i64 5,int i64 2]) ?_ ?_ (λF=>?_)
     ·rintro _ V V' ⟨g,rfl,h⟩ U;exact⟨g,rfl,h.below U⟩
     ·intro f V ⟨g1,g2,g3⟩ N _ K Z;go_simp;exact Z _ _ (N.same (AL _ _)) ⟨_,rfl,aqH [(4,1),(4,0),(5,2)] (by unfold I64;decide) rfl⟩ (AL _ _)
     refine Oo F 1 (λv V=>∃a cc,v=slice a 3 cc/\Hts V a 3 [(4,1),(4,0),(5,2)]/\TwE A B F2 60 V) ?_ ?_
     ·rintro f (rfl|⟨vk,rfl⟩) V N hu K Z<;>(try simp only[pq]at Z⊢)<;>go_simp<;>(go_at_call 41;refine(ce.out.same hu).tookA.mono ?_;rintro e V2 ⟨⟨a,cc,rfl,hh⟩,ht,Y⟩;exact Z _ _ (N.same Y) ⟨a,cc,rfl,hh,ht⟩ Y)
     rintro _ u1 bB-⟨a8,c8,rfl,bW,aa⟩
     try simp only[pq]
     refine apI F ?_;rintro _ u2 aO Y-⟨g9,rfl,bV⟩
     try simp only[pq]
     have C:=AA (aqd a8 (some ⟨g9,0,none⟩) 3 c8 3 3 [(4,1),(4,0),(5,2)] [(4,1),(4,0),(5,2)] u2 (bW.below Y) bV (by decide));have y:=aa.same Y;clear F bW bV Y aa bB ce c9;refine rdy 6 (λK Z=>?_);go_simp
     go_at_call 40;refine C.out.mono ?_;rintro e u3 ⟨rfl,U⟩;simp only[decide_true]
     have aB:=aO.same U;have z:=y.same U;refine Z.out _ _ aB (λI=>?_);clear Z K I U C aO y
     try simp only[pq]
     refine tkA 7 ?_;refine tkA 8 ?_;refine tkA 10 ?_;refine rdy 9 (λK Z=>?_);go_simp
     go_at_call 37;refine(z.statA).mono ?_;rintro e u4 ⟨rfl,aq,U⟩
     have ac:=aB.same U;refine Z.out _ _ ac (λI=>?_);clear Z K I U aB z
     try simp only[pq]
     refine tkA 11 ?_;refine tkA 12 ?_;refine tkA 13 ?_;refine tkA 14 ?_;refine rdy 15 (λK Z=>?_);go_simp
     go_at_call 16;refine(aq.overA).mono ?_;rintro e u5 ⟨rfl,ap,U⟩
     have bA:=ac.same U;refine Z.out _ _ bA (λI=>?_);clear Z K I U ac aq
     try simp only[pq]
     refine tkA 16 ?_;refine tkA 17 ?_;refine tkA 18 ?_;refine rdy 19 (λK Z=>?_);go_simp
     go_at_call 21;refine(ap.canA).mono ?_;rintro e u6 ⟨rfl,ao,U⟩
     have bz:=bA.then U;refine Z.out _ _ bz (λI=>?_);clear Z K I U bA ap
     try simp only[pq]
     refine tkA 20 ?_;refine tkA 21 ?_;refine tkA 22 ?_;refine tkA 23 ?_;refine rdy 24 (λK Z=>?_);go_simp
     go_at_call 44;refine(ao.stepA).mono ?_;rintro e u7 ⟨rfl,am,U⟩
     have bx:=bz.then U;refine Z.out _ _ bx (λI=>?_);clear Z K I U bz ao
     try simp only[pq]
     refine tkA 25 ?_;refine tkA 26 ?_;refine tkA 27 ?_;refine tkA 28 ?_;refine tkA 29 ?_;refine tkA 30 ?_;refine tkA 31 ?_;refine tkA 32 ?_;refine tkA 33 ?_;refine tkA 34 ?_;refine tkA 35 ?_;refine tkA 36 ?_;refine tkA 37 ?_;refine tkA 38 ?_;refine tkA 39 ?_;refine tkA 40 ?_;refine tkA 41 ?_;refine tkA 42 ?_;refine tkA 43 ?_;refine tkA 44 ?_;refine tkA 45 ?_;refine rdy 46 (λK Z=>?_);go_simp
     go_at_call 16;refine(aqu u7).mono ?_;rintro e u8 ⟨rfl,U⟩
     have bw:=bx.same U;have al:=am.same U;refine Z.out _ _ bw (λI=>?_);clear Z K I U bx am
     try simp only[pq]
     refine tkA 47 ?_;refine tkA 48 ?_;refine tkA 49 ?_;refine tkW 50 (v:=?_) ?_ ?_;rotate_left
     ·intro V N;obtain⟨q0,q1,q2,q3,q4,q5,q6⟩:=aL.out V (ck.out V N)
      first|(go_simp;done)|(go_simp;with_reducible rfl)
     try simp only[pq]
     refine rdy 51 (λK Z=>?_);go_simp
     go_at_call 26;refine(R1.out u8).mono ?_;rintro e u9 ⟨rfl,U⟩
     have bv:=bw.same U;have bS:=al.same U;refine Z.out _ _ bv (λI=>?_);clear Z K I U bw al
     try simp only[pq]
     refine tkA 52 ?_;refine tkA 53 ?_;refine tkA 54 ?_;refine rdy 55 (λK Z=>?_);go_simp
     go_at_call 26;refine(R2.out u9).mono ?_;rintro e cn ⟨rfl,U⟩
     have ae:=bv.same U;have a1:=bS.same U;refine Z.out _ _ ae (λI=>?_);clear Z K I U bv bS
     try simp only[pq]
     refine tkA 56 ?_;refine tkA 57 ?_;refine tkA 58 ?_;refine tkB 59 aK.out ?_;refine tkB 60 aK.out ?_;refine rdy 61 (λK Z=>?_);go_simp
     go_at_call 36;refine(M1.out cn ae).mono ?_;rintro e cx ⟨rfl,U⟩
     have aC:=ae.same U;have s:=a1.same U;refine Z.out _ _ aC (λI=>?_);clear Z K I U ae a1
     try simp only[pq]
     refine tkA 62 ?_;refine tkA 63 ?_;refine tkB 64 aK.out ?_;refine tkA 65 ?_;refine rdy 66 (λK Z=>?_);go_simp
     go_at_call 34;refine(s.viewA).mono ?_;rintro e cm ⟨⟨w0,w3,w4,w6,rfl,hw⟩,aW,U⟩
     have ad:=aC.same U;have HW:=AA hw;clear hw;refine Z.out _ _ ad (λI=>?_);clear Z K I U aC s
     try simp only[pq]
     refine rdy 67 (λK Z=>?_);go_simp
     go_at_call 36;refine(M2.out cm ad w0 w3 w4 w6 _ HW.out).mono ?_;rintro e cw ⟨rfl,U⟩
     have b3:=ad.same U;have cv:=aW.same U;refine Z.out _ _ b3 (λI=>?_);clear Z K I U ad aW
     try simp only[pq]
     refine tkA 68 ?_;refine tkA 69 ?_;refine tkA 70 ?_;refine Vd kr ?_ _;refine At ?_;go_wp2;go_ret;exact⟨rfl,cu.out.trans ((cj.out.trans ((ck.out _ b3).mono cj.out.size)))⟩
def Ox(Z:La):Nat:=(Z.map λx=>min x.length 200).sum
theorem aq8{Z:La}{i:Nat}{x:List Int}(h:Z[i]?=some x):Ox (Z.take (i+1))=Ox (Z.take i)+min x.length 200:=by unfold Ox;rw[LH,h];simp
theorem PX(Z:La):∀i,Ox (Z.take i)<=200*i
 |0=>by simp[Ox]
 |i+1=>by
  have:=PX Z i
  cases h:Z[i]? with
  |none=>rw[LH,h];simp;omega
  |some x=>rw[aq8 h];omega
def PE(fold:Bool)(wss Z:La)(m k:Nat):Bool:=!Ev wss&&Fw fold wss&&decide (Z.length<=40)&&decide (Ox (Z.take 41)<=120)&&decide (m<=20)&&decide (k<=300)
theorem apU{fold:Bool}{wss Z:La}{m k:Nat}(h:PE fold wss Z m k=true):Ev wss=false/\Fw fold wss=true/\Z.length<=40/\Z.flatten.length<=120/\m<=20/\k<=300/\∀x∈Z,x.length<=120:=by
 unfold PE at h;simp only[Bq,Bool.not_eq_true',decide_eq_true_eq]at h;obtain⟨⟨⟨⟨⟨h1,h2⟩,h3⟩,h4⟩,h5⟩,h6⟩:=h;rw[Ap om]at h4;have X:∀l:La,Ox l<=120->l.flatten.length<=Ox l/\∀x∈l,x.length<=120:=by
  intro l
  induction l with
  |nil=>intro _;exact⟨AC _,λx Y=>by cases Y⟩
  |cons y l ih=>
   intro U;have e:Ox (y::l)=min y.length 200+Ox l:=by unfold Ox;rw[BO,List.sum_cons]
   rw[e]at U;obtain⟨N,V⟩:=ih om;refine⟨?_,λx Y=>?_⟩
   ·rw[e,List.flatten_cons,List.length_append];omega
   ·rcases CR.1 Y with rfl|Y
    ·omega
    ·exact V x Y
 obtain⟨N,V⟩:=X Z h4;exact⟨h1,h2,h3,by omega,h5,h6,V⟩
theorem apZ(fold:Bool)(a:Option Addr)(U J:Nat)(b:Option Addr)(n cb:Nat)(d:Option Addr)(m cd:Nat)(f:Option Addr)(k cf:Nat)(wss X:La)(w:World)(hA:Wds w a U wss)(hB:Wds w b n X) :Calls ZP 22 #[.agg (AM fold a U J),slice b n cb,slice d m cd,slice f k cf] w λe w'=>e=.returned (bool (PE fold wss X m k))/\Bt w w':=by
 obtain⟨W,hW⟩:∃W,W=w.alloc (.cells (AM fold a U J) 24):=⟨_,rfl⟩;have N:Bt w W:=by rw[hW];exact AL _ _
 have hO:Bx w.heap.size [.cells (AM fold a U J) 24] W:=by rw[hW];exact(Bx.nil _ w).snoc _ rfl
 have HC:Hid (∀V,Bt W V->V.cell? ⟨w.heap.size,0,none⟩=some (bool fold)/\V.cell? ⟨w.heap.size,1,none⟩=some (slice a U J)):=λV I=>by have h:=hO.below I;exact⟨h.cell (i:=0) rfl rfl,h.cell (i:=0) rfl rfl⟩
 have hn:X.length=n:=hB.len;have C:=hA.below N;have a7:=hB.below N;have k1:Hid (∀V,Bt W V->Calls ZP 45 #[.agg (AM fold a U J)] V λe w'=>e=.returned (bool (Ev wss))/\Bt V w'):=λV I=>ai3 fold a U J wss V (C.below I);have k2:Hid (Ev wss=false->∀V,Bt W V->Calls ZP 46 #[.agg (AM fold a U J)] V λe w'=>e=.returned (bool (Fw fold wss))/\Bt V w'):=λhg V I=>by obtain⟨b1,b2,_⟩:=ako hg fold;have hl:=hA.len;exact acH fold a U J wss V (C.below I) om (λx hx=>AS (b2 x hx) om)
 have k3:Hid (∀V,Bt W V->∀i,i<n->∃q A a' l c' xs,b=some ⟨q,A,none⟩/\V.cell? ⟨q,A+i,none⟩=some (slice a' l c')/\X[i]?=some xs/\xs.length=l):=λV I i hi=>by obtain⟨q,A,a',l,c',xs,e,_,h1,h2,h3,_⟩:=(a7.below I).at_ hi;exact⟨q,A,a',l,c',xs,e,h1,h2,h3.1.1⟩
 unfold PE;rw[hn];obtain⟨G,hG⟩:∃G,Ev wss=G:=⟨_,rfl⟩;obtain⟨R,hR⟩:∃G,Fw fold wss=G:=⟨_,rfl⟩;rw[hG]at k1 k2⊢;rw[hR]at k2⊢;obtain⟨D3,H⟩:∃D,decide (m<=20)=D:=⟨_,rfl⟩;obtain⟨D4,a1⟩:∃D,decide (k<=300)=D:=⟨_,rfl⟩;have d3:decide ((m:Int)<=20)=D3:=by rw[<-H,decide_eq_decide];omega
 have d4:decide ((k:Int)<=300)=D4:=by rw[<-a1,decide_eq_decide];omega
 have hm:decide (m<=20)=D3:=H;rw[H,a1];have HB:=AA N;obtain⟨T,hT⟩:∃T,Ox (X.take 41)=T:=⟨_,rfl⟩;have am:T<=8200:=by rw[<-hT];have:=PX X 41;omega
 have ad:Hid (∀i,n<=i∨41<=i->i<=n->i<=41->Ox (X.take i)=T):=λi h1 h2 h3=>by
  rw[<-hT]
  rcases h1 with h1|h1
  ·rw[Ap om,Ap om]
  ·rw[show i=41 by omega]
 obtain⟨D1,a6⟩:∃D,decide (n<=40)=D:=⟨_,rfl⟩;obtain⟨D2,a2⟩:∃D,decide (T<=120)=D:=⟨_,rfl⟩;have d1:decide ((n:Int)<=40)=D1:=by rw[<-a6,decide_eq_decide];omega
 have d2:decide ((T:Int)<=120)=D2:=by rw[<-a2,decide_eq_decide];omega
 rw[hT,a6,a2];clear hT;clear hA hB hO N hn C a7 hG hR;go_enter func22,ntmps22;go_upto_region 1 with fail
 rw[<-hW];clear hW;go_upto_region 3 with fail
 go_loopw[9,10] (λs9 a8 wr=>∃i:Nat,i<=n/\i<=41/\s9=int i64 (Ox (X.take i):Nat)/\a8=int i64 i/\Hid (Bt W wr)) (λ_ s _=>41-(intOf s).toNat)
 case atStart=>exact⟨0,AR _,by omega,rfl,rfl,AH _ _⟩
 case round=>
  obtain⟨i,aa,y,rfl,rfl,B⟩:=hrel
  by_cases hc:i<n/\i<41
  ·obtain⟨Z,hZ⟩:∃Z,Ox (X.take i)=Z:=⟨_,rfl⟩;have ak:Z<=8200:=by rw[<-hZ];have:=PX X i;omega
   obtain⟨ac,aj⟩:=hc;obtain⟨q,A,a',l,c',xs,rfl,ab,hx,z⟩:=k3.out wr B.out i ac;have HZ:Hid (Ox (X.take (i+1))=Z+min l 200):=by rw[Hid,aq8 hx,hZ,z]
   have hd:decide ((i:Int)<(n:Int))=true:=by simp;omega
   have ai:decide ((i:Int)<=40)=true:=by simp;omega
   have ah:decide (i<=40)=true:=by simp;omega
   have ag:decide (i<n)=true:=by simp;omega
   have i1:(0:Int)<=(i:Int):=by omega
   have i2:(i:Int)<(n:Int):=by omega
   obtain⟨Y,hY⟩:∃Y,min l 200=Y:=⟨_,rfl⟩;have af:min (l:Int) 200=(Y:Int):=by omega
   have al:Y<=200:=by omega
   have ae:IntKind.i64.wrap ((Z:Int)+(Y:Int))=(Z:Int)+(Y:Int):=by rw[BK];omega
   rw[hY]at HZ;rw[hZ];clear z hx hZ hY;go_wp2
   go_roundw
   case rel=>exact⟨i+1,by omega,by omega,by rw[HZ.out];simp,by simp,B⟩
   case measure=>simp[intOf];omega
  ·have HZ:=ad.out i om aa y;rw[HZ];clear HZ k3;obtain⟨q0,q1⟩:=HC.out _ B.out
   go_wp2_with fail
   all_goals
    refine(k1.out _ B.out).mono ?_;rintro e w1 ⟨rfl,j⟩;have X1:=AA (B.out.trans (j.mono B.out.size));clear j q0 q1;obtain⟨q0,q1⟩:=HC.out _ X1.out
    cases G with
    |true=>
     go_wp2;go_ret;exact⟨rfl,HB.out.trans (X1.out.mono HB.out.size)⟩
    |false=>
     have K2:=AA (k2.out rfl w1 X1.out)
     go_wp2_with fail
     refine K2.out.mono ?_;rintro e w2 ⟨rfl,v⟩;have X2:=AA (X1.out.trans (v.mono X1.out.size));clear v K2
     cases R<;>cases D1<;>cases D2<;>cases D3<;>cases D4<;>(go_wp2;go_ret;exact⟨rfl,HB.out.trans (X2.out.mono HB.out.size)⟩)
theorem FC.mov{c:CfM}{H D L n:Nat}{s:PlM}(h:FC c H D L n s)(Y:c.K<=256)(X:ML c H D)(d z:Int):FC c H D L (n+1) (PD c s d z):=by
 unfold PD
 split
 ·exact h.pick Y X z
 ·split
  ·unfold PA
   split
   ·rename_i Z
    unfold Ou at Z;exact h.step Y X (Bool.and_eq_true_iff.1 Z).2
   ·exact h.up
  ·exact h.cancel.up
theorem arc{c:CfM}{s:PlM}(z:Int):(EZ c s z=none/\(II c s).length=0/\Ou c s 0=false/\PA c s 0=s/\Fi c s z=s)∨∃t:Nat,EZ c s z=some t/\(II c s).length≠0/\(enF c s (c.W+3)).getD (Fz z (II c s).length) 0=(t:Int)/\Ou c s t=true/\PA c s t=Fi c s z:=by
 cases Z:EZ c s z with
 |none=>
  have V:=acm Z;have e:Ou c s 0=false:=by
   cases U:Ou c s 0 with
   |false=>rfl
   |true=>
    unfold Ou at U;have Y:=(Bool.and_eq_true_iff.1 U).2;have:(0:Nat)∈II c s:=List.mem_filter.2 ⟨List.mem_range.2 om,Y⟩;rw[V]at this
    cases this
  exact .inl ⟨rfl,by rw[V];rfl,e,by unfold PA;rw[e];rfl,by unfold Fi;rw[Z]⟩
 |some t=>
  obtain⟨N,Y⟩:=aaO Z;have X:(II c s).length≠0:=by intro e;unfold EZ at Z;have:=(AP.1 Z).1;omega
  have e:Ou c s (t:Int)=true:=by unfold Ou;rw[Lz (by omega:(0:Int)<=t),Lz (by omega:(t:Int)<(c.W+3:Nat)),Aa];exact Y
  refine .inr ⟨t,rfl,X,?_,e,?_⟩
  ·unfold EZ at Z;rw[ak5,DZ,BU,Z]
   rfl
  ·unfold PA Fi;rw[Z,e,Aa]
   rfl
theorem aqk:((ZP.fieldsOf 66).toList.map λf=>(f.name,f.type,f.offset))=[("Kind",5,0),("At",3,1)]:=by kernel_rfl
theorem ar1(a b:Int)(W:World):(binOp .neq 66 (.agg #[.int .u8 a,int i64 b]) (.agg #[.int .u8 a,int i64 b])).run ZP W=.ok (bool false) W:=by
 rw[run_neq_struct,run_equalIn_agg W 9999 66 _ _ kr kr,apV 9999 _ _ _ [⟨ "Kind",5,0,false,"","",0⟩,⟨ "At",3,1,false,"","",0⟩] aqk];have h0:∀W:World,(part 5 #[.int .u8 a,int i64 b] 0).run ZP W=.ok (.int .u8 a) W:=λW=>by kernel_rfl
 have h1:∀W:World,(part 3 #[.int .u8 a,int i64 b] 1).run ZP W=.ok (int i64 b) W:=λW=>by kernel_rfl
 simp[Op.eqFields,IN,Sem.run_ite,IM,h0,h1,Result.andThen_ok,run_equalIn_int _ _ _ _ _ _ _ underlying3,run_equalIn_int _ _ _ _ _ _ _ underlying5]
theorem aqE:ZP.eqGuardType ZP.depth 66=false:=by kernel_rfl
theorem aq5(c:CfM)(fold:Bool)(a:Option Addr)(la ca:Nat)(b:Option Addr)(n cb:Nat)(d:Option Addr)(m cd:Nat)(f:Option Addr)(k cf:Nat)(wss I:La)(mv:List AF)(w:World)(hA:Wds w a la wss)(hR:Wds w b n I)(hD:Sl1 bool w d m c.ans)(hM:Hts w f k mv)
  (aB:PE fold wss I m k=true) (ax:Ce c.W c.K c.R c.Q c.O c.S c.F=true) (hL:Au wss=(c.L:Int)) (ap:c.L<=32) (aC:c.scan=scF fold wss c.S) :
  Calls ZP 10 #[.agg (AM fold a la ca),.agg (Ee c.W c.K c.R c.Q c.O c.S c.F),bool c.br,slice b n cb,slice d m cd,slice f k cf] w λe w'=>e=.returned (bool true)/\Bt w w':=by
 obtain⟨W,hW⟩:∃W,W=(w.alloc (.cells (AM fold a la ca) 24)).alloc (.cells (Ee c.W c.K c.R c.Q c.O c.S c.F) 26):=⟨_,rfl⟩;have hO:Bx w.heap.size [.cells (AM fold a la ca) 24,.cells (Ee c.W c.K c.R c.Q c.O c.S c.F) 26] W:=by rw[hW];exact((Bx.nil _ w).snoc _ rfl).snoc _ sm
 have J:Bt w W:=by rw[hW];exact(AL w _).alloc (AL w _).size _
 obtain⟨S0,aU⟩:∃x,(w.alloc (.cells (AM fold a la ca) 24)).heap.size=x:=⟨_,rfl⟩;have aT:S0=w.heap.size+1:=by rw[<-aU];simp
 have HC:Hid (∀V,Bt W V->V.cell? ⟨w.heap.size,0,none⟩=some (bool fold)/\V.cell? ⟨w.heap.size,1,none⟩=some (slice a la ca)/\V.cell? ⟨w.heap.size+1,0,none⟩=some (int i64 c.W)/\V.cell? ⟨w.heap.size+1,1,none⟩=some (int i64 c.K)/\V.cell? ⟨w.heap.size+1,2,none⟩=some (int i64 c.R)/\V.cell? ⟨w.heap.size+1,3,none⟩=some (int i64 c.Q)/\V.cell? ⟨w.heap.size+1,4,none⟩=some (int i64 c.O)/\V.cell? ⟨w.heap.size+1,5,none⟩=some (int i64 c.S)/\V.cell? ⟨w.heap.size+1,6,none⟩=some (int i64 c.F)):=λV N=>by have h:=hO.below N;exact⟨h.cell (i:=0) rfl rfl,h.cell (i:=0) rfl rfl,h.cell (i:=1) rfl rfl,h.cell (i:=1) rfl rfl,h.cell (i:=1) rfl rfl,h.cell (i:=1) rfl rfl,h.cell (i:=1) rfl rfl,h.cell (i:=1) rfl rfl,h.cell (i:=1) rfl rfl⟩
 rw[<-aT]at HC;obtain⟨p1,p2,p4,p5,p6,p7,p8⟩:=apU aB;have p2:An fold wss=true:=by rw[NF];exact p2
 have ac:=aok ax ap;obtain⟨g1,g2,g3⟩:=ako p1 fold;have bk:=hA.len;have bj:=hR.len;have aQ:(AB wss).length<=400:=Hx (Fy.2 ⟨IY p2,rfl,rfl⟩);have aD:=ao2 aC aQ;have aV:400*(c.K+c.wm)<=1000000:=by
  have h1:=ac.K;have h2:c.wm<=31:=by unfold CfM.wm;omega
  omega
 have aR:∀x∈I,FS x/\x.length<=120:=λx hx=>⟨λy hy=>hR.bytes x hx y hy,p8 x hx⟩;have b9:Hid (FC c 400 (c.K+c.wm) 120 0 (Bn c I)):=FC.new ac.W.1 I aR;have b8:Hid (∀i s,FC c 400 (c.K+c.wm) 120 i s->i<=3900->OkM c s):=λi s h hi=>h.ok ac hi aV om aD;have bs:Hid (∀i s,FC c 400 (c.K+c.wm) 120 i s->∀x y,FC c 400 (c.K+c.wm) 120 (i+1) (PD c s x y)):=λi s h x y=>h.mov ac.K.2 aD x y;have bt:Hid (∀V,Bt W V->Hts V f k mv):=λV N=>(hM.below J).below N;have k1:Hid (Calls ZP 22 #[.agg (AM fold a la ca),slice b n cb,slice d m cd,slice f k cf] W λe w'=>e=.returned (bool true)/\Bt W w'):=by
  have:=apZ fold a la ca b n cb d m cd f k cf wss I W (hA.below J) (hR.below J)
  rwa[aB]at this
 have k2:Hid (∀V,Calls ZP 25 #[.agg #[int i64 c.W,int i64 c.K,int i64 c.R,int i64 c.Q,int i64 c.O,int i64 c.S,int i64 c.F]] V λe w'=>e=.returned (bool true)/\Bt V w'):=λV=>by
  have:=afn c.W c.K c.R c.Q c.O c.S c.F V
  rwa[ax]at this
 have k3:Hid (∀V,Bt W V->Calls ZP 24 #[.agg #[bool fold,slice a la ca],.agg #[int i64 c.W,int i64 c.K,int i64 c.R,int i64 c.Q,int i64 c.O,int i64 c.S,int i64 c.F],bool c.br,slice b n cb,slice d m cd] V λe w'=>∃A o,e=.returned (pointer (some ⟨A.P,0,none⟩))/\AI A c o (Bn c I) w'/\Bt V w'/\∀k,k<V.heap.size->o k=1000000):=λV N=>
  apT c fold a la ca b n cb d m cd wss I V ((hA.below J).below N) ((hR.below J).below N).rds ((hD.below J).below N) p2 om (λx hx=>by have:=g2 x hx;omega) om hL ap aC ac ax om (λx hx=>by have:=p8 x hx;omega) om
 have H:=AA ac;have HB:=AA J;have bw:k<=300:=p7;obtain⟨q0,q1,q2,q3,q4,q5,q6,q7,q8⟩:=HC.out W (AH _ _);clear hA hR hD hM aB ax hL ap aC hO J aT p1 p2 p4 p5 p6 p7 p8 ac g1 g2 g3 bk bj aQ aD aV aR;go_enter func10,ntmps10;go_upto_region 1 with fail
 rw[<-hW];clear hW aU
 go_wp2_with fail
 refine k1.out.mono ?_;rintro e w1 ⟨rfl,Z⟩;have X1:=AA Z;clear q0 q1 q2 q3 q4 q5 q6 q7 q8 Z k1;obtain⟨q0,q1,q2,q3,q4,q5,q6,q7,q8⟩:=HC.out w1 X1.out
 go_wp2_with fail
 refine(k2.out _).mono ?_;rintro e w2 ⟨rfl,aS⟩;have X2:=AA (X1.out.trans (aS.mono X1.out.size));clear q0 q1 q2 q3 q4 q5 q6 q7 q8 aS k2;go_upto_region 3 with fail
 obtain⟨D,hD⟩:∃D,D=w2.drew:=⟨_,rfl⟩;have ag:Bt w2 D:=by rw[hD];exact AN w2 1
 have XD:=AA (X2.out.trans (ag.mono X2.out.size));clear ag;refine Vb ?_;refine Va (S:=Bt W) kr (by rw[<-hD];exact XD.out) (λhHeld=>?_);rw[<-hD];clear hD hHeld;refine tkB 0 HC.out ?_;refine tkB 1 HC.out ?_;refine tkB 2 HC.out ?_;refine tkB 3 HC.out ?_;refine tkB 4 HC.out ?_;refine tkB 6 HC.out ?_;refine tkB 7 HC.out ?_;refine tkB 8 HC.out ?_;refine tkB 9 HC.out ?_;refine tkB 10 HC.out ?_;have K3:=AA (k3.out D XD.out);refine rdy 5 (λK hK=>?_);go_simp
 go_at_call 24;refine K3.out.mono ?_;rintro e u1 ⟨A,o,rfl,hp,hb,hz⟩
 have Y1:=AA (XD.out.trans (hb.mono XD.out.size));have HP:=AA hp;have HZ:Hid (W.heap.size<=u1.heap.size/\∀k,k<W.heap.size->o k=1000000):=⟨Y1.out.size,λk hk=>hz k (Af hk XD.out.size)⟩;refine hK.out _ _ Y1.out (λh5=>?_);clear hK K K3 hp hb hz h5
 try simp only[pq]
 have K3:=AA (k3.out u1 Y1.out);clear k3;refine rdy 11 (λK hK=>?_);go_simp
 go_at_call 24;refine K3.out.mono ?_;rintro e u2 ⟨B,p,rfl,hq,hb,aL⟩
 have Y2:=AA (Y1.out.trans (hb.mono Y1.out.size));have b1:Hid (Two A B c c (λj=>j<W.heap.size) (Bn c I) (Bn c I) u2):=Two.mk HP.out HZ.out.1 HZ.out.2 (AH _ _) hb hq aL;refine hK.out _ _ Y2.out (λh11=>?_);clear hK K K3 hq hb aL h11 HP HZ
 try simp only[pq]
 refine tkA 12 ?_;refine tkA 13 ?_;refine Vd kr ?_ _;refine At ?_;go_upto_region 7 with fail
 go_loopw[15] (λaA wr=>∃(i:Nat)(s:PlM),i<=k/\aA=int i64 i/\Hid (FC c 400 (c.K+c.wm) 120 i s)/\Hid (Two A B c c (λj=>j<W.heap.size) s s wr)/\Hid (Bt W wr)) (λaA _=>k-(intOf aA).toNat)
 case atStart=>exact⟨0,_,AR _,rfl,b9,b1,Y2⟩
 case round=>
  clear b9 b1 Y1 Y2 X1 X2 XD;obtain⟨i,s,bx,rfl,HI,HT,HL⟩:=hrel
  by_cases bl:i<k
  ·have hd:decide ((i:Int)<(k:Int))=true:=by simp;omega
   have bz:decide (i<k)=true:=by simp;omega
   obtain⟨g,of,x,y,hx⟩:∃g of x y,f=some ⟨g,of,none⟩/\wr.cell? ⟨g,of+i*2,none⟩=some (int i64 x)/\wr.cell? ⟨g,of+i*2+1,none⟩=some (int i64 y):=by obtain⟨g,of,x,h1,h2,h3,h4,h5⟩:=(bt.out wr HL.out).at_ bl;exact⟨g,of,_,_,h1,by first|exact h4|exact h3|exact h2,by first|exact h5|exact h4⟩
   obtain⟨rfl,aN,aM⟩:=hx;have i1:(0:Int)<=(i:Int):=by omega
   have i2:(i:Int)<(k:Int):=by omega
   go_upto_region 10 with fail
   obtain⟨y0,av⟩:∃X,X=wr.alloc (.cells #[int i64 x,int i64 y] 59):=⟨_,rfl⟩;obtain⟨g0,aH⟩:∃g,wr.heap.size=g:=⟨_,rfl⟩;have J:Bt wr y0:=by rw[av];exact AL _ _
   have aF:y0.heap[g0]?=some (.cells #[int i64 x,int i64 y] 59 (0,0)):=by rw[av,<-aH];exact AT _ _
   have aG:=(AD.1 aF).1;rw[<-av,aH];obtain⟨U,aq⟩:∃F:Nat->Prop,F=λj=>j<W.heap.size∨j=g0:=⟨_,rfl⟩;have a8:Hid (Two A B c c U s s y0):=HT.out.more J λj hj=>by
    rw[aq]at hj
    rcases hj with hj|hj
    ·exact .inl hj
    ·subst hj;exact .inr ⟨by omega,aG⟩
   have af:Hid (∀V,Chg (λj=>¬U j) y0 V->V.cell? ⟨g0,0,none⟩=some (int i64 x)/\V.cell? ⟨g0,1,none⟩=some (int i64 y)):=λV N=>by have h:V.heap[g0]?=_:=(N.block _ aG λe=>e (by rw[aq];exact .inr rfl)).trans aF;exact⟨by simp[cell?,h],by simp[cell?,h]⟩
   have aJ:=HL.out.trans (J.mono HL.out.size);have bv:Hid (∀V,Chg (λj=>¬U j) y0 V->Bt W V):=λV N=>aJ.trans (N.below aJ.size λj hj e=>e (by rw[aq];exact .inl hj));have bu:Hid (∀s' V,Two A B c c U s' s' V->Two A B c c (λj=>j<W.heap.size) s' s' V):=λs' V h=>h.more (AH _ _) λj hj=>.inl (by rw[aq];exact .inl hj);have ok:=b8.out i s HI.out om;have au:=AA ok;have aK:=AA (bs.out i s HI.out x y);clear av aH J aF aG aq aJ HT HL aN aM ok;have ai:Hid (Chg (λj=>¬U j) y0 y0):=.refl _ _;obtain⟨ab,aa⟩:=af.out y0 ai.out
   go_upto_if 68 with fail
   go_cut[] (λwx=>∃s',Hid (FC c 400 (c.K+c.wm) 120 (i+1) s')/\Hid (Two A B c c U s' s' wx)/\Hid (Chg (λj=>¬U j) y0 wx))
   case first=>
    by_cases aw:x=0
    ·subst aw;have bb:Hid (FC c 400 (c.K+c.wm) 120 (i+1) (Fi c s y)):=aK.out;obtain⟨pn,pb,e1,e2,e3,e4,e5⟩:∃(pn:Int)(pb:Bool),(if(II c s).length=0 then #[int i64 0,bool false] else #[int i64 ((enF c s (c.W+3)).getD (Fz y (II c s).length) 0),bool true])=#[int i64 pn,bool pb]/\(match EZ c s y with|none=>#[int i64 0,bool false]|some t=>#[int i64 (t:Int),bool true])=#[int i64 pn,bool pb]/\Ou c s pn=pb/\PA c s pn=Fi c s y/\(pb=false->pn=0):=by
      rcases arc (c:=c) (s:=s) y with⟨h1,h2,h3,h4,h5⟩|⟨t,h1,h2,h3,h4,h5⟩
      ·exact⟨0,false,by rw[Lc h2],by rw[h1],h3,by rw[h4,h5],λ_=>rfl⟩
      ·exact⟨t,true,by rw[Lb h2,h3],by rw[h1],h4,h5,λe=>by cases e⟩
     have bo:(II c s).length<=1000000:=by have h1:(II c s).length<=c.W+3:=AS (List.length_filter_le _ _) (by rw[List.length_range];exact AC _);have:=H.out.W;omega
     obtain⟨L,hL⟩:∃L,(II c s).length=L:=⟨_,rfl⟩;have KE:Hid (∀V,Two A B c c U s s V->Calls ZP 29 #[pointer (some ⟨B.P,0,none⟩)] V λe w'=>(∃a cc,e=.returned (slice a L cc)/\Sl1 (int i64) w' a L (enF c s (c.W+3)))/\Two A B c c U s s w'/\Bt V w'):=λV N=>by have:=N.symm.enabled H.out au.out;rw[hL]at this;exact this.mono λe w' ⟨h1,h2,h3⟩=>⟨h1,h2.symm,h3⟩
     have KF:Hid (∀V a cc,Sl1 (int i64) V a L (enF c s (c.W+3))->Calls ZP 43 #[int i64 y,slice a L cc] V λe w'=>e=.returned (.tuple #[int i64 pn,bool pb])/\w'=V):=λV a cc hs=>by
      have:=acE y a L cc (enF c s (c.W+3)) V hs om;rw[hL]at e1
      rwa[e1]at this
     have KP:Hid (∀V,Two A B c c U s s V->Calls ZP 17 #[pointer (some ⟨A.P,0,none⟩),int i64 y] V λe w'=>e=.returned (.tuple #[int i64 pn,bool pb])/\Two A B c c U (Fi c s y) s w'/\Chg (λj=>¬U j) V w'):=λV N=>by exact(N.pick H.out au.out y).mono λe w' ⟨h1,h2,h3⟩=>⟨h1.trans (congrArg (λz=>Ending.returned (.tuple z)) e2),h2,h3⟩
     have KS:Hid (∀V,Two A B c c U (Fi c s y) s V->Calls ZP 44 #[pointer (some ⟨B.P,0,none⟩),int i64 pn] V λe w'=>e=.returned (bool pb)/\Two A B c c U (Fi c s y) (Fi c s y) w'/\Chg (λj=>¬U j) V w'):=λV N=>by have:=N.symm.step H.out au.out pn;rw[e3,e4]at this;exact this.mono λe w' ⟨h1,h2,h3⟩=>⟨h1,h2.symm,h3⟩
     clear e1 e2 e3 e4 hL bo;go_upto_region 11 with fail
     obtain⟨D,hD⟩:∃D,D=y0.drew:=⟨_,rfl⟩;have ag:Bt y0 D:=by rw[hD];exact AN y0 1
     have aX:=AA (a8.out.same ag);have aI:=ai.out.same ag;clear ab aa ag a8 ai;refine Vb ?_;refine Va (S:=λV=>Chg (λj=>¬U j) y0 V) kr (by rw[<-hD];exact aI) (λhHeld=>?_);rw[<-hD];clear hD hHeld;refine tkB 0 af.out ?_;refine tkB 1 af.out ?_;refine tkB 2 af.out ?_;refine rdy 3 (λK hK=>?_);go_simp
     go_at_call 29;refine(KE.out D aX.out).mono ?_;rintro e u3 ⟨⟨a9,c9,rfl,hs⟩,aO,hb⟩
     have ay:=aI.same hb;have HS:=AA hs;refine hK.out _ _ ay (λh_=>?_);clear hK K h_ hb aI aX hs
     try simp only[pq]
     refine rdy 4 (λK hK=>?_);go_simp
     go_at_call 43;refine(KF.out u3 a9 c9 HS.out).mono ?_;rintro e u4 ⟨rfl,rfl⟩
     refine hK.out _ _ ay (λh_=>?_);clear hK K h_ HS KE KF
     try simp only[pq]
     refine tkA 5 ?_;refine tkA 6 ?_;refine tkA 7 ?_;refine tkA 8 ?_;refine tkA 9 ?_;refine Vd kr ?_ _;refine At ?_;have ar:=AA aO;have ah:=AA ay;clear aO ay;obtain⟨ab,aa⟩:=af.out _ ah.out
     go_wp2_with fail
     refine(KP.out _ ar.out).mono ?_;rintro e u5 ⟨rfl,al,ao⟩;have a2:=AA al;have C:=AA (ah.out.then ao);clear ab aa al ao ar ah KP
     go_wp2_with fail
     refine(KS.out _ a2.out).mono ?_;rintro e u6 ⟨rfl,ak,am⟩;have ad:=AA ak;have ae:=AA (C.out.then am);clear ak am a2 C KS
     cases pb with
     |true=>
      go_wp2_with fail
      go_meet
      exact⟨_,bb,ad,ae⟩
     |false=>
      obtain rfl:=e5 rfl
      go_wp2_with fail
      go_meet
      exact⟨_,bb,ad,ae⟩
    ·have aN:(x==0)=false:=by simp[aw]
     have aM:decide (x=0)=false:=by simp[aw]
     obtain⟨pn,pb,aE⟩:∃(pn:Int)(pb:Bool),PM c s x y=.tuple #[int i64 pn,bool pb]:=by
      unfold PM;rw[Lb aw]
      split
      ·exact⟨_,_,rfl⟩
      ·exact⟨_,_,rfl⟩
     have KA:Hid (∀V,Two A B c c U s s V->Calls ZP 31 #[pointer (some ⟨A.P,0,none⟩),.agg #[int i64 x,int i64 y]] V λe w'=>e=.returned (.tuple #[int i64 pn,bool pb])/\Two A B c c U (PD c s x y) s w'/\Chg (λj=>¬U j) V w'):=λV N=>by
      have:=N.moves H.out au.out x y
      rwa[aE]at this
     have KB:Hid (∀V,Two A B c c U (PD c s x y) s V->Calls ZP 31 #[pointer (some ⟨B.P,0,none⟩),.agg #[int i64 x,int i64 y]] V λe w'=>e=.returned (.tuple #[int i64 pn,bool pb])/\Two A B c c U (PD c s x y) (PD c s x y) w'/\Chg (λj=>¬U j) V w'):=λV N=>by have:=N.symm.moves H.out au.out x y;rw[aE]at this;exact this.mono λe w' ⟨h1,h2,h3⟩=>⟨h1,h2.symm,h3⟩
     clear aE
     go_wp2_with fail
     refine(KA.out _ a8.out).mono ?_;rintro e u5 ⟨rfl,al,ao⟩;have a2:=AA al;have C:=AA (ai.out.then ao);clear ab aa al ao a8 ai KA;obtain⟨ab,aa⟩:=af.out _ C.out
     go_wp2_with fail
     refine(KB.out _ a2.out).mono ?_;rintro e u6 ⟨rfl,ak,am⟩;have ad:=AA ak;have ae:=AA (C.out.then am);clear ab aa ak am a2 C KB
     go_wp2_with fail
     go_meet
     exact⟨_,aK,ad,ae⟩
   case rest=>
    clear ab aa a8 ai aK af;obtain⟨s',az,b2,b7⟩:=hcut;have a1:=b8.out (i+1) s' az.out om;have HV:=AA (b2.out.view H.out a1 az.out.p);have KV:Hid (∀V,Two A B c c U s' s' V->Calls ZP 34 #[pointer (some ⟨B.P,0,none⟩)] V λe w'=>(∃v0 v3 v4 v6,e=.returned (.agg (vwC v0 v3 v4 v6 (Br c s')))/\VwS w' V.heap.size v0 v3 v4 v6 (Br c s'))/\Two A B c c U s' s' w'/\Bt V w'):=λV N=>(N.symm.view H.out a1 az.out.p).mono λe w' ⟨h1,h2,h3⟩=>⟨h1,h2.symm,h3⟩;have KS:Hid (∀V,Two A B c c U s' s' V->Calls ZP 37 #[pointer (some ⟨A.P,0,none⟩)] V λe w'=>e=.returned (.agg #[.int .u8 (Ow c s').1,int i64 (Ow c s').2])/\Two A B c c U s' s' w'/\Bt V w'):=λV N=>N.status H.out a1;have KR:Hid (∀V,Two A B c c U s' s' V->Calls ZP 37 #[pointer (some ⟨B.P,0,none⟩)] V λe w'=>e=.returned (.agg #[.int .u8 (Ow c s').1,int i64 (Ow c s').2])/\Two A B c c U s' s' w'/\Bt V w'):=λV N=>(N.symm.status H.out a1).mono λe w' ⟨h1,h2,h3⟩=>⟨h1,h2.symm,h3⟩;have KT:Hid (∀V,Two A B c c U s' s' V->Calls ZP 41 #[pointer (some ⟨A.P,0,none⟩)] V λe w'=>(∃v,e=.returned v/\Ax w' V.heap.size v s'.took)/\Two A B c c U s' s' w'/\Bt V w'):=λV N=>N.took a1;have KU:Hid (∀V,Two A B c c U s' s' V->Calls ZP 41 #[pointer (some ⟨B.P,0,none⟩)] V λe w'=>(∃v,e=.returned v/\Ax w' V.heap.size v s'.took)/\Two A B c c U s' s' w'/\Bt V w'):=λV N=>(N.symm.took a1).mono λe w' ⟨h1,h2,h3⟩=>⟨h1,h2.symm,h3⟩;have aW:Hid (s'.took.length<=1000000):=a1.tol2;clear a1 b2
    go_wp2_with fail
    refine HV.out.mono ?_;rintro e u1 ⟨⟨va,vb,vc,vd,rfl,aj⟩,Y,Z⟩;have bi:=AA aj;have b0:=AA Y;have b6:=AA (b7.out.same Z);clear aj Y Z HV b7
    go_wp2_with fail
    refine(KV.out _ b0.out).mono ?_;rintro e u2 ⟨⟨xa,xb,xc,xd,rfl,aj⟩,Y,Z⟩;have bh:=AA (bi.out.below Z);have be:=AA aj;have a8:=AA Y;have b5:=AA (b6.out.same Z);clear aj Y Z b0 b6 bi KV
    go_wp2_with fail
    refine(aqQ _ _ _ _ _ _ _ _ _ _ bh.out be.out).mono ?_;rintro e u3 ⟨rfl,Z⟩;have ar:=AA (a8.out.same Z);have ah:=AA (b5.out.same Z);clear bh be Z a8 b5
    go_wp2_with fail
    refine(KS.out _ ar.out).mono ?_;rintro e u4 ⟨rfl,Y,Z⟩;have aZ:=AA Y;have b4:=AA (ah.out.same Z);clear Y Z ar ah KS
    go_wp2_with fail
    refine(KR.out _ aZ.out).mono ?_;rintro e u5 ⟨rfl,Y,Z⟩;have a2:=AA Y;have C:=AA (b4.out.same Z);clear Y Z aZ b4 KR
    generalize (Ow c s').1=z1
    generalize (Ow c s').2=z2
    have aP:=ar1 z1 z2;have bm:=aqE
    go_wp2_with fail
    refine(KT.out _ a2.out).mono ?_;rintro e u6 ⟨⟨v,rfl,hv⟩,Y,Z⟩;obtain⟨a6,c6,rfl,_,hs⟩:=SlK.own hv;have bg:=AA hs;have ad:=AA Y;have ae:=AA (C.out.same Z);clear hv hs Y Z a2 C KT aP bm
    go_wp2_with fail
    refine(KU.out _ ad.out).mono ?_;rintro e u7 ⟨⟨v,rfl,hv⟩,Y,Z⟩;obtain⟨a7,c7,rfl,_,hs⟩:=SlK.own hv;have bf:=AA (bg.out.below Z);have bd:=AA hs;have aY:=AA Y;have b3:=AA (ae.out.same Z);clear hv hs Y Z ad ae bg KU
    go_wp2_with fail
    refine(apY a6 a7 _ c6 _ c7 _ _ u7 bf.out bd.out (by have:=aW.out;omega)).mono ?_;rintro e u8 ⟨rfl,Z⟩;rw[Lz rfl];have bp:=AA (aY.out.same Z);have bq:=AA (b3.out.same Z);clear Z aY b3 bf bd aW
    go_wp2_with fail
    go_roundw
    case rel=>exact⟨i+1,s',by omega,by go_num,az,AA (bu.out _ _ bp.out),AA (bv.out _ bq.out)⟩
    case measure=>simp[intOf];omega
  ·obtain rfl:i=k:=by omega
   have hd:decide ((i:Int)<(i:Int))=false:=by simp
   go_wp2_with fail
   refine(PV _).mono ?_;rintro e u1 ⟨rfl,Z⟩
   go_wp2_with fail
   go_ret;exact⟨rfl,HB.out.trans ((HL.out.trans (Z.mono HL.out.size)).mono HB.out.size)⟩
section
variable {fold:Bool}{wss:La}
theorem aiO(Y:An fold wss=true):∃M:Nat,Au wss=(M:Int)/\(∀y∈wss,y.length<=M)/\1<=M/\M<=32:=by obtain⟨M,h1,h2,h3⟩:=acs wss;refine⟨M,h1,h2,?_,h3 32 (λv Z=>((EI Y).2.2.1 v Z).2)⟩;obtain⟨_,h4,h5,_⟩:=EI Y;obtain⟨v,Z⟩:=List.exists_mem_of_ne_nil _ h4;have:=(h5 v Z).1;have:=h2 v Z;omega
end
theorem apW(fold:Bool)(a:Option Addr)(D A:Nat)(wk bl rg N J X fr:Int)(br:Bool)(b:Option Addr)(n cb:Nat)(d:Option Addr)(m cd:Nat)(f:Option Addr)(k cf:Nat)(wss U:La)(w:World)(hA:Wds w a D wss)(hR:Wds w b n U)
  (Z:PE fold wss U m k=false∨Ce wk bl rg N J X fr=false) :
  Calls ZP 10 #[.agg (AM fold a D A),.agg (Ee wk bl rg N J X fr),bool br,slice b n cb,slice d m cd,slice f k cf] w λe w'=>e=.returned (bool true)/\Bt w w':=by
 obtain⟨W,hW⟩:∃W,W=(w.alloc (.cells (AM fold a D A) 24)).alloc (.cells (Ee wk bl rg N J X fr) 26):=⟨_,rfl⟩;have hO:Bx w.heap.size [.cells (AM fold a D A) 24,.cells (Ee wk bl rg N J X fr) 26] W:=by rw[hW];exact((Bx.nil _ w).snoc _ rfl).snoc _ sm
 have H:Bt w W:=by rw[hW];exact(AL w _).alloc (AL w _).size _
 obtain⟨S0,C⟩:∃x,(w.alloc (.cells (AM fold a D A) 24)).heap.size=x:=⟨_,rfl⟩;have y:S0=w.heap.size+1:=by rw[<-C];simp
 have HC:Hid (∀V,Bt W V->V.cell? ⟨w.heap.size,0,none⟩=some (bool fold)/\V.cell? ⟨w.heap.size,1,none⟩=some (slice a D A)/\V.cell? ⟨w.heap.size+1,0,none⟩=some (int i64 wk)/\V.cell? ⟨w.heap.size+1,1,none⟩=some (int i64 bl)/\V.cell? ⟨w.heap.size+1,2,none⟩=some (int i64 rg)/\V.cell? ⟨w.heap.size+1,3,none⟩=some (int i64 N)/\V.cell? ⟨w.heap.size+1,4,none⟩=some (int i64 J)/\V.cell? ⟨w.heap.size+1,5,none⟩=some (int i64 X)/\V.cell? ⟨w.heap.size+1,6,none⟩=some (int i64 fr)):=λV hV=>by have h:=hO.below hV;exact⟨h.cell (i:=0) rfl rfl,h.cell (i:=0) rfl rfl,h.cell (i:=1) rfl rfl,h.cell (i:=1) rfl rfl,h.cell (i:=1) rfl rfl,h.cell (i:=1) rfl rfl,h.cell (i:=1) rfl rfl,h.cell (i:=1) rfl rfl,h.cell (i:=1) rfl rfl⟩
 rw[<-y]at HC;have z:=AA (apZ fold a D A b n cb d m cd f k cf wss U W (hA.below H) (hR.below H));have k2:Hid (∀V,Calls ZP 25 #[.agg #[int i64 wk,int i64 bl,int i64 rg,int i64 N,int i64 J,int i64 X,int i64 fr]] V λe w'=>e=.returned (bool (Ce wk bl rg N J X fr))/\Bt V w'):=λV=>afn wk bl rg N J X fr V;obtain⟨S,hS⟩:∃S,PE fold wss U m k=S:=⟨_,rfl⟩;rw[hS]at z Z;have HB:=AA H;obtain⟨q0,q1,q2,q3,q4,q5,q6,j,s⟩:=HC.out W (AH _ _);clear hA hR hO H hS y
 cases S with
 |false=>
  go_enter func10,ntmps10;go_upto_region 1 with fail
  rw[<-hW];clear hW C
  go_wp2_with fail
  refine z.out.mono ?_;rintro e v ⟨rfl,Y⟩;have B:=AA (HB.out.trans (Y.mono HB.out.size));clear q0 q1 q2 q3 q4 q5 q6 j s Y z
  go_wp2_with fail
  refine(PV v).mono ?_;rintro e w2 ⟨rfl,I⟩;go_wp2;go_ret;exact⟨rfl,B.out.trans (I.mono B.out.size)⟩
 |true=>
  have hc:Ce wk bl rg N J X fr=false:=by
   rcases Z with h|h
   ·cases h
   ·exact h
  rw[hc]at k2;clear hc Z;go_enter func10,ntmps10;go_upto_region 1 with fail
  rw[<-hW];clear hW C
  go_wp2_with fail
  refine z.out.mono ?_;rintro e v ⟨rfl,Y⟩;have B:=AA Y;clear q0 q1 q2 q3 q4 q5 q6 j s Y z;obtain⟨q0,q1,q2,q3,q4,q5,q6,j,s⟩:=HC.out v B.out
  go_wp2_with fail
  refine(k2.out v).mono ?_;rintro e w2 ⟨rfl,I⟩;have X2:=AA (HB.out.trans ((B.out.trans (I.mono B.out.size)).mono HB.out.size));clear q0 q1 q2 q3 q4 q5 q6 j s I k2 B
  go_wp2_with fail
  refine(PV w2).mono ?_;rintro e w3 ⟨rfl,a1⟩;go_wp2;go_ret;exact⟨rfl,X2.out.trans (a1.mono X2.out.size)⟩
theorem aqf{fold:Bool}{wss Z:La}{wk bl rg X V Y fr:Int}{m k:Nat}(br:Bool)(ans:List Bool)(h:PE fold wss Z m k=true)(J:Ce wk bl rg X V Y fr=true):∃c:CfM,wk=c.W/\bl=c.K/\rg=c.R/\X=c.Q/\V=c.O/\Y=c.S/\fr=c.F/\c.br=br/\c.ans=ans/\Au wss=(c.L:Int)/\c.L<=32/\c.scan=scF fold wss c.S:=by obtain⟨_,p2,_⟩:=apU h;obtain⟨W,K,R,Q,O,S,F,h1,h2,h3,h4,h5,h6,h7⟩:=amg J;obtain⟨M,N,H,I,U⟩:=aiO (by rw[NF];exact p2);exact⟨⟨W,K,R,Q,O,S,F,M,scF fold wss S,br,ans⟩,h1,h2,h3,h4,h5,h6,h7,rfl,rfl,N,U,rfl⟩
theorem aq1(fold:Bool)(a:Option Addr)(Y H:Nat)(wk bl rg V U X fr:Int)(br:Bool)(b:Option Addr)(n I:Nat)(d:Option Addr)(m J:Nat)(f:Option Addr)(k N:Nat)(wss Z:La)(ans:List Bool)(z:List AF)(w:World)(A:Wds w a Y wss)(B:Wds w b n Z)(j:Sl1 bool w d m ans)(s:Hts w f k z) :Calls ZP 10 #[.agg (AM fold a Y H),.agg (Ee wk bl rg V U X fr),bool br,slice b n I,slice d m J,slice f k N] w λe w'=>e=.returned (bool true)/\Bt w w':=by
 cases D:PE fold wss Z m k with
 |false=>exact apW fold a Y H wk bl rg V U X fr br b n I d m J f k N wss Z w A B (.inl D)
 |true=>
  cases C:Ce wk bl rg V U X fr with
  |false=>exact apW fold a Y H wk bl rg V U X fr br b n I d m J f k N wss Z w A B (.inr C)
  |true=>
   obtain⟨c,rfl,rfl,rfl,rfl,rfl,rfl,rfl,rfl,rfl,v,x,y⟩:=aqf br ans D C;exact aq5 c fold a Y H b n I d m J f k N wss Z z w A B j s D C v x y
end Go.Proofs.YtaamacoicojhnaaGreat
