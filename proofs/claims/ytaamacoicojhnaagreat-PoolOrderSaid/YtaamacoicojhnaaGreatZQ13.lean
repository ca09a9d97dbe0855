/- Proofs over the given program, part 13. -/
import Derived.Test.YtaamacoicojhnaaGreatZQ12
set_option linter.unusedVariables false
set_option linter.unusedSimpArgs false
set_option maxRecDepth 100000
set_option maxHeartbeats 16000000
open Go.Proofs.Tryz
open Go.Proofs.Tryz renaming prog→ZP
open Go.World(cell? frozen?)
open Option renaming some→E,none→O
open Go.Value renaming int→R,slice→T,pointer→L,bool→i6,tuple→ta,agg→i8
open Go.IntKind renaming i64→K
open Bool renaming false→M,true→G
open Go renaming World→Wa,Value→Vk
open Go.Ending renaming returned→ra
open Go.Obj renaming cells→i7
open List renaming length→lc
namespace Go.Proofs.YtaamacoicojhnaaGreat
open Go.RowKit Go.Sort
theorem aqf{fold:Bool}{wss Z:Lb}{wk bl rg X V Y fr:Int}{m k:Nat}(br:Bool)(ans:List Bool)(h:PE fold wss Z m k=G)(J:Ce wk bl rg X V Y fr=G):∃c:CfM,wk=c.W/\bl=c.K/\rg=c.R/\X=c.Q/\V=c.O/\Y=c.S/\fr=c.F/\c.br=br/\c.ans=ans/\Au wss=(c.L:Int)/\c.L<=32/\c.scan=scF fold wss c.S:=by obtain⟨_,p2,_⟩:=apU h;obtain⟨W,KB,Ra,Q,Ob,S,F,h1,h2,h3,h4,h5,h6,h7⟩:=amg J;obtain⟨MH,N,H,I,U⟩:=aiO (by rw[NF];exact p2);exact⟨⟨W,KB,Ra,Q,Ob,S,F,MH,scF fold wss S,br,ans⟩,h1,h2,h3,h4,h5,h6,h7,rfl,rfl,N,U,rfl⟩
theorem arT(fold:Bool)(a:Option Addr)(D A:Nat)(wk bl rg N J X fr:Int)(br:Bool)(b:Option Addr)(n cb:Nat)(d:Option Addr)(m cd:Nat)(f:Option Addr)(k cf:Nat)(wss U:Lb)(w:Wa)(hA:Wds w a D wss)(hR:Wds w b n U)
  (Z:PE fold wss U m k=M∨Ce wk bl rg N J X fr=M) :
  Calls ZP 7 #[i8 (AM fold a D A),i8 (Ee wk bl rg N J X fr),i6 br,T b n cb,T d m cd,T f k cf] w λe w'=>e=ra (i6 G)/\La w w':=by
 obtain⟨W,hW⟩:∃W,W=(w.alloc (i7 (AM fold a D A) 24)).alloc (i7 (Ee wk bl rg N J X fr) 26):=⟨_,rfl⟩;have hO:Bx w.heap.size [i7 (AM fold a D A) 24,i7 (Ee wk bl rg N J X fr) 26] W:=by rw[hW];exact((Bx.nil _ w).snoc _ rfl).snoc _ sm
 have H:La w W:=by rw[hW];exact(AL w _).alloc (AL w _).size _
 obtain⟨S0,C⟩:∃x,(w.alloc (i7 (AM fold a D A) 24)).heap.size=x:=⟨_,rfl⟩;have s:S0=w.heap.size+1:=by rw[<-C];simp
 have HC:Hid (∀V,La W V->V.cell? ⟨w.heap.size,0,O⟩=E (i6 fold)/\V.cell? ⟨w.heap.size,1,O⟩=E (T a D A)/\V.cell? ⟨w.heap.size+1,0,O⟩=E (R K wk)/\V.cell? ⟨w.heap.size+1,1,O⟩=E (R K bl)/\V.cell? ⟨w.heap.size+1,2,O⟩=E (R K rg)/\V.cell? ⟨w.heap.size+1,3,O⟩=E (R K N)/\V.cell? ⟨w.heap.size+1,4,O⟩=E (R K J)/\V.cell? ⟨w.heap.size+1,5,O⟩=E (R K X)/\V.cell? ⟨w.heap.size+1,6,O⟩=E (R K fr)):=λV hV=>by have h:=hO.below hV;exact⟨h.cell (i:=0) rfl rfl,h.cell (i:=0) rfl rfl,h.cell (i:=1) rfl rfl,h.cell (i:=1) rfl rfl,h.cell (i:=1) rfl rfl,h.cell (i:=1) rfl rfl,h.cell (i:=1) rfl rfl,h.cell (i:=1) rfl rfl,h.cell (i:=1) rfl rfl⟩
 rw[<-s]at HC;have v:=AA (apZ fold a D A b n cb d m cd f k cf wss U W (hA.below H) (hR.below H));have k2:Hid (∀V,Calls ZP 25 #[i8 #[R K wk,R K bl,R K rg,R K N,R K J,R K X,R K fr]] V λe w'=>e=ra (i6 (Ce wk bl rg N J X fr))/\La V w'):=λV=>afn wk bl rg N J X fr V;obtain⟨S,hS⟩:∃S,PE fold wss U m k=S:=⟨_,rfl⟩;rw[hS]at v Z;have HB:=AA H;obtain⟨q0,q1,q2,q3,q4,q5,q6,q7,q8⟩:=HC.out W (AH _ _);clear hA hR hO H hS s
 cases S with
 |false=>
  go_enter func7,ntmps7;go_upto_region 1 with fail
  rw[<-hW];clear hW C
  go_wp2_with fail
  refine v.out.mono ?_;rintro e j ⟨rfl,Y⟩;have B:=AA (HB.out.trans (Y.mono HB.out.size));clear q0 q1 q2 q3 q4 q5 q6 q7 q8 Y v
  go_wp2_with fail
  refine(PV j).mono ?_;rintro e w2 ⟨rfl,I⟩;go_wp2;go_ret;exact⟨rfl,B.out.trans (I.mono B.out.size)⟩
 |true=>
  have hc:Ce wk bl rg N J X fr=M:=by
   rcases Z with h|h
   ·cases h
   ·exact h
  rw[hc]at k2;clear hc Z;go_enter func7,ntmps7;go_upto_region 1 with fail
  rw[<-hW];clear hW C
  go_wp2_with fail
  refine v.out.mono ?_;rintro e j ⟨rfl,Y⟩;have B:=AA Y;clear q0 q1 q2 q3 q4 q5 q6 q7 q8 Y v;obtain⟨q0,q1,q2,q3,q4,q5,q6,q7,q8⟩:=HC.out j B.out
  go_wp2_with fail
  refine(k2.out j).mono ?_;rintro e w2 ⟨rfl,I⟩;have X2:=AA (HB.out.trans ((B.out.trans (I.mono B.out.size)).mono HB.out.size));clear q0 q1 q2 q3 q4 q5 q6 q7 q8 I k2 B
  go_wp2_with fail
  refine(PV w2).mono ?_;rintro e w3 ⟨rfl,a1⟩;go_wp2;go_ret;exact⟨rfl,X2.out.trans (a1.mono X2.out.size)⟩
theorem arU(fold:Bool)(a:Option Addr)(Y H:Nat)(wk bl rg V U X fr:Int)(br:Bool)(b:Option Addr)(n I:Nat)(d:Option Addr)(m J:Nat)(f:Option Addr)(k N:Nat)(wss Z:Lb)(ans:List Bool)(v:List AF)(w:Wa)(A:Wds w a Y wss)(B:Wds w b n Z)(hD:Sl1 i6 w d m ans)(hM:Hts w f k v) :Calls ZP 7 #[i8 (AM fold a Y H),i8 (Ee wk bl rg V U X fr),i6 br,T b n I,T d m J,T f k N] w λe w'=>e=ra (i6 G)/\La w w':=by
 cases D:PE fold wss Z m k with
 |false=>exact arT fold a Y H wk bl rg V U X fr br b n I d m J f k N wss Z w A B (.inl D)
 |true=>
  cases C:Ce wk bl rg V U X fr with
  |false=>exact arT fold a Y H wk bl rg V U X fr br b n I d m J f k N wss Z w A B (.inr C)
  |true=>
   obtain⟨c,rfl,rfl,rfl,rfl,rfl,rfl,rfl,rfl,rfl,l1,j,s⟩:=aqf br ans D C;exact arW c fold a Y H b n I d m J f k N wss Z v w A B hD hM D C l1 j s
end Go.Proofs.YtaamacoicojhnaaGreat
