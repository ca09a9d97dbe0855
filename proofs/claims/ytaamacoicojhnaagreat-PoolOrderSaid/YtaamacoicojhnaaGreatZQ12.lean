/- Proofs over the given program, part 12. -/
import Derived.Test.YtaamacoicojhnaaGreatZQ11
set_option linter.unusedVariables false
set_option linter.unusedSimpArgs false
set_option maxRecDepth 100000
set_option maxHeartbeats 16000000
open Go.Proofs.Tryz
open Go.Proofs.Tryz renaming prog→ZP
open Go.World(cell? frozen?)
open Option renaming some→E,none→O
open Go.Value renaming int→R,slice→T,pointer→L,bool→i6,tuple→ta,agg→i8
open Go.IntKind renaming i64→K
open Bool renaming false→M,true→G
open Go renaming World→Wa,Value→Vk
open Go.Ending renaming returned→ra
open Go.Obj renaming cells→i7
open List renaming length→lc
namespace Go.Proofs.YtaamacoicojhnaaGreat
open Go.RowKit Go.Sort
theorem as5{w:Wa}{a:Option Addr}{n m:Nat}{l:List AF}(h:SlK 2 w a n (AV l))(J:m<=n):SlK 2 w a m (AV (l.take m)):=by
 obtain⟨h1,h2⟩:=h;rw[GF]at h1;refine⟨by rw[GF,Ag];omega,?_⟩
 by_cases h0:m=0
 ·exact .inl h0
 ·obtain⟨b,off,e,Z,N⟩:=h2.resolve_left om;refine .inr ⟨b,off,e,Z,λi u Y=>N i u ?_⟩;have X:=(AP.1 Y).1;rw[<-Dx m l,JT,By X];exact Y
theorem One.far{A:PAd}{c:CfM}{s:PlM}{F Y:Nat->Prop}{w w':Wa}(h:One A c F s w)(Z:Chg Y w w')(X:∀k,Y k->F k):One A c F s w':=by obtain⟨o,h1,h2⟩:=h;exact⟨o,h1.far Z λk _ hk=>(h2 k (X k hk)).2,λk hk=>⟨Af (h2 k hk).1 Z.size,(h2 k hk).2⟩⟩
def KpU(a:Nat)(U V:Wa):Prop:=U.heap.size<=V.heap.size/\∀k,a<=k->k<U.heap.size->V.heap[k]?=U.heap[k]?
section
variable {a:Nat}{U V V':Wa}
theorem KpU.below(h:KpU a U V)(Z:La V V'):KpU a U V':=⟨AS h.1 Z.size,λk h1 h2=>(Z.block k (Af h2 h.1)).trans (h.2 k h1 h2)⟩
theorem KpU.chg{Y:Nat->Prop}(h:KpU a U V)(Z:Chg Y V V')(X:∀k,a<=k->k<U.heap.size->¬Y k):KpU a U V':=⟨AS h.1 Z.size,λk h1 h2=>(Z.block k (Af h2 h.1) (X k h1 h2)).trans (h.2 k h1 h2)⟩
theorem SlK.kpU{ad:Option Addr}{n k:Nat}{cs:List Vk}(h:SlK k U ad n cs)(X:∀q,ad=E q->a<=q.block)(hk:KpU a U V):SlK k V ad n cs:=by
 refine⟨h.1,?_⟩
 by_cases h0:n=0
 ·exact .inl h0
 ·obtain⟨b,off,e,Z,N⟩:=h.2.resolve_left h0;refine .inr ⟨b,off,e,Af Z hk.1,λi u Y=>?_⟩;rw[BC (a:=⟨b,off+i,O⟩) (hk.2 b (X _ e) Z)];exact N i u Y
end
theorem asa(a b:Int)(W:Wa):(binOp .eql 66 (i8 #[.int .u8 a,R K b]) (i8 #[.int .u8 a,R K b])).run ZP W=.ok (i6 G) W:=by
 rw[run_eql_struct,run_equalIn_agg W 9999 66 _ _ kr kr,apV 9999 _ _ _ [⟨ "Kind",5,0,M,"","",0⟩,⟨ "At",3,1,M,"","",0⟩] aqk];have h0:∀W:Wa,(part 5 #[.int .u8 a,R K b] 0).run ZP W=.ok (.int .u8 a) W:=λW=>by kernel_rfl
 have h1:∀W:Wa,(part 3 #[.int .u8 a,R K b] 1).run ZP W=.ok (R K b) W:=λW=>by kernel_rfl
 simp[Op.eqFields,IN,Sem.run_ite,IM,h0,h1,Result.andThen_ok,run_equalIn_int _ _ _ _ _ _ _ underlying3,run_equalIn_int _ _ _ _ _ _ _ underlying5]
theorem arW(c:CfM)(fold:Bool)(a:Option Addr)(la ca:Nat)(b:Option Addr)(n cb:Nat)(d:Option Addr)(m cd:Nat)(f:Option Addr)(k cf:Nat)(wss Z:Lb)(mv:List AF)(w:Wa)(hA:Wds w a la wss)(hR:Wds w b n Z)(hD:Sl1 i6 w d m c.ans)(hM:Hts w f k mv)
  (aG:PE fold wss Z m k=G) (ab:Ce c.W c.K c.R c.Q c.O c.S c.F=G) (hL:Au wss=(c.L:Int)) (aq:c.L<=32) (ax:c.scan=scF fold wss c.S) :
  Calls ZP 7 #[i8 (AM fold a la ca),i8 (Ee c.W c.K c.R c.Q c.O c.S c.F),i6 c.br,T b n cb,T d m cd,T f k cf] w λe w'=>e=ra (i6 G)/\La w w':=by
 obtain⟨W,hW⟩:∃W,W=(w.alloc (i7 (AM fold a la ca) 24)).alloc (i7 (Ee c.W c.K c.R c.Q c.O c.S c.F) 26):=⟨_,rfl⟩;have hO:Bx w.heap.size [i7 (AM fold a la ca) 24,i7 (Ee c.W c.K c.R c.Q c.O c.S c.F) 26] W:=by rw[hW];exact((Bx.nil _ w).snoc _ rfl).snoc _ sm
 have N:La w W:=by rw[hW];exact(AL w _).alloc (AL w _).size _
 obtain⟨S0,bf⟩:∃x,(w.alloc (i7 (AM fold a la ca) 24)).heap.size=x:=⟨_,rfl⟩;have be:S0=w.heap.size+1:=by rw[<-bf];simp
 have HC:Hid (∀V,La W V->V.cell? ⟨w.heap.size,0,O⟩=E (i6 fold)/\V.cell? ⟨w.heap.size,1,O⟩=E (T a la ca)/\V.cell? ⟨w.heap.size+1,0,O⟩=E (R K c.W)/\V.cell? ⟨w.heap.size+1,1,O⟩=E (R K c.K)/\V.cell? ⟨w.heap.size+1,2,O⟩=E (R K c.R)/\V.cell? ⟨w.heap.size+1,3,O⟩=E (R K c.Q)/\V.cell? ⟨w.heap.size+1,4,O⟩=E (R K c.O)/\V.cell? ⟨w.heap.size+1,5,O⟩=E (R K c.S)/\V.cell? ⟨w.heap.size+1,6,O⟩=E (R K c.F)):=λV C=>by have h:=hO.below C;exact⟨h.cell (i:=0) rfl rfl,h.cell (i:=0) rfl rfl,h.cell (i:=1) rfl rfl,h.cell (i:=1) rfl rfl,h.cell (i:=1) rfl rfl,h.cell (i:=1) rfl rfl,h.cell (i:=1) rfl rfl,h.cell (i:=1) rfl rfl,h.cell (i:=1) rfl rfl⟩
 rw[<-be]at HC;obtain⟨p1,p2,p4,p5,p6,p7,p8⟩:=apU aG;have p2:An fold wss=G:=by rw[NF];exact p2
 have a7:=aok ab aq;obtain⟨g1,g2,g3⟩:=ako p1 fold;have bL:=hA.len;have bK:=hR.len;have aJ:(AB wss).length<=400:=Hx (Fy.2 ⟨IY p2,rfl,rfl⟩);have aI:=ao2 ax aJ;have bg:400*(c.K+c.wm)<=1000000:=by
  have h1:=a7.K;have h2:c.wm<=31:=by unfold CfM.wm;omega
  omega
 have ac:∀x∈Z,FS x/\lc x<=120:=λx hx=>⟨λy hy=>hR.bytes x hx y hy,p8 x hx⟩;obtain⟨MH,l1,l2,l3,_⟩:=aiO p2;obtain rfl:MH=c.L:=by omega
 have aF:Cg c fold wss Z.flatten:=⟨p2,ax,hL,l2,l3,a7.K,a7.S,by have:=Gi.1 ab;omega,by omega⟩;have aV:Hid (Pn c fold wss Z.flatten (c.K+c.wm) 120 0 (Bn c Z)):=Pn.new a7.W.1 Z rfl ac;have aA:Hid (∀i s,Pn c fold wss Z.flatten (c.K+c.wm) 120 i s->i<=3900->OkM c s):=λi s h hi=>h.y.t.ok a7 hi bg om aI;have aQ:Hid (∀i s,Pn c fold wss Z.flatten (c.K+c.wm) 120 i s->∀x y,Pn c fold wss Z.flatten (c.K+c.wm) 120 (i+1) (PD c s x y)):=λi s h x y=>h.mov aF aI x y;have av:Hid (∀i s,Pn c fold wss Z.flatten (c.K+c.wm) 120 i s->s.cancelled=M->Fd s=G->s.took=EL fold wss (c.F:Int) Z.flatten/\s.read=lc Z.flatten):=λi s h h1 h2=>h.fin aF h1 h2;obtain⟨b1,b4⟩:=Fv p2;have h0:∀y∈wss,lc y≠0:=λy hy=>((EI p2).2.2.1 y hy).1;have H:(EL fold wss (c.F:Int) Z.flatten).length<=1000000:=by rw[Lj p2];have hp:0<(AB wss).length:=(AP.1 (CM wss)).1;exact AS (Mx _ _ _ hp) (AS (GR aJ p5) om)
 have hF:=Gi.1 ab;have KJ:Hid (∀V,La W V->Calls ZP 12 #[T b n cb] V λe w'=>∃(a1:Option Addr)(c1:Nat),e=ra (T a1 (lc Z.flatten) c1)/\lc Z.flatten<=c1/\Bys w' a1 (lc Z.flatten) Z.flatten/\La V w'):=λV C=>act b n cb Z V ((hR.below N).below C) om om;have KO:Hid (∀V (a1:Option Addr) (c1:Nat),La W V->lc Z.flatten<=c1->Bys V a1 (lc Z.flatten) Z.flatten->Calls ZP 42 #[i8 #[i6 fold,T a la ca],R K c.F,T a1 (lc Z.flatten) c1] V λe w'=>∃v,e=ra v/\Ax w' V.heap.size v (EL fold wss (c.F:Int) Z.flatten)/\La V w'):=λV a1 c1 C hc hX=>
  as7 fold a la ca c.F a1 _ c1 Z.flatten wss V ((hA.below N).below C) hX hc om om (λx hx=>by have:=g2 x hx;omega) b1 h0 b4 om H
 have bA:Hid (∀V,La W V->Hts V f k mv):=λV C=>(hM.below N).below C;have k1:Hid (Calls ZP 22 #[i8 (AM fold a la ca),T b n cb,T d m cd,T f k cf] W λe w'=>e=ra (i6 G)/\La W w'):=by
  have:=apZ fold a la ca b n cb d m cd f k cf wss Z W (hA.below N) (hR.below N)
  rwa[aG]at this
 have k2:Hid (∀V,Calls ZP 25 #[i8 #[R K c.W,R K c.K,R K c.R,R K c.Q,R K c.O,R K c.S,R K c.F]] V λe w'=>e=ra (i6 G)/\La V w'):=λV=>by
  have:=afn c.W c.K c.R c.Q c.O c.S c.F V
  rwa[ab]at this
 have k3:Hid (∀V,La W V->Calls ZP 24 #[i8 #[i6 fold,T a la ca],i8 #[R K c.W,R K c.K,R K c.R,R K c.Q,R K c.O,R K c.S,R K c.F],i6 c.br,T b n cb,T d m cd] V λe w'=>∃A o,e=ra (L (E ⟨A.P,0,O⟩))/\AI A c o (Bn c Z) w'/\La V w'/\∀k,k<V.heap.size->o k=1000000):=λV C=>
  apT c fold a la ca b n cb d m cd wss Z V ((hA.below N).below C) ((hR.below N).below C).rds ((hD.below N).below C) p2 om (λx hx=>by have:=g2 x hx;omega) om hL aq ax a7 ab om (λx hx=>by have:=p8 x hx;omega) om
 obtain⟨TX,aK⟩:∃t,Z.flatten=t:=⟨_,rfl⟩;obtain⟨NT,aM⟩:∃n,lc TX=n:=⟨_,rfl⟩;have c8:NT<=120:=by rw[<-aM,<-aK];omega
 rw[aK]at aV aA aQ av KJ KO H;rw[aM]at av KJ KO;have ar:=AA a7;have HB:=AA N;have c9:k<=300:=p7;obtain⟨q0,q1,q2,q3,q4,q5,q6,q7,q8⟩:=HC.out W (AH _ _);clear hA hR hD hM aG ab hL aq ax hO N be p1 p2 p4 p5 p6 p7 p8 a7 g1 g2 g3 bL bK aJ aI bg ac aF l1 l2 l3 b1 b4 h0 hF aK aM;go_enter func7,ntmps7;go_upto_region 1 with fail
 rw[<-hW];clear hW bf
 go_wp2_with fail
 refine k1.out.mono ?_;rintro e w1 ⟨rfl,bb⟩;have X1:=AA bb;clear q0 q1 q2 q3 q4 q5 q6 q7 q8 bb k1;obtain⟨q0,q1,q2,q3,q4,q5,q6,q7,q8⟩:=HC.out w1 X1.out
 go_wp2_with fail
 refine(k2.out _).mono ?_;rintro e w2 ⟨rfl,ao⟩;have X2:=AA (X1.out.trans (ao.mono X1.out.size));clear q0 q1 q2 q3 q4 q5 q6 q7 q8 ao k2;obtain⟨q0,q1,q2,q3,q4,q5,q6,q7,q8⟩:=HC.out w2 X2.out
 go_wp2_with fail
 refine(k3.out _ X2.out).mono ?_;rintro e u1 ⟨A,o,rfl,hp,I,hz⟩;have Y1:=AA (X2.out.trans (I.mono X2.out.size));have bt:Hid (One A c (λj=>j<W.heap.size) (Bn c Z) u1):=One.mk hp Y1.out.size λk hk=>hz k (Af hk X2.out.size);clear hp I hz k3 q0 q1 q2 q3 q4 q5 q6 q7 q8;go_upto_region 6 with fail
 go_wp2_with fail
 refine(KJ.out u1 Y1.out).mono ?_;rintro e u2 ⟨a1,c1,rfl,b6,ai,I⟩;have Y2:=AA (Y1.out.trans (I.mono Y1.out.size));have Z2:=AA I;obtain⟨q0,q1,q2,q3,q4,q5,q6,q7,q8⟩:=HC.out u2 Y2.out;have bj:=AA (KO.out u2 a1 c1 Y2.out b6 ai);clear KJ KO ai b6 I;have bz:=AA H;clear H
 go_wp2_with fail
 refine bj.out.mono ?_;rintro e u3 ⟨v,rfl,ho,I⟩;obtain⟨al,cl,rfl,b5,aw⟩:=SlK.own ho;have H:=bz.out;obtain⟨az,aa⟩:∃l,EL fold wss (c.F:Int) TX=l:=⟨_,rfl⟩;obtain⟨NA,ap⟩:∃n,lc az=n:=⟨_,rfl⟩;rw[aa]at aw b5 H av ho;rw[aa];rw[ap]at aw b5 H ho;rw[ap];have b0:∀q,al=E q->u1.heap.size<=q.block:=λq hq=>AS Z2.out.size (ho.lt q.block (by rw[hq];rfl)).1;have bw:Hid (∀V,KpU u1.heap.size u3 V->∀m,m<=NA->SlK 2 V al m (AV (az.take m))):=λV C m hm=>as5 (aw.kpU b0 C) hm;have aO:Hid (∀i s,Pn c fold wss TX (c.K+c.wm) 120 i s->lc s.took<=NA/\az.take (lc s.took)=s.took):=λi s h=>by obtain⟨r,hr⟩:=h.o;rw[aa]at hr;rw[<-ap,<-hr];exact⟨by simp,by simp⟩
 have Y3:=AA (Y2.out.trans (I.mono Y2.out.size));have aD:La u1 u3:=Z2.out.trans (I.mono Z2.out.size);have bq:Hid (One A c (λj=>j<W.heap.size∨u1.heap.size<=j/\j<u3.heap.size) (Bn c Z) u3):=bt.out.more aD λj hj=>hj;have bC:Hid (KpU u1.heap.size u3 u3):=⟨AC _,λ_ _ _=>rfl⟩;have bT:=AA ap;clear aw ho I b0 aa ap bt Y1 Y2 X1 X2 Z2 aD bj q0 q1 q2 q3 q4 q5 q6 q7 q8;go_upto_region 10 with fail
 go_loopw[16,17,18] (λbI bH aE wr=>∃(i:Nat)(s:PlM),i<=k/\aE=R K i/\bH=R K (lc s.took:Nat)/\bI=i6 s.cancelled/\Hid (Pn c fold wss TX (c.K+c.wm) 120 i s)/\Hid (One A c (λj=>j<W.heap.size∨u1.heap.size<=j/\j<u3.heap.size) s wr)/\Hid (KpU u1.heap.size u3 wr)/\Hid (La W wr)) (λ_ _ aE _=>k-(intOf aE).toNat)
 case atStart=>exact⟨0,_,AR _,rfl,rfl,rfl,aV,bq,bC,Y3⟩
 case round=>
  clear aV bq Y3 bC;obtain⟨i,s,ce,rfl,rfl,rfl,HI,HT,HK,HL⟩:=hrel
  by_cases bM:i<k
  ·as_aux_lemma=>
    have hd:decide ((i:Int)<(k:Int))=G:=by simp;omega
    have ci:decide (i<k)=G:=by simp;omega
    have i1:(0:Int)<=(i:Int):=by omega
    have i2:(i:Int)<(k:Int):=by omega
    have ok:=aA.out i s HI.out om;obtain⟨g,of,x,h1,h2,ai,aZ,_⟩:=(bA.out wr HL.out).at_ bM;subst h1;obtain⟨x,y⟩:=x;dsimp only at ai aZ;have HM:=AA (HT.out.moves ar.out ok x y);have au:=AA (aQ.out i s HI.out x y);obtain⟨t1,t2⟩:=as0 (c:=c) (s:=s) x y;obtain⟨s',aH⟩:∃s',PD c s x y=s':=⟨_,rfl⟩;rw[aH]at au t1 t2;obtain⟨p1,p2⟩:=aO.out _ _ au.out;have aP:=AA p2;have a2:Hid (s.cancelled=G->lc s'.took=lc s.took):=λh=>by rw[t2 h]
    rw[aH]at HM;clear ok aH t2 p2 h2
    go_wp2_with fail
    refine HM.out.mono ?_;rintro e w3 ⟨rfl,ht,hc⟩;have ae:=AA ht;have bE:=AA (HK.out.chg hc λj h1 h2 h=>h (.inr ⟨h1,h2⟩));have aT:Hid (La W w3):=HL.out.trans ((hc.mono λk _ h hh=>h (.inl hh)).belF HL.out.size);have ok:=aA.out (i+1) s' au.out om;have bB:=AA (ae.out.took ok);clear HM ht hc HT HK HL HI ai aZ
    go_wp2_with fail
    refine bB.out.mono ?_;rintro e w4 ⟨⟨v,rfl,ho⟩,ht,I⟩;obtain⟨at_,ct,rfl,bN,aj⟩:=SlK.own ho;have bo:=AA ht;have aU:=AA (bE.out.below I);have aS:=AA (aT.out.trans (I.mono aT.out.size));have aN:=AA aj;obtain⟨Ta,hT⟩:∃n,lc s'.took=n:=⟨_,rfl⟩;obtain⟨T0,aL⟩:∃n,lc s.took=n:=⟨_,rfl⟩;obtain⟨cc,a8⟩:∃b,s.cancelled=b:=⟨_,rfl⟩;rw[hT]at bN p1 t1 aN a2 aP;rw[aL]at t1 a2;rw[a8]at a2;rw[hT,aL,a8];have bv:Hid (Calls ZP 40 #[T at_ Ta ct,T al Ta cl] w4 λe w'=>e=ra (i6 G)/\La w4 w'):=by
     have h:=apY at_ al Ta ct Ta cl s'.took (az.take Ta) w4 aN.out (bw.out w4 aU.out Ta p1) om
     rwa[aP.out,Vb rfl]at h
    have e1:decide ((NA:Int)<(Ta:Int))=M:=by simp;omega
    have bQ:decide (NA<Ta)=M:=by simp;omega
    have e2:decide ((Ta:Int)<(T0:Int))=M:=by simp;omega
    have ck:decide (Ta<T0)=M:=by simp;omega
    have e3:cc=G->decide ((T0:Int)<(Ta:Int))=M:=λh=>by have:=a2.out h;simp;omega
    have bi:cc=G->decide (T0<Ta)=M:=λh=>by have:=a2.out h;simp;omega
    have E3:=AA e3;have c7:=AA bi;have j1:(0:Int)<=(Ta:Int):=by omega
    have j2:(Ta:Int)<=(cl:Int):=by omega
    have bR:=AA hT;have af:=AA ok;clear ho ht I aj bB ae bE aT aP aN a8 aL hT e3 bi ok;obtain⟨B3,b3,cm,bh⟩:∃B:Bool,decide ((T0:Int)<(Ta:Int))=B/\decide (T0<Ta)=B/\(cc=G->B=M):=⟨_,rfl,by simp,E3.out⟩;clear E3 c7 a2
    rcases(show cc=M∨cc=G/\B3=M by cases cc with|false=>exact .inl rfl|true=>exact .inr ⟨rfl,bh rfl⟩)with rfl|⟨rfl,rfl⟩
    all_goals
     clear bh
     go_wp2_with fail
     refine bv.out.mono ?_;rintro e w5 ⟨rfl,I⟩;have bm:=AA (bo.out.same I);have bD:=AA (aU.out.below I);have aR:=AA (aS.out.trans (I.mono aS.out.size));have HW:=AA (bm.out.view ar.out af.out au.out.y.t.p);clear I bv bo aU aS
     go_wp2_with fail
     refine HW.out.mono ?_;rintro e w6 ⟨⟨v0,v3,v4,v6,rfl,hv⟩,ht,I⟩;obtain⟨a0,c0,rfl,_,_⟩:=Co hv.r0;obtain⟨a3,c3,rfl,_,_⟩:=Co (enc:=R K) hv.r3;obtain⟨a4,c4,rfl,_,_⟩:=Co (enc:=R K) hv.r4;obtain⟨a6,c6,rfl,_,_⟩:=Co (enc:=R K) hv.r6;have bS:=AA ht;have bX:=AA (bD.out.below I);have bU:=AA (aR.out.trans (I.mono aR.out.size));have ch:∀V,Sem.run ZP (Instr.field 63 (i8 (vwC (T a0 (Br c s').ph.length c0) (T a3 (Br c s').q.length c3) (T a4 (Br c s').rg.length c4) (T a6 (Br c s').live.length c6) (Br c s'))) 10) V=.ok (i6 s'.cancelled) V:=λV=>by kernel_rfl
     clear hv ht I HW bm bD aR
     go_wp2_with fail
     go_roundw
     case rel=>exact⟨i+1,s',by omega,by go_num,by rw[bR.out],rfl,au,bS,bX,bU⟩
     case measure=>simp[intOf];omega
  ·obtain rfl:i=k:=by omega
   as_aux_lemma=>
    have hd:decide ((i:Int)<(i:Int))=M:=by simp
    have af:=AA (aA.out i s HI.out om);have am:=av.out i s HI.out;have bJ:=(aO.out i s HI.out).1;obtain⟨ov,ay⟩:∃b,Fd s=b:=⟨_,rfl⟩;obtain⟨cc,a8⟩:∃b,s.cancelled=b:=⟨_,rfl⟩;obtain⟨br,ac⟩:∃b,c.br=b:=⟨_,rfl⟩;obtain⟨Ta,hT⟩:∃n,lc s.took=n:=⟨_,rfl⟩;have bF:Hid (cc=M->ov=G->Ta=NA/\s.read=NT):=λh1 h2=>by obtain⟨g1,g2⟩:=am (a8.trans h1) (ay.trans h2);rw[<-hT,g1,bT.out];exact⟨rfl,g2⟩
    have bu:Hid (Ow c s=if ov=G then(if cc=G then(3,0) else if br=G then(4,(NT:Int)) else(2,0)) else(1,0)):=by
     rw[Hid,<-ay,<-a8,<-ac];unfold Ow
     by_cases h1:Fd s=G
     ·rw[Lq h1,Lq h1]
      by_cases h2:s.cancelled=G
      ·rw[Lq h2,Lq h2]
      ·rw[Lc h2,Lc h2,(am (by simpa using h2) h1).2]
     ·rw[Lc h1,Lc h1]
    rw[hT]at bJ;rw[a8,ac,hT];have bx:=AA ay;clear am ay a8 ac hT aO bw aQ bA av;go_upto_region 19 with fail
    obtain⟨y0,ag⟩:∃X,X=wr.alloc (i7 #[.int .u8 1,R K 0] 66):=⟨_,rfl⟩;obtain⟨g0,ak⟩:∃g,wr.heap.size=g:=⟨_,rfl⟩;have N:La wr y0:=by rw[ag];exact AL _ _
    have b2:y0.heap[g0]?=E (i7 #[.int .u8 1,R K 0] 66 (0,0)):=by rw[ag,<-ak];exact AT _ _
    rw[<-ag,ak];have bd:One A c (λj=>j=g0) s y0:=HT.out.more N λj hj=>.inr (by rw[hj,<-ak,ag];simp);have HY:=AA (HL.out.trans (N.mono HL.out.size));have HO:=AA (bd.over ar.out af.out);rw[bx.out]at HO;have bZ:Hid (W.heap.size<=g0):=by rw[<-ak];exact HL.out.size
    have aW:=AA b2;clear bd ag ak N b2 HT HK HL;go_upto_region 19 with fail
    go_upto_if 98 with(go_at_call 16;refine HO.out.mono ?_;rintro e u2 ⟨rfl,ht,I⟩)
    have bp:=AA ht;have bl:=AA (HY.out.trans (I.mono HY.out.size));have J:=(I.block g0 (AD.1 aW.out).1).trans aW.out;have aX:=AA J;clear ht I HO aW HY J
    go_cut[] (λwx=>Hid (One A c (λj=>j=g0) s wx)/\Hid (La W wx)/\Hid (wx.heap[g0]?=E (i7 #[.int .u8 (Ow c s).1,R K (Ow c s).2] 66 (0,0))))
    case first=>
     have J:=aX.out;have z0:u2.frozen? ⟨g0,0,O⟩=M:=by simp[frozen?,J]
     have z1:u2.frozen? ⟨g0,1,O⟩=M:=by simp[frozen?,J]
     have x0:u2.cell? ⟨g0,0,O⟩=E (.int .u8 1):=by simp[cell?,J]
     have x1:u2.cell? ⟨g0,1,O⟩=E (R K 0):=by simp[cell?,J]
     clear J
     rcases(show ov=M∨ov=G/\cc=G/\br=G∨ov=G/\cc=G/\br=M∨ov=G/\cc=M/\br=G∨ov=G/\cc=M/\br=M by cases ov<;>cases cc<;>cases br<;>simp)with rfl|⟨rfl,rfl,rfl⟩|⟨rfl,rfl,rfl⟩|⟨rfl,rfl,rfl⟩|⟨rfl,rfl,rfl⟩
     all_goals
      go_wp2_with fail
      go_meet
      have J:=aX.out;have aj:=bu.out;simp only[if_true,if_false,Bool.false_eq_true]at aj;refine⟨bp.out.far (Y:=λj=>j=g0) (by repeat' first|with_reducible exact Chg.refl _ _|refine Chg.set ?_ rfl) λ_ h=>h,?_,?_⟩
      ·show RowKit.Below _ _ _
       repeat' first|with_reducible exact bl.out|with_reducible refine Below.setCell ?_ ?_ _|exact bZ.out
      ·rw[Hid,aj]
       first
       |with_reducible exact J
       |with_reducible refine (AJ (i:=0) J _).trans ?_
        rfl
       |with_reducible refine (AJ (i:=1) (AJ (i:=0) (AJ (i:=0) J _) _) _).trans ?_
        rfl
       |with_reducible refine (AJ (i:=1) (AJ (i:=0) (AJ (i:=1) (AJ (i:=0) (AJ (i:=0) J _) _) _) _) _).trans ?_
        rfl
    case rest=>
     clear bp bl aX bu;obtain⟨ae,bk,aB⟩:=hcut;obtain⟨KB,hK⟩:∃KB,(Ow c s).1=KB:=⟨_,rfl⟩;obtain⟨P,hP⟩:∃P,(Ow c s).2=P:=⟨_,rfl⟩;rw[hK,hP]at aB;have bY:Hid (∀V,La wc V->V.cell? ⟨g0,0,O⟩=E (.int .u8 KB)/\V.cell? ⟨g0,1,O⟩=E (R K P)):=λV C=>by have h:=(C.block g0 (AD.1 aB.out).1).trans aB.out;exact⟨by simp[cell?,h],by simp[cell?,h]⟩
     have bV:Hid (∀V,La wc V->Calls ZP 37 #[L (E ⟨A.P,0,O⟩)] V λe w'=>e=ra (i8 #[.int .u8 KB,R K P])/\La V w'):=λV C=>by
      obtain⟨o,h1,_⟩:=ae.out.same C;have h:=aq9 V V h1.g ar.out af.out.wl
      rwa[hK,hP]at h
     have bW:Hid (∀V,La wc V->Calls ZP 16 #[L (E ⟨A.P,0,O⟩)] V λe w'=>e=ra (i6 ov)/\La V w'):=λV C=>by have h:=(ae.out.same C).over ar.out af.out;rw[bx.out]at h;exact h.mono λe w' ⟨h1,_,h2⟩=>⟨h1,h2⟩
     have he:=asa KB P;have cg:=aqE;obtain⟨Eo,e1,bQ,hE⟩:∃Eo,((Ta:Int)==(NA:Int))=Eo/\decide (Ta=NA)=Eo/\(cc=M->ov=G->Eo=G):=⟨decide (Ta=NA),by
      by_cases h:Ta=NA
      ·simp[h]
      ·have h2:¬(Ta:Int)=NA:=by omega
       simp[h,h2],rfl,λh1 h2=>Vb (bF.out h1 h2).1⟩
     have HE:=AA hE;clear hK hP ae aB af hE bF
     rcases(show ov=M∨ov=G/\cc=G∨ov=G/\cc=M/\Eo=G by cases ov<;>cases cc<;>simp;exact HE.out rfl rfl)with rfl|⟨rfl,rfl⟩|⟨rfl,rfl,rfl⟩
     all_goals
      clear HE;go_upto_region 25 with fail
      obtain⟨D,hD⟩:∃D,D=wc.drew:=⟨_,rfl⟩;have b7:La wc D:=by rw[hD];exact AN wc 1
      have HD:=AA b7;clear b7;refine Ve ?_;refine Vd (S:=La wc) kr (by rw[<-hD];exact HD.out) (λhHeld=>?_);rw[<-hD];clear hD;refine tkA 0 ?_;refine tkB 2 bY.out ?_;clear hHeld;refine rdy 1 (λKB hK=>?_);go_simp
      go_at_call 37;refine(bV.out D HD.out).mono ?_;rintro r w2 ⟨rfl,ao⟩
      have aC:=AA (HD.out.trans (ao.mono HD.out.size));refine hK.out _ _ aC.out (λbP=>?_);clear hK KB ao
      try simp only[pq]
      refine tkA 3 ?_;refine tkA 4 ?_;refine tkA 5 ?_;clear bP;refine rdy 6 (λKB hK=>?_);refine Mi kr ?_;go_simp
      go_at_call 16;refine(bW.out w2 aC.out).mono ?_;rintro r w3 ⟨rfl,b9⟩
      have aY:=AA (aC.out.trans (b9.mono aC.out.size));refine hK.out _ _ aY.out (λbO=>?_);clear hK KB b9
      try simp only[pq]
      iterate 12
       first
       |refine tkU 21 ?_
       |refine tkQ 21 (v:=?_) ?_ ?_
        rotate_left
        ·intro V C
         first|(go_simp;done)|(go_simp;with_reducible rfl)
       try simp only[pq]
      clear bO;refine rdy 19 (λKB hK=>?_);refine Mi kr ?_;go_simp
      go_at_call 23;refine(PV w3).mono ?_;rintro r w4 ⟨rfl,b8⟩
      have bG:=AA (aY.out.trans (b8.mono aY.out.size));refine hK.out _ _ bG.out (λcj=>?_);clear hK KB b8
      try simp only[pq]
      refine tkA 20 ?_;refine tkA 21 ?_;refine Vg kr ?_ _;refine At ?_;go_wp2;go_ret;exact⟨rfl,HB.out.trans ((bk.out.trans (bG.out.mono bk.out.size)).mono HB.out.size)⟩
end Go.Proofs.YtaamacoicojhnaaGreat
