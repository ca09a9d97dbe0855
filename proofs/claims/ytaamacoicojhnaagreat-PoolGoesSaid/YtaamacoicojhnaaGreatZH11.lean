/- Proofs over the given program, part 11. -/
import Derived.Test.YtaamacoicojhnaaGreatZH10
set_option linter.unusedVariables false
set_option linter.unusedSimpArgs false
set_option maxRecDepth 100000
set_option maxHeartbeats 16000000
open Go.Proofs.Tryz
open Go.Proofs.Tryz renaming prog→ZP
open Go.World(cell? frozen?)
open Option renaming some→E,none→O
open Go.Value renaming int→R,slice→T,pointer→L,bool→i6,tuple→ta,agg→i8
open Go.IntKind renaming i64→K
open Bool renaming false→M,true→G
open Go renaming World→Wa,Value→Vh
open Go.Ending renaming returned→ra
open Go.Obj renaming cells→i7
open List renaming length→lc
namespace Go.Proofs.YtaamacoicojhnaaGreat
open Go.RowKit Go.Sort
section
variable {P:Program}{md:Region.Mode}{ops:Array Oper}{Q:Exit->Act->Wa->Prop}{S:Wa->Prop}
theorem tkQ(c:Nat){X:Oper}{v:Vh}{Y:Nat}{Z:Array Bool}{a:Act}{w:Wa}
  (U:∀w,S w->(execOp a.eval X).run P w=.ok (.value v) w)
  (h:wpAnyH P md ops Q S Y (Z.setIfInBounds (c-Y) G) (a.put X.dst v) w)
  (I:ops[c-Y]?=E X:=by(simp only[Nat.reduceSub,pD,pE,pF];rfl))
  (N:Region.noSelect ops=G:=by as_aux_lemma=>kernel_rfl) (H:Region.free md ops Z (c-Y)=G:=by as_aux_lemma=>kernel_rfl) (J:(Region.ready md ops Z).contains (c-Y)=G:=by as_aux_lemma=>kernel_rfl)
  (C:∀c a w,Q (.panic c) (a.put X.dst v) w->Q (.panic c) a w:=by exact λ_ _ _ h=>h) (V:Region.wanted X (yielded ops a.tmps)=G:=by rfl) (D:S w:=by assumption):wpAnyH P md ops Q S (Y+1) Z a w:=
 wpAnyH_take I N H J C (.inl ⟨V,U⟩) D h
theorem tkU(c:Nat){X:Oper}{Y:Nat}{Z:Array Bool}{a:Act}{w:Wa}
  (h:wpAnyH P md ops Q S Y (Z.setIfInBounds (c-Y) G) (a.put X.dst undef) w)
  (J:ops[c-Y]?=E X:=by(simp only[Nat.reduceSub,pD,pE,pF];rfl))
  (V:Region.wanted X (yielded ops a.tmps)=M:=by rfl)
  (U:Region.noSelect ops=G:=by as_aux_lemma=>kernel_rfl) (I:Region.free md ops Z (c-Y)=G:=by as_aux_lemma=>kernel_rfl) (N:(Region.ready md ops Z).contains (c-Y)=G:=by as_aux_lemma=>kernel_rfl)
  (D:∀c a w,Q (.panic c) (a.put X.dst undef) w->Q (.panic c) a w:=by exact λ_ _ _ h=>h) (H:S w:=by assumption):wpAnyH P md ops Q S (Y+1) Z a w:=
 wpAnyH_take J U I N D (.inr ⟨V,rfl⟩) H h
end
section
variable {A:PAd}{c:CfM}{s s':PlM}{o:Nat->Nat}{F Gd:Nat->Prop}{w w':Wa}
theorem One.less(h:One A c F s w)(Z:∀k,Gd k->F k):One A c Gd s w:=h.more (.refl _ _) λk hk=>.inl (Z k hk)
theorem One.enabledB(h:One A c F s w)(Z:OkC c)(ok:OkM c s) :Calls ZP 29 #[L (E ⟨A.P,0,O⟩)] w λe w'=>(∃v,e=ra v/\FR w' w.heap.size v (enF c s (c.W+3)))/\One A c F s w'/\Bt w w':=h.calm λo h1=>(adu w h1 Z ok).mono λe w' ⟨v,h2,h3,h4⟩=>⟨⟨v,h2,h3⟩,h4⟩
theorem FR.keep{Y:Nat->Prop}{m:Nat}{v:Vh}{xs:List Int}(h:FR w m v xs)(X:Chg Y w w')(Z:∀k,m<=k->k<w.heap.size->¬Y k):FR w' m v xs:=Fu h λk hk=>X.block k (Gw h k hk).2 (Z k (Gw h k hk).1 (Gw h k hk).2)
end
theorem arM(c:CfM)(s:PlM)(d z:Int):∃(tk:Int)(ok Z:Bool),PM c s d z=ta #[R K tk,i6 ok]/\Z=decide (tk∈enF c s (c.W+3))/\(ok=M->PD c s d z=s)/\(decide (d<=1)=G/\decide (0<=d)=G/\(d==1)=M/\(d==0)=G/\Z=ok/\decide (0<(enF c s (c.W+3)).length)=ok∨decide (d<=1)=G/\decide (0<=d)=G/\(d==1)=G/\(d==0)=M/\Z=ok∨decide (d<=1)=G/\decide (0<=d)=M∨decide (d<=1)=M):=by
 by_cases h0:d=0
 ·subst h0
  cases Y:EZ c s z with
  |none=>
   have U:enF c s (c.W+3)=[]:=by rw[ak5,acm Y];rfl
   refine⟨0,M,M,by unfold PM;rw[Y];rfl,by rw[U];rfl,λ_=>arE 0 z (by rw[Y];rfl),.inl ⟨rfl,rfl,rfl,rfl,rfl,by rw[U];rfl⟩⟩
  |some t=>
   have X:(t:Int)∈enF c s (c.W+3):=by refine(Pm _).1 ?_;obtain⟨h1,h2⟩:=aaO Y;unfold Ou;rw[Lz (by omega:(0:Int)<=t),Lz (by omega:(t:Int)<(c.W+3:Nat)),Aa];exact h2
   refine⟨t,G,G,by unfold PM;rw[Y];rfl,(Lz X).symm,(λe=>by cases e),.inl ⟨rfl,rfl,rfl,rfl,rfl,Lz (List.length_pos_of_mem X)⟩⟩
 ·by_cases h1:d=1
  ·subst h1;refine⟨z,Ou c s z,Ou c s z,by unfold PM;rfl,?_,λe=>arE 1 z e,.inr (.inl ⟨rfl,rfl,rfl,rfl,rfl⟩)⟩
   cases V:Ou c s z with
   |true=>exact(Lz ((Pm z).1 V)).symm
   |false=>exact(decide_eq_false λX=>by rw[(Pm z).2 X]at V;cases V).symm
  ·refine⟨0,!(s.cancelled || Fd s),_,by unfold PM;rw[Lb h0,Lb h1],rfl,λe=>arE d z (by rw[Lb h0,Lb h1];exact e),.inr (.inr ?_)⟩
   by_cases h2:d<=1
   ·exact .inl ⟨Lz h2,decide_eq_false om⟩
   ·exact .inr (decide_eq_false h2)
theorem arG(c:CfM)(fold:Bool)(a:Option Addr)(la ca:Nat)(b:Option Addr)(n cb:Nat)(d:Option Addr)(m cd:Nat)(f:Option Addr)(k cf:Nat)(th:Int)(wss Y:La)(mv:List AF)(w:Wa)(hA:Wds w a la wss)(hR:Wds w b n Y)(hD:Sl1 i6 w d m c.ans)(hM:Hts w f k mv)
  (aU:PE fold wss Y m k=G) (av:Ce c.W c.K c.R c.Q c.O c.S c.F=G) (hL:Au wss=(c.L:Int)) (ax:c.L<=32) (aH:c.scan=scF fold wss c.S) :
  Calls ZP 8 #[i8 (AM fold a la ca),i8 (Ee c.W c.K c.R c.Q c.O c.S c.F),i6 c.br,T b n cb,T d m cd,T f k cf,R K th] w λe w'=>e=ra (i6 G)/\Bt w w':=by
 obtain⟨W,hW⟩:∃W,W=(w.alloc (i7 (AM fold a la ca) 24)).alloc (i7 (Ee c.W c.K c.R c.Q c.O c.S c.F) 26):=⟨_,rfl⟩;have hO:Bx w.heap.size [i7 (AM fold a la ca) 24,i7 (Ee c.W c.K c.R c.Q c.O c.S c.F) 26] W:=by rw[hW];exact((Bx.nil _ w).snoc _ rfl).snoc _ sm
 have U:Bt w W:=by rw[hW];exact(AL w _).alloc (AL w _).size _
 obtain⟨S0,bw⟩:∃x,(w.alloc (i7 (AM fold a la ca) 24)).heap.size=x:=⟨_,rfl⟩;have bv:S0=w.heap.size+1:=by rw[<-bw];simp
 have HC:Hid (∀V,Bt W V->V.cell? ⟨w.heap.size,0,O⟩=E (i6 fold)/\V.cell? ⟨w.heap.size,1,O⟩=E (T a la ca)/\V.cell? ⟨w.heap.size+1,0,O⟩=E (R K c.W)/\V.cell? ⟨w.heap.size+1,1,O⟩=E (R K c.K)/\V.cell? ⟨w.heap.size+1,2,O⟩=E (R K c.R)/\V.cell? ⟨w.heap.size+1,3,O⟩=E (R K c.Q)/\V.cell? ⟨w.heap.size+1,4,O⟩=E (R K c.O)/\V.cell? ⟨w.heap.size+1,5,O⟩=E (R K c.S)/\V.cell? ⟨w.heap.size+1,6,O⟩=E (R K c.F)):=λV hV=>by have h:=hO.below hV;exact⟨h.cell (i:=0) rfl rfl,h.cell (i:=0) rfl rfl,h.cell (i:=1) rfl rfl,h.cell (i:=1) rfl rfl,h.cell (i:=1) rfl rfl,h.cell (i:=1) rfl rfl,h.cell (i:=1) rfl rfl,h.cell (i:=1) rfl rfl,h.cell (i:=1) rfl rfl⟩
 rw[<-bv]at HC;obtain⟨p1,p2,p4,p5,p6,p7,p8⟩:=apU aU;have p2:An fold wss=G:=by rw[NF];exact p2
 have a8:=aok av ax;obtain⟨g1,g2,g3⟩:=ako p1 fold;have bY:=hA.len;have bX:=hR.len;have bj:(AB wss).length<=400:=Hx (Fy.2 ⟨IY p2,rfl,rfl⟩);have aI:=ao2 aH bj;have bB:400*(c.K+c.wm)<=1000000:=by
  have h1:=a8.K;have h2:c.wm<=31:=by unfold CfM.wm;omega
  omega
 have bq:∀x∈Y,FS x/\lc x<=120:=λx hx=>⟨λy hy=>hR.bytes x hx y hy,p8 x hx⟩;obtain⟨My,l1,l2,l3,_⟩:=aiO p2;obtain rfl:My=c.L:=by omega
 have aT:Cg c fold wss Y.flatten:=⟨p2,aH,hL,l2,l3,a8.K,a8.S,by have:=Gi.1 av;omega,by omega⟩;have bQ:Hid (Pi c fold wss Y.flatten (c.K+c.wm) 120 0 (Bn c Y)):=Pi.new a8.W.1 Y rfl bq;have ap:Hid (∀i s,Pi c fold wss Y.flatten (c.K+c.wm) 120 i s->i<=3900->OkM c s):=λi s h hi=>h.t.ok a8 hi bB om aI;have bM:Hid (∀i s,Pi c fold wss Y.flatten (c.K+c.wm) 120 i s->∀x y,Pi c fold wss Y.flatten (c.K+c.wm) 120 (i+1) (PD c s x y)):=λi s h x y=>h.mov aT aI x y;have ch:Hid (∀i s,Pi c fold wss Y.flatten (c.K+c.wm) 120 i s->∀z,Pi c fold wss Y.flatten (c.K+c.wm) 120 (i+1) (Fi c s z)):=λi s h z=>h.pick aT aI z;have b5:Hid (∀V,Bt W V->Hts V f k mv):=λV hV=>(hM.below U).below hV;have k1:Hid (Calls ZP 22 #[i8 (AM fold a la ca),T b n cb,T d m cd,T f k cf] W λe w'=>e=ra (i6 G)/\Bt W w'):=by
  have:=apZ fold a la ca b n cb d m cd f k cf wss Y W (hA.below U) (hR.below U)
  rwa[aU]at this
 have k2:Hid (∀V,Calls ZP 25 #[i8 #[R K c.W,R K c.K,R K c.R,R K c.Q,R K c.O,R K c.S,R K c.F]] V λe w'=>e=ra (i6 G)/\Bt V w'):=λV=>by
  have:=afn c.W c.K c.R c.Q c.O c.S c.F V
  rwa[av]at this
 have k3:Hid (∀V,Bt W V->Calls ZP 24 #[i8 #[i6 fold,T a la ca],i8 #[R K c.W,R K c.K,R K c.R,R K c.Q,R K c.O,R K c.S,R K c.F],i6 c.br,T b n cb,T d m cd] V λe w'=>∃A o,e=ra (L (E ⟨A.P,0,O⟩))/\AI A c o (Bn c Y) w'/\Bt V w'/\∀k,k<V.heap.size->o k=1000000):=λV hV=>
  apT c fold a la ca b n cb d m cd wss Y V ((hA.below U).below hV) ((hR.below U).below hV).rds ((hD.below U).below hV) p2 om (λx hx=>by have:=g2 x hx;omega) om hL ax aH a8 av om (λx hx=>by have:=p8 x hx;omega) om
 have I:=AA a8;have HB:=AA U;have cm:k<=300:=p7;obtain⟨q0,q1,q2,q3,q4,q5,q6,q7,q8⟩:=HC.out W (AH _ _);clear hA hR hD hM aU av hL ax aH hO U bv p1 p2 p4 p5 p6 p7 p8 a8 g1 g2 g3 bY bX bj aI bB bq aT l1 l2 l3;go_enter func8,ntmps8;go_upto_region 1 with fail
 rw[<-hW];clear hW bw
 go_wp2_with fail
 refine k1.out.mono ?_;rintro e w1 ⟨rfl,bu⟩;have X1:=AA bu;clear q0 q1 q2 q3 q4 q5 q6 q7 q8 bu k1;obtain⟨q0,q1,q2,q3,q4,q5,q6,q7,q8⟩:=HC.out w1 X1.out
 go_wp2_with fail
 refine(k2.out _).mono ?_;rintro e w2 ⟨rfl,aw⟩;have X2:=AA (X1.out.trans (aw.mono X1.out.size));clear q0 q1 q2 q3 q4 q5 q6 q7 q8 aw k2;obtain⟨q0,q1,q2,q3,q4,q5,q6,q7,q8⟩:=HC.out w2 X2.out
 go_wp2_with fail
 refine(k3.out _ X2.out).mono ?_;rintro e u1 ⟨A,o,rfl,hp,J,hz⟩;have Y1:=AA (X2.out.trans (J.mono X2.out.size));have bI:Hid (One A c (λj=>j<W.heap.size) (Bn c Y) u1):=One.mk hp Y1.out.size λk hk=>hz k (Af hk X2.out.size);clear hp J hz k3 q0 q1 q2 q3 q4 q5 q6 q7 q8;go_upto_region 7 with fail
 go_loopw[16] (λaS wr=>∃(i:Nat)(s:PlM),i<=k/\aS=R K i/\Hid (Pi c fold wss Y.flatten (c.K+c.wm) 120 i s)/\Hid (One A c (λj=>j<W.heap.size) s wr)/\Hid (Bt W wr)) (λaS _=>k-(intOf aS).toNat)
 case atStart=>exact⟨0,_,AR _,rfl,bQ,bI,Y1⟩
 case round=>
  clear bQ bI Y1 X1 X2;obtain⟨i,s,cn,rfl,HI,HT,HL⟩:=hrel
  by_cases bl:i<k
  ·as_aux_lemma=>
    have hd:decide ((i:Int)<(k:Int))=G:=by simp;omega
    have co:decide (i<k)=G:=by simp;omega
    have i1:(0:Int)<=(i:Int):=by omega
    have i2:(i:Int)<(k:Int):=by omega
    have ok:=ap.out i s HI.out om;have al:=AA ok;obtain⟨g,of,x,y,hx⟩:∃g of x y,f=E ⟨g,of,O⟩/\∀V,Bt W V->V.cell? ⟨g,of+i*2,O⟩=E (R K x)/\V.cell? ⟨g,of+i*2+1,O⟩=E (R K y):=by obtain⟨g,of,x,h1,h2,h3,h4,h5⟩:=(b5.out W (AH _ _)).at_ bl;exact⟨g,of,x.1,x.2,h1,λV hV=>⟨(hV.cell (p:=⟨g,of+i*2,O⟩) h2).trans h3,(hV.cell (p:=⟨g,of+i*2+1,O⟩) h2).trans h4⟩⟩
    obtain⟨rfl,hx⟩:=hx;have aX:=AA hx;have HE:=AA (HT.out.enabledB I.out ok);obtain⟨Eo,hE⟩:∃Eo,enF c s (c.W+3)=Eo:=⟨_,rfl⟩;obtain⟨tk,aE,bV,m1,m2,m3,m4⟩:=arM c s x y;have hz:(lc Eo=0)↔Fd s=G:=by rw[<-HI.out.goes I.out,<-hE,ak5,BP,OL]
    have bZ:lc Eo<=11:=by rw[<-hE,ak5,BP];have h1:=List.length_filter_le (Bj c s) (List.range (c.W+3));rw[List.length_range]at h1;have h2:=I.out.W;unfold II;omega
    rw[hE]at HE m2 m4;obtain⟨en,ag⟩:∃n,lc Eo=n:=⟨_,rfl⟩;rw[ag]at hz bZ m4;obtain⟨OV,B⟩:∃b,Fd s=b:=⟨_,rfl⟩;rw[B]at hz;have ct:((en:Int)==0)=OV:=by cases OV<;>simp at hz<;>simp[hz]
    have bP:=AA m1;have bO:=AA m2;have b6:=AA m3;have bN:=AA m4;have ar:=AA ag;have bL:=AA B;have bm:g<W.heap.size:=by
     obtain⟨g1,cl,x1,h1,h2,_⟩:=(b5.out W (AH _ _)).at_ bl
     cases h1
     exact h2
    have cu:=AA bm;clear ok hx hE m1 m2 m3 m4 hz B bm
    go_wp2_with fail
    refine HE.out.mono ?_;rintro e u2 ⟨⟨v,rfl,he⟩,C,J⟩;obtain⟨ae,ce,rfl,me,se⟩:=Co (enc:=R K) he;have aj:=AA C;have b3:=AA J;have bS:=AA he;rw[ag];have HO:=AA (aj.out.over I.out al.out);rw[bL.out]at HO;clear C J he se me HE ag
    go_wp2_with fail
    refine HO.out.mono ?_;rintro e u3 ⟨rfl,C,J⟩;have bG:=AA C;have aK:=AA (b3.out.trans (J.mono b3.out.size));have aP:=AA (DJ bS.out J);have HW:=AA (bG.out.view I.out al.out HI.out.t.p);clear C J aj b3 bS HO
    go_wp2_with fail
    refine HW.out.mono ?_;rintro e u4 ⟨⟨v0,v3,v4,v6,rfl,hv⟩,C,J⟩;obtain⟨X,hX⟩:∃X,Br c s=X:=⟨_,rfl⟩;rw[hX]at hv;rw[hX];obtain⟨a0,c0,rfl,m0,s0⟩:=Co hv.r0;obtain⟨a3,c3,rfl,l3,s3⟩:=Co (enc:=R K) hv.r3;obtain⟨a4,c4,rfl,l4,s4⟩:=Co (enc:=R K) hv.r4;obtain⟨a6,c6,rfl,l6,s6⟩:=Co (enc:=R K) hv.r6;have bD:=AA hX;have bF:=AA hv;have aL:=AA C;have aJ:=AA (aK.out.trans (J.mono aK.out.size));have aA:=AA aK.out.size;have aO:=AA (DJ aP.out J);clear hX hv C J m0 l3 l4 l6 s0 s3 s4 s6 HW bG aK aP;go_upto_region 13 with fail
    obtain⟨CS,ai⟩:∃CS:Array Vh,CS=#[T a0 (lc X.ph) c0,R K X.next,R K X.number,T a3 (lc X.q) c3,T a4 (lc X.rg) c4,R K X.out,T a6 (lc X.live) c6,R K X.free,i6 X.shut,i6 X.ended,i6 X.canc,R K X.read]:=⟨_,rfl⟩;rw[<-ai];obtain⟨y0,a7⟩:∃X,X=u4.alloc (i7 CS 63):=⟨_,rfl⟩;obtain⟨H,aa⟩:∃g,u4.heap.size=g:=⟨_,rfl⟩;have U:Bt u4 y0:=by rw[a7];exact AL _ _
    have af:y0.heap[H]?=E (i7 CS 63 (0,0)):=by rw[a7,<-aa];exact AT _ _
    rw[<-a7,aa];have bR:=AA af;have b9:Hid (wr.heap.size<=H/\H<y0.heap.size):=⟨by rw[<-aa];exact aJ.out.size,(AD.1 af).1⟩;have aZ:=AA (aJ.out.trans (U.mono aJ.out.size));have aN:=AA (DJ aO.out U);have aY:=AA (bF.out.below U);obtain⟨M3,bA⟩:∃m,u3.heap.size=m:=⟨_,rfl⟩;rw[bA]at aY aA;have az:Hid (One A c (λj=>j<W.heap.size∨wr.heap.size<=j/\j<y0.heap.size) s y0):=HT.out.more aZ.out λj hj=>hj;have ac:=AA (HL.out.trans (aZ.out.mono HL.out.size));have HM:=AA (az.out.moves I.out al.out x y);rw[bP.out]at HM;have bT:=AA ai;obtain⟨aG,aF⟩:=aX.out y0 ac.out;clear af aa U bA a7 aL aJ aO bF HT bP ai
    go_wp2_with fail
    refine HM.out.mono ?_;rintro e u6 ⟨rfl,C,hc⟩;have ay:=AA C;have ab:Hid (Bt W u6):=ac.out.trans ((hc.mono λk _ h hh=>h (.inl hh)).belF ac.out.size);have bJ:Hid (∀V,Bt u6 V->Sl1 (R K) V ae en Eo):=λV hV=>by
     obtain⟨a1,c1,h1,_,h2⟩:=Co (enc:=R K) (FR.keep aN.out hc λk h1 h2 h3=>h3 (.inr ⟨h1,h2⟩));rw[ar.out]at h1 h2
     cases h1
     exact h2.below hV
    have am:Hid (u6.heap[H]?=E (i7 CS 63 (0,0))/\H<u6.heap.size):=by have h:=(hc.block H b9.out.2 λh=>h (.inr b9.out)).trans bR.out;exact⟨h,(AD.1 h).1⟩
    have bE:=AA (aY.out.keep hc λk h1 h2 h3=>h3 (.inr ⟨AS aA.out h1,h2⟩));have aD:=AA (bM.out i s HI.out x y);obtain⟨s',au⟩:∃s',PD c s x y=s':=⟨_,rfl⟩;rw[au]at ay aD b6;clear C hc aG aF HM au az ac aN aY aZ bR b9 aA HL HI al bL;go_upto_region 16 with fail
    go_loopw[21,22] (λbU aR wq=>∃(j:Nat)(P:Bool),j<=en/\aR=R K j/\bU=i6 P/\Hid (P=decide (tk∈Eo.take j))/\Hid (Bt u6 wq)) (λ_ aR _=>en-(intOf aR).toNat)
    case atStart=>exact⟨0,M,AR _,rfl,rfl,rfl,.refl _ _⟩
    case round=>
     obtain⟨j,P,hj,rfl,rfl,HP,HR⟩:=hrel
     by_cases bk:j<en
     ·have aW:decide ((j:Int)<(en:Int))=G:=by simp;omega
      have ck:decide (j<en)=G:=by simp;omega
      obtain⟨eb,eo,z,rfl,_,hz,bg⟩:=DG (bJ.out _ HR.out) bk;have HZ:=AA bg;have j1:(0:Int)<=(j:Int):=by omega
      have j2:(j:Int)<(en:Int):=by omega
      clear bg;obtain⟨Q,hQ⟩:∃Q,(z==tk)=Q:=⟨_,rfl⟩;have c8:decide (z=tk)=Q:=by rw[<-hQ];rfl
      have HQ:=AA hQ
      cases P with
      |true=>
       clear hQ c8
       go_wp2_with fail
       go_roundw
       case rel=>exact⟨j+1,G,by omega,by go_num,rfl,by rw[Hid,As HZ.out];have:=HP.out;simp at this;simp[this],HR⟩
       case measure=>simp[intOf];omega
      |false=>
       go_wp2_with fail
       go_roundw
       case rel=>exact⟨j+1,Q,by omega,by go_num,rfl,by
        rw[Hid,As HZ.out,<-HQ.out];have:=HP.out;simp at this
        by_cases h:z=tk
        ·simp[h]
        ·have h2:¬tk=z:=λe=>h e.symm;simp[this,h,h2],HR⟩
       case measure=>simp[intOf];omega
     ·obtain rfl:j=en:=by omega
      have aW:decide ((j:Int)<(j:Int))=M:=by simp
      have c9:P=bV:=by rw[HP.out,bO.out,<-ar.out,Hl]
      subst c9;clear HP bJ bO;have a2:=AA (ab.out.trans (HR.out.mono ab.out.size));have b4:Hid (One A c (λj=>j<W.heap.size) s' wr):=(ay.out.same HR.out).less λk h=>.inl h;have bd:Hid (wr.heap[H]?=E (i7 CS 63 (0,0))/\H<wr.heap.size):=⟨(HR.out.block H am.out.2).trans am.out.1,Af am.out.2 HR.out.size⟩;have cc:=AA (bE.out.below HR.out);have bC:=AA bN;clear ay ab am bE HR bN;obtain⟨aG,aF⟩:=aX.out wr a2.out;obtain⟨b1,b0,bo,bz,Z,e1,e0,eo,ez,f1,cr,hw⟩:∃b1 b0 bo bz Z:Bool,decide (x<=1)=b1/\decide (0<=x)=b0/\(x==1)=bo/\(x==0)=bz/\decide (0<j)=Z/\decide ((0:Int)<(j:Int))=Z/\(b1=G/\b0=G/\bo=M/\bz=G/\P=aE/\Z=aE∨b1=G/\b0=G/\bo=G/\bz=M/\P=aE∨b1=G/\b0=M∨b1=M):=⟨_,_,_,_,_,rfl,rfl,rfl,rfl,rfl,by simp,bC.out⟩;clear bC
      cases aE with
      |true=>
       rcases hw with⟨rfl,rfl,rfl,rfl,rfl,rfl⟩|⟨rfl,rfl,rfl,rfl,rfl⟩|⟨rfl,rfl⟩|rfl
       all_goals
        go_upto_region 19 with fail
        go_quiet (fail)
        go_wp2_with fail
        go_roundw
        case rel=>exact⟨i+1,_,by omega,by go_num,aD,b4.out.same (AN _ _),a2.out.trans ((AN _ _).mono a2.out.size)⟩
        case measure=>simp[intOf];omega
      |false=>
       have bW:=b6.out rfl;subst bW;have ok:=ap.out (i+1) s' aD.out om;have cg:Hid (∀V,Bt wr V->Calls ZP 34 #[L (E ⟨A.P,0,O⟩)] V λe w'=>(∃u0 u3 u4 u6,e=ra (i8 (vwC u0 u3 u4 u6 X))/\VwS w' V.heap.size u0 u3 u4 u6 X)/\Bt V w'):=λV hV=>by have h:=(b4.out.same hV).view I.out ok aD.out.t.p;rw[bD.out]at h;exact h.mono λe w' ⟨h1,_,h2⟩=>⟨h1,h2⟩
       have bb:Hid (∀V,Bt wr V->V.cell? ⟨H,0,O⟩=E (T a0 (lc X.ph) c0)/\V.cell? ⟨H,1,O⟩=E (R K X.next)/\V.cell? ⟨H,2,O⟩=E (R K X.number)/\V.cell? ⟨H,3,O⟩=E (T a3 (lc X.q) c3)/\V.cell? ⟨H,4,O⟩=E (T a4 (lc X.rg) c4)/\V.cell? ⟨H,5,O⟩=E (R K X.out)/\V.cell? ⟨H,6,O⟩=E (T a6 (lc X.live) c6)/\V.cell? ⟨H,7,O⟩=E (R K X.free)/\V.cell? ⟨H,8,O⟩=E (i6 X.shut)/\V.cell? ⟨H,9,O⟩=E (i6 X.ended)/\V.cell? ⟨H,10,O⟩=E (i6 X.canc)/\V.cell? ⟨H,11,O⟩=E (R K X.read)):=λV hV=>by have h:=(hV.block H bd.out.2).trans bd.out.1;rw[bT.out]at h;exact⟨by simp[cell?,h],by simp[cell?,h],by simp[cell?,h],by simp[cell?,h],by simp[cell?,h],by simp[cell?,h],by simp[cell?,h],by simp[cell?,h],by simp[cell?,h],by simp[cell?,h],by simp[cell?,h],by simp[cell?,h]⟩
       clear ok aG aF bd bT bD b6
       rcases hw with⟨rfl,rfl,rfl,rfl,rfl,rfl⟩|⟨rfl,rfl,rfl,rfl,rfl⟩|⟨rfl,rfl⟩|rfl
       all_goals
        go_upto_region 19 with fail
        obtain⟨D,hD⟩:∃D,D=wr.drew:=⟨_,rfl⟩;have bs:Bt wr D:=by rw[hD];exact AN wr 1
        have HD:=AA bs;clear bs;refine Vb ?_;refine Va (S:=Bt wr) kr (by rw[<-hD];exact HD.out) (λhHeld=>?_);rw[<-hD];clear hD
        iterate 54
         first
         |refine tkU 59 ?_
         |refine tkQ 59 (v:=?_) ?_ ?_
          rotate_left
          ·intro V hV;obtain⟨aG,aF⟩:=aX.out V (a2.out.trans (hV.mono a2.out.size))
           first|(go_simp;done)|(go_simp;with_reducible rfl)
         try simp only[pq]
        refine tkB 55 bb.out ?_;clear hHeld;refine rdy 54 (λKB hK=>?_);go_simp
        go_at_call 34;refine(cg.out D HD.out).mono ?_;rintro r w2 ⟨⟨u0,u3,u4,u6,rfl,hu⟩,aw⟩
        have aM:=AA (HD.out.trans (aw.mono HD.out.size));have HU:=AA hu;refine hK.out _ _ aM.out (λc7=>?_);clear hK KB hu aw
        try simp only[pq]
        refine rdy 56 (λKB hK=>?_);go_simp
        go_at_call 33;refine(aqQ _ _ _ _ _ _ _ _ X w2 HU.out (cc.out.below aM.out)).mono ?_;rintro r w3 ⟨rfl,bt⟩
        have bf:=AA (aM.out.trans (bt.mono aM.out.size));refine hK.out _ _ bf.out (λcp=>?_);clear hK KB bt c7
        try simp only[pq]
        refine tkA 57 ?_;refine tkA 58 ?_;refine tkA 59 ?_;refine Vd kr ?_ _;refine At ?_
        go_wp2_with fail
        go_roundw
        case rel=>exact⟨i+1,_,by omega,by go_num,aD,b4.out.same bf.out,a2.out.trans (bf.out.mono a2.out.size)⟩
        case measure=>simp[intOf];omega
  ·obtain rfl:i=k:=by omega
   as_aux_lemma=>
    have hd:decide ((i:Int)<(i:Int))=M:=by simp
    have ok:=ap.out i s HI.out om;have HN:=AA (HT.out.cancel I.out ok);have aq:Hid (Pi c fold wss Y.flatten (c.K+c.wm) 120 i (LN s)):=HI.out.cancel;have be:Hid ((LN s).cancelled=G∨Fd (LN s)=G):=arH s;obtain⟨s',au⟩:∃s',LN s=s':=⟨_,rfl⟩;rw[au]at HN aq be;clear ok au HI HT bM b5
    go_wp2_with fail
    refine HN.out.mono ?_;rintro e u1 ⟨rfl,C,hc⟩;have bH:=AA C;have b8:Hid (Bt W u1):=HL.out.trans (hc.belF HL.out.size);have ok:=ap.out i s' aq.out om;have HW:=AA (bH.out.view I.out ok aq.out.t.p);clear C hc HN HL
    go_wp2_with fail
    refine HW.out.mono ?_;rintro e u2 ⟨⟨v0,v3,v4,v6,rfl,hv⟩,C,J⟩;have aj:=AA C;have aC:=AA (b8.out.trans (J.mono b8.out.size));obtain⟨a0,c0,rfl,_,_⟩:=Co hv.r0;obtain⟨a3,c3,rfl,_,_⟩:=Co (enc:=R K) hv.r3;obtain⟨a4,c4,rfl,_,_⟩:=Co (enc:=R K) hv.r4;obtain⟨a6,c6,rfl,_,_⟩:=Co (enc:=R K) hv.r6;clear hv C J HW bH b8;have aV:∀V,Sem.run ZP (Instr.field 63 (i8 (vwC (T a0 (Br c s').ph.length c0) (T a3 (Br c s').q.length c3) (T a4 (Br c s').rg.length c4) (T a6 (Br c s').live.length c6) (Br c s'))) 10) V=.ok (i6 s'.cancelled) V:=λV=>by kernel_rfl
    cases ao:s'.cancelled with
    |false=>
     have B:Fd s'=G:=by
      rcases be.out with h|h
      ·rw[ao]at h;cases h
      ·exact h
     have HO:=AA (aj.out.over I.out ok);rw[B]at HO;rw[ao]at aV;clear B ao ok aj
     go_wp2_with fail
     refine HO.out.mono ?_;rintro e u3 ⟨rfl,_,J⟩;have b7:=AA (aC.out.trans (J.mono aC.out.size));clear J HO
     go_wp2_with fail
     refine(PV u3).mono ?_;rintro e u4 ⟨rfl,J⟩;have aB:=AA (b7.out.trans (J.mono b7.out.size));clear J b7 aC;go_wp2;go_ret;exact⟨rfl,HB.out.trans (aB.out.mono HB.out.size)⟩
    |true=>
     rw[ao]at aV;have ad:Hid (s'.cancelled=G):=ao;have ci:=aq.out.t.p.mu;obtain⟨N,hN⟩:∃N,c.W+4+c.R=N:=⟨_,rfl⟩;obtain⟨b1,b2⟩:c.W<=8/\c.R<=16:=⟨I.out.W.2,I.out.R.2⟩;have ak:Hid (Fd s'=G∨muM s'+0<=N):=.inr om;have HN:=AA hN;have cq:N<=28:=by omega
     clear ao ci be ok hN;go_upto_region 26 with fail
     clear aV
     go_loopw[23] (λaQ wr=>∃(j:Nat)(s:PlM),j<=N/\aQ=R K j/\Hid (Pi c fold wss Y.flatten (c.K+c.wm) 120 (i+j) s)/\Hid (s.cancelled=G)/\Hid (Fd s=G∨muM s+j<=N)/\Hid (One A c (λj=>j<W.heap.size) s wr)/\Hid (Bt W wr)) (λaQ _=>N-(intOf aQ).toNat)
     case atStart=>exact⟨0,_,AR _,rfl,aq,ad,ak,aj,aC⟩
     case round=>
      clear aq ad ak aj aC;obtain⟨j,s,hj,rfl,HI,ad,ak,HT,HL⟩:=hrel;obtain⟨q0,q1,q2,q3,q4,q5,q6,q7,q8⟩:=HC.out wr HL.out;have bx:(c.W:Int)+4+(c.R:Int)=(N:Int):=by have:=HN.out;omega
      by_cases bk:j<N
      ·have aW:decide ((j:Int)<(c.W:Int)+4+(c.R:Int))=G:=by simp;omega
       have ok:=ap.out (i+j) s HI.out om;have bK:Hid (∀z:Int,Calls ZP 17 #[L (E ⟨A.P,0,O⟩),R K z] wr λe w'=>(∃v,e=ra v)/\∃s2,Pi c fold wss Y.flatten (c.K+c.wm) 120 (i+(j+1)) s2/\s2.cancelled=G/\(Fd s2=G∨muM s2+(j+1)<=N)/\One A c (λj=>j<W.heap.size) s2 w'/\Bt W w'):=λz=>
        (HT.out.pick I.out ok z).mono λe w' ⟨h1,h2,h3⟩=>⟨⟨_,h1⟩,_,by rw[<-Nat.add_assoc];exact ch.out _ _ HI.out z,(arK z).trans ad.out,HI.out.far ad.out ak.out z,h2,HL.out.trans (h3.belF HL.out.size)⟩
       clear ok bx HT ad ak
       go_wp2_with fail
       refine(bK.out _).mono ?_;rintro e w3 ⟨⟨v,rfl⟩,s2,g1,g2,g3,g4,g5⟩;have G1:=AA g1;have G2:=AA g2;have G3:=AA g3;have G4:=AA g4;have G5:=AA g5;clear g1 g2 g3 g4 g5 bK q0 q1 q2 q3 q4 q5 q6 q7 q8
       go_wp2_with fail
       go_roundw
       case rel=>exact⟨j+1,s2,by omega,by go_num,G1,G2,G3,G4,G5⟩
       case measure=>simp[intOf];omega
      ·obtain rfl:j=N:=by omega
       have aW:decide ((j:Int)<(c.W:Int)+4+(c.R:Int))=M:=by simp;omega
       have B:=HI.out.end ad.out ak.out;obtain⟨z1,z2,z3,z4,z5,z6⟩:=arP HI.out.z HI.out.t.p I.out.W.1 B;have ok:=ap.out (i+j) s HI.out om;have al:=AA ok;have ag:enF c s (c.W+3)=[]:=by rw[ak5,arA HI.out.t.p.a.f.wl B];rfl
       obtain⟨X,hX⟩:∃X,Br c s=X:=⟨_,rfl⟩;have e3:((lc X.q:Int)==0)=G:=by rw[<-hX];show(((s.q.map λb=>(b.num:Int)).length:Int)==0)=G;rw[z1];rfl
       have e4:((lc X.rg:Int)==0)=G:=by have hl:=HI.out.t.p.a.f.gl;rw[<-hX];show((((Ga s.next s.rg c.R).map λx:Nat=>(x:Int)).length:Int)==0)=G;rw[arp s.next s.rg c.R om,Ap om,z3];rfl
       have e5:(X.out==0)=G:=by rw[<-hX];show((lc s.out:Int)==0)=G;rw[z2];rfl
       have e6:((lc X.live:Int)==0)=G:=by have hl:=HI.out.t.p.live;rw[<-hX];show(((Oy s.us (lc s.us)).length:Int)==0)=G;rw[show(Oy s.us (lc s.us)).length=0 by omega];rfl
       have e7:(X.free==(c.R:Int))=G:=by rw[<-hX];show((lc s.fr:Int)==(c.R:Int))=G;rw[z6];simp
       have bi:X.shut=G:=by rw[<-hX];exact z4
       have bh:X.ended=G:=by rw[<-hX];exact z5
       have HW:=AA (HT.out.view I.out ok HI.out.t.p);rw[hX]at HW;have HV:=AA B;have HE:=AA ag;have X8:=AA bi;have X9:=AA bh;clear ok B ag hX bi bh z1 z2 z3 z4 z5 z6 HT ad ak bx q0 q1 q2 q3 q4 q5 q6 q7 q8;obtain⟨q0,q1,q2,q3,q4,q5,q6,q7,q8⟩:=HC.out wr HL.out
       go_wp2_with fail
       refine HW.out.mono ?_;rintro e u4 ⟨⟨v0,v3,v4,v6,rfl,hv⟩,C,J⟩;obtain⟨a0,c0,rfl,m0,s0⟩:=Co hv.r0;obtain⟨a3,c3,rfl,l3,s3⟩:=Co (enc:=R K) hv.r3;obtain⟨a4,c4,rfl,l4,s4⟩:=Co (enc:=R K) hv.r4;obtain⟨a6,c6,rfl,l6,s6⟩:=Co (enc:=R K) hv.r6;have aL:=AA C;have aB:=AA (HL.out.trans (J.mono HL.out.size));clear hv C J m0 l3 l4 l6 s0 s3 s4 s6 HW HL q0 q1 q2 q3 q4 q5 q6 q7 q8;go_upto_region 30 with fail
       obtain⟨CS,ai⟩:∃CS:Array Vh,CS=#[T a0 (lc X.ph) c0,R K X.next,R K X.number,T a3 (lc X.q) c3,T a4 (lc X.rg) c4,R K X.out,T a6 (lc X.live) c6,R K X.free,i6 X.shut,i6 X.ended,i6 X.canc,R K X.read]:=⟨_,rfl⟩;rw[<-ai];obtain⟨y0,a7⟩:∃X,X=u4.alloc (i7 CS 63):=⟨_,rfl⟩;obtain⟨H,aa⟩:∃g,u4.heap.size=g:=⟨_,rfl⟩;have U:Bt u4 y0:=by rw[a7];exact AL _ _
       have af:y0.heap[H]?=E (i7 CS 63 (0,0)):=by rw[a7,<-aa];exact AT _ _
       have bp:=(AD.1 af).1;rw[<-a7,aa];have bb:Hid (∀V,Bt y0 V->V.cell? ⟨H,3,O⟩=E (T a3 (lc X.q) c3)/\V.cell? ⟨H,4,O⟩=E (T a4 (lc X.rg) c4)/\V.cell? ⟨H,5,O⟩=E (R K X.out)/\V.cell? ⟨H,6,O⟩=E (T a6 (lc X.live) c6)/\V.cell? ⟨H,7,O⟩=E (R K X.free)/\V.cell? ⟨H,8,O⟩=E (i6 G)/\V.cell? ⟨H,9,O⟩=E (i6 G)):=λV hV=>by have h:=(hV.block H bp).trans af;rw[ai]at h;rw[<-X8.out];have x9:=X9.out;rw[<-X8.out]at x9;exact⟨by simp[cell?,h],by simp[cell?,h],by simp[cell?,h],by simp[cell?,h],by simp[cell?,h],by simp[cell?,h],by simp[cell?,h,x9]⟩
       have az:=AA (aL.out.same U);have ac:=AA (aB.out.trans (U.mono aB.out.size));have HO:=AA (az.out.over I.out al.out);rw[HV.out]at HO;clear ai a7 aa U af bp aL aB
       go_wp2_with fail
       refine HO.out.mono ?_;rintro e u6 ⟨rfl,C,J⟩;have ay:=AA C;have ab:=AA (ac.out.trans (J.mono ac.out.size));have ar:=AA (ay.out.enabledB I.out al.out);rw[HE.out]at ar;obtain⟨g3,g4,g5,g6,g7,g8,g9⟩:=bb.out u6 J;obtain⟨q0,q1,q2,q3,q4,q5,q6,q7,q8⟩:=HC.out u6 ab.out;clear C J HO az ac
       go_wp2_with fail
       refine ar.out.mono ?_;rintro e u7 ⟨⟨v,rfl,he⟩,_,J⟩;obtain⟨ae,ce,rfl,me,se⟩:=Co (enc:=R K) he;have a2:=AA (ab.out.trans (J.mono ab.out.size));clear he me se J ab ar g3 g4 g5 g6 g7 g8 g9 q0 q1 q2 q3 q4 q5 q6 q7 q8
       go_wp2_with fail
       refine(PV u7).mono ?_;rintro e u8 ⟨rfl,J⟩;have cj:=AA (a2.out.trans (J.mono a2.out.size));clear J a2;go_wp2;go_ret;exact⟨rfl,HB.out.trans (cj.out.mono HB.out.size)⟩
end Go.Proofs.YtaamacoicojhnaaGreat
