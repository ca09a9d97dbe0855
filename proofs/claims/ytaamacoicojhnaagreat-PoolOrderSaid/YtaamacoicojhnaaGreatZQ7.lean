/- Proofs over the given program, part 7. -/
import Derived.Test.YtaamacoicojhnaaGreatZQ6
set_option linter.unusedVariables false
set_option linter.unusedSimpArgs false
set_option maxRecDepth 100000
set_option maxHeartbeats 16000000
open Go.Proofs.Tryz
open Go.Proofs.Tryz renaming prog→ZP
open Go.World(cell? frozen?)
open Option renaming some→E,none→O
open Go.Value renaming int→R,slice→T,pointer→L,bool→i6,tuple→ta,agg→i8
open Go.IntKind renaming i64→K
open Bool renaming false→M,true→G
open Go renaming World→Wa,Value→Vk
open Go.Ending renaming returned→ra
open Go.Obj renaming cells→i7
open List renaming length→lc
namespace Go.Proofs.YtaamacoicojhnaaGreat
open Go.RowKit Go.Sort
section
attribute[local go_sem] Oper.semAt_some
attribute[local simp] Ak Al
attribute[local go_sem] Ak Al
def qlH(Z:List AF)(first many:Nat):List AF:=(List.range many).map λi=>Z.getD ((first+i) % lc Z) (0,0)
theorem alB{Z:List AF}{first many j:Nat}(h:j<many):(qlH Z first many).take (j+1)=(qlH Z first many).take j++[Z.getD ((first+j) % lc Z) (0,0)]:=by
 have Y:(qlH Z first many)[j]?=E (Z.getD ((first+j) % lc Z) (0,0)):=by
  unfold qlH;rw[BU,It h]
  rfl
 exact As Y
theorem aeV{X:Nat->Prop}(p Q B first many:Nat)(closed:Bool)(D:List AF)(N m:Nat)(w:Wa)(hp:w.heap[p]?=E (i7 #[L (E ⟨Q,0,O⟩)] 370 (0,0)))(v:AY X Q B first many closed D w)(ae:p<N)(ai:Q<N)(aj:B<N)(hB:N<=w.heap.size) :Hi Fence.wide m ZP 275 #[L (E ⟨p,0,O⟩)] Ki (KpB N) (λ_ _ _=>False) (λxs _=>xs=qlH D first many) (λ_=>True) 1000001 w:=by
 intro lo J Jx W hW hJ ap hY h0;have base:Hid (∀V,(w.heap.size<=V.heap.size/\∀k,k<N->V.heap[k]?=w.heap[k]?)->V.cell? ⟨p,0,O⟩=E (L (E ⟨Q,0,O⟩))/\AY X Q B first many closed D V):=λV hV=>by have e1:=(hV.2 p ae).trans hp;exact⟨by simp[cell?,e1],(hV.2 Q ai).trans v.box,(hV.2 B aj).trans v.places,v.inX,v.ne,v.room⟩
 have a6:Hid (w.heap.size<=W.heap.size/\∀k,k<N->W.heap[k]?=w.heap[k]?):=⟨hW.size,λk hk=>hW.block k om⟩;have ab:=AA hB;obtain⟨r1,r2,r3,r4⟩:=v.room;obtain⟨LO,hL⟩:∃LO,lc D=LO:=⟨_,rfl⟩;have HL:=AA hL;rw[hL]at r1 r2 r3 r4;clear hp v hL;obtain⟨c1,C⟩:=base.out W a6.out;have c2:W.cell? ⟨Q,2,O⟩=E (R K (many:Int)):=by simp[cell?,C.box]
 clear C;refine callsIn_of_wp func275 rfl trivial ?_ rfl;simp only[ntmps275,Cw,Ao,Bw,Nat.reduceAdd,Nat.reduceSub,Dd,Dc,DX,Da,Av,CT]
 gi_wp2
 clear c1 c2
 gi_loopw[8] (λi wr=>∃(j:Nat)(pre:List AF),j<=many/\i=R K j/\Hid (pre=(qlH D first many).take j)/\J pre wr/\Hid (w.heap.size<=wr.heap.size/\∀k,k<N->wr.heap[k]?=w.heap[k]?)) (λi _=>many-(intOf i).toNat)
 case atStart=>exact⟨0,[],AR _,rfl,rfl,h0,a6⟩
 case round=>
  obtain⟨j,pre,hk,rfl,HP,hj,H⟩:=hrel
  by_cases I:j<many
  ·have af:decide ((j:Int)<(many:Int))=G:=by simp;omega
   have ao:decide (j<many)=G:=by simp;omega
   obtain⟨b1,C⟩:=base.out wr H.out;have hl:=HL.out;have b2:wr.cell? ⟨Q,0,O⟩=E (T (E ⟨B,0,O⟩) LO LO):=by simp[cell?,C.box,hl]
   have b3:wr.cell? ⟨Q,1,O⟩=E (R K (first:Int)):=by simp[cell?,C.box]
   have e1:IntKind.i64.wrap ((first:Int)+(j:Int))=((first+j:Nat):Int):=by rw[BK];omega
   have e2:((first+j:Nat):Int).tmod (LO:Int)=(((first+j) % LO:Nat):Int):=by rw[Jq om];simp
   have A:(first+j) % LO<LO:=Ek _ om;obtain⟨x,hx⟩:∃x,D[(first+j) % LO]?=E x:=⟨_,Ar om⟩;obtain⟨y0,y1⟩:=NO hx;have HS:Hid (pre++[x]=(qlH D first many).take (j+1)):=by rw[Hid,HP.out,alB I,hl,DZ,hx];rfl
   have Z:lc pre<1000001:=by rw[HP.out,Ag];omega
   obtain⟨s,hs⟩:∃s,first+j=s:=⟨_,rfl⟩;rw[hs]at e1 e2 A y0 y1;obtain⟨i,hi⟩:∃i,s % LO=i:=⟨_,rfl⟩;rw[hi]at e2 A y0 y1;have x0:wr.cell? ⟨B,i*2,O⟩=E (R K x.1):=by simp[cell?,C.places];exact y0
   have x1:wr.cell? ⟨B,i*2+1,O⟩=E (R K x.2):=by simp[cell?,C.places];exact y1
   have i1:(0:Int)<=(i:Int):=by omega
   have i2:(i:Int)<(LO:Int):=by omega
   have z0:¬(LO:Int)=0:=by omega
   have z1:¬LO=0:=by omega
   have al:=AA hj;have ak:=AA Z;have aa:=AA I;clear hx y0 y1 C hl hs hi hj Z I
   gi_wp2
   refine Ld (FL _ _) 19 mixed kr kr ?_;dsimp only[List.take_succ_cons,List.take_zero,List.drop_succ_cons,List.drop_zero]
   repeat (go_big_quiet_step (fail))
   refine wpQuiet_nil ?_;rintro _ ⟨a1,rfl⟩;have U:La wr (wr.drewN a1):=⟨rfl,rfl,rfl,AC _,λ_ _=>rfl⟩;obtain⟨W4,a8⟩:∃X,X=wr.drewN a1:=⟨_,rfl⟩;rw[<-a8]at U⊢;clear a8;have a7:=Jf hJ al.out U;have Y:Hid (w.heap.size<=W4.heap.size/\∀k,k<N->W4.heap[k]?=w.heap[k]?):=
    ⟨AS H.out.1 U.size,λk hk=>(U.block k (by have:=H.out.1;have:=ab.out;omega)).trans (H.out.2 k hk)⟩
   obtain⟨fn,tmps,assign,body,ac,ag⟩:=hY pre x W4 a7 ak.out;dsimp only[Ki]at ac;clear b1 b2 b3 x0 x1 U a7
   gi_wp2
   refine ag.mono ?_;rintro e W5 (⟨rfl,hJ4,hk4⟩|⟨rfl,hJx4⟩)
   ·have a2:Hid (w.heap.size<=W5.heap.size/\∀k,k<N->W5.heap[k]?=w.heap[k]?):=⟨AS Y.out.1 hk4.1,λk hk=>(hk4.2 k hk (by have:=Y.out.1;have:=ab.out;omega)).trans (Y.out.2 k hk)⟩;have am:=AA hJ4;clear hk4 hJ4
    gi_wp2
    go_roundw
    case rel=>exact⟨j+1,_,aa.out,by go_num,HS,am.out,a2⟩
    case measure=>
     have:=aa.out;simp[intOf];omega
   ·gi_wp2
    refine Vi (results_none rfl _ _ _) rfl ?_;exact⟨⟨_,rfl⟩,.inr ⟨_,trivial,hJx4⟩⟩
  ·obtain rfl:j=many:=by omega
   have af:decide ((j:Int)<(j:Int))=M:=by simp
   have HF:Hid (pre=qlH D first j):=by
    have h:=HP.out
    rwa[Ap (by unfold qlH;simp)]at h
   clear I
   gi_wp2
   go_end0
   exact⟨⟨_,rfl⟩,.inl ⟨pre,HF.out,hj⟩⟩
end
theorem aib(Q:Nat)(w:Wa) :Calls ZP 249 #[L (E ⟨Q,0,O⟩)] w λe w'=>e=ra (.func (.func 275) #[] #[L (E ⟨w.heap.size,0,O⟩)])/\w'=w.alloc (i7 #[L (E ⟨Q,0,O⟩)] 370):=by go_enter func249,ntmps249;go_wp2;go_ret;exact⟨rfl,rfl⟩
theorem ai0{X:Nat->Prop}{Q B first many:Nat}{closed:Bool}{U:List AF}(w:Wa)(h:AY X Q B first many closed U w) :Calls ZP 208 #[L (E ⟨Q,0,O⟩)] w λe w'=>∃v,e=ra v/\Ax w' w.heap.size v (qlH U first many)/\La w w':=by
 have D:=AA (aib Q w);obtain⟨W,hW⟩:∃W,W=w.alloc (i7 #[L (E ⟨Q,0,O⟩)] 370):=⟨_,rfl⟩;rw[<-hW]at D;have hB:La w W:=by rw[hW];exact AL _ _
 have N:W.heap[w.heap.size]?=E (i7 #[L (E ⟨Q,0,O⟩)] 370 (0,0)):=by rw[hW];exact AT _ _
 have Y:=h.below hB;have Z:=aeV (X:=X) w.heap.size Q B first many closed U W.heap.size 8 W N Y (AD.1 N).1 (AD.1 Y.box).1 (AD.1 Y.places).1 (AC _);have C:=h.room;have s:=AA (aee W (Vj func275 kr rfl) Z (AC _) (λ_ _ _ h=>h.elim) (λ_ _ _ _ _ _ _ _ h=>h) (AC _) (λ_ _ _ h=>h.elim) om (λxs V h=>by rw[h];unfold qlH;simp;omega));have I:=AA hB;clear h hW hB N Y Z C;go_enter func208,ntmps208
 go_wp2_with fail
 refine D.out.mono ?_;rintro e w1 ⟨rfl,rfl⟩
 go_wp2_with fail
 refine s.out.mono ?_;rintro e j ⟨v,xs,V,rfl,rfl,_,ho,H⟩;have A:=AA ho;have J:=AA H;clear ho H;go_wp2;go_ret;exact⟨v,rfl,NC A.out I.out.size,I.out.trans (J.out.mono I.out.size)⟩
section
attribute[local go_sem] Oper.semAt_some
attribute[local simp] Ak Al
attribute[local go_sem] Ak Al
def FR(w:Wa)(base:Nat)(v:Vk)(l:List Int):Prop:=w.ownsRow base 3 1 v (lc l) (l.map (R K))
def amT(b base:Nat)(l:List Int)(W:Wa):Prop:=∃v,Boxed W b 30 v/\FR W base v l
theorem afQ{α:Type}{B b base:Nat}{Pb:Nat->Wa->Wa->Prop}(D:base<=b)(N:∀r W J,Pb r W J->r<base)(f:α->List Int):BT B Pb (λs W=>amT b base (f s) W):=by
 rintro s W J row ⟨v,Z,ho⟩ U V;have X:∀{k:Nat}{cs:Array Vk}{t:TypeId},W.heap[k]?=E (i7 cs t (0,0))->base<=k->row≠E k:=λ{k cs t} hk I e=>by
  rcases V k e with⟨_,o,h1,h2⟩|h
  ·rw[hk]at h1;cases h1;cases h2
  ·have:=N k _ _ h;omega
 refine⟨v,(U.block b Z.lt (λe=>X Z D e.symm)).trans Z,ho.kept U ?_⟩
 rcases ho.2 with⟨rfl,_⟩|⟨g,cap,A,rfl,H,Y,_⟩
 ·exact .inl rfl
 ·refine .inr λe=>?_;have C:row=E g:=by rw[<-e];rfl
  rcases V g C with⟨_,o,h1,h2⟩|h
  ·rw[Y]at h1;cases h1;cases h2
  ·have:=N g _ _ h;omega
theorem alE(V:Wa)(x:Int):SlK 1 (V.alloc (i7 #[R K x] 3)) (E ⟨V.heap.size,0,O⟩) 1 [R K x]:=by
 refine⟨rfl,.inr ⟨V.heap.size,0,rfl,by simp,λi u Z=>?_⟩⟩;have:=GI (w:=V) #[R K x] 3 rfl i u (by simpa using Z)
 rwa[Cf]at this
def Kg(h:Int):Array Vk:=#[R K h]
theorem ac9{gf:Nat}{lb:Array Vk}{B:Nat}{Pb:Nat->Wa->Wa->Prop}{S:List Int->Wa->Prop}{Sp:List Int->Prop}{N n₀:Nat}(w:Wa)
  (eg:∀args w,(callFunc gf args).run ZP w=.ok (.enter gf args) w)
  (a7:Hi Fence.wide 8 ZP gf lb Kg (KpB B) Pb S Sp N w) (hB:B<=w.heap.size) (C:∀r W W',Pb r W W'->r<w.heap.size) (hSk:∀(xs:List Int)(W:Wa)(l:Nat)(o o':Obj),w.heap.size<=l->W.heap[l]?=E o->o.isCells=M->S xs W->S xs (W.putObj l o'))
  (a8:n₀<=w.heap.size) (al:∀r W W',Pb r W W'->n₀<=r) (hN:N<=1000000000) (ak:∀xs W,S xs W->lc xs<=1000000000) :
  Calls ZP 168 #[T O 0 0,.func (.func gf) #[] lb] w λe w'=>∃v xs W,e=ra v/\S xs W/\(∃D,w.heap.size<=D/\w'=W.putObj D (.deferred O))/\FR w' w.heap.size v xs/\Below n₀ w w':=by
 obtain⟨i0,hi,ae,ac,ab⟩:=Vh adY;obtain⟨W1,hW⟩:∃W,W=w.alloc (i7 #[T O 0 0] 30):=⟨_,rfl⟩;have X:Below w.heap.size w W1:=by rw[hW];exact AL _ _
 have bS:Boxed W1 w.heap.size 30 (T O 0 0):=by rw[hW];exact Boxed.new _ _ _
 have ai:W1.heap.size=w.heap.size+1:=by rw[hW];simp
 have a6:Hi Fence.wide 8 ZP gf lb Kg (KpB B) Pb S Sp N W1:=λl J Jx W hb=>a7 l J Jx W (X.trans (hb.mono X.size));refine Hc func168 rfl ?_;simp only[ntmps168,Cw,Ao,Bw,Nat.reduceAdd,Nat.reduceSub,Dd,Dc,DX,Da,Av,CT];go_upto_region 1 with fail
 rw[<-hW];clear hW a7;go_wp2;obtain⟨g,hg⟩:∃g,w.heap.size=g:=⟨_,rfl⟩;rw[hg]at bS ai X hB C hSk a8⊢;have HG:=AA hg
 apply NL rfl eg a6 (λr W W' hr=>by have:=C r W W' hr;omega) (λxs W l o o' hl=>hSk xs W l o o' om) KpB.t ?hKb (λ_=>rfl)
  (λU V=>amT g g U V/\Below n₀ w V/\W1.heap.size<=V.heap.size)
  (λ_ _ _=>False)
 case hKb=>exact λW l o o' hl _ _ _=>⟨by simp[World.putObj],λk h1 _=>Cm om⟩
 case wA=>exact λx W=>W
 case hwA=>exact λx W=>AH _ _
 case hKg=>exact λx W hW=>KpB.of_below (AH _ _)
 case hI=>exact BT.and (afQ (AC _) C id) (BT.and (BT.below om om al) (BT.size _ _ _))
 case hIx=>exact λ_ _ _ _ _ hs _ _=>hs
 case h0=>exact⟨⟨_,bS,BN _ _ _ _⟩,X.mono a8,AC _⟩
 case hassign=>
  intro l x W KB hK;unfold Kg
  gi_wp2
  exact hK
 case hbody=>
  rintro l U x Wb V au ⟨⟨v,j,Z⟩,A,a1⟩ am
  try dsimp only
  obtain⟨m,I⟩:∃m,lc U=m:=⟨_,rfl⟩;have ap:m<=1000000001:=by omega
  unfold FR at Z;rw[I]at Z;have s:=AA I;clear I;obtain⟨av,cv,rfl,aj,ag⟩:=SlK.own Z;have c2:=j.cell;have aq:=j.lt
  gi_wp2_with (gi_at_builtin;refine aa2 _ rfl _ _ 30 rfl g 3 i0 (.int .i64 0) 1 8 underlying30 hi ae ac ab rfl (by decide) _ _ _ rfl (Z.alloc _) (E ⟨V.heap.size,0,O⟩) 1 1 [.int .i64 x] rfl (alE V x) (by simp[Value.oneCell']) (by unfold maxLen;omega) om (by simp;omega) ?_;intro v' w5 Y H ar;obtain⟨g',ao,rfl⟩:=ownsRow_succ Y;obtain⟨b1,b2,b3,b4,b5⟩:=j.appended (Kf kr) Z om (AC _) Y H;have d1:=b1.cell;have d2:=b1.frozen;have d3:=b1.lt)
  refine⟨b4.from _,?_,⟨_,b2,?_⟩,A.trans (b5.mono om),AS a1 (by have:=b5.size;simpa using this)⟩
  ·exact KpB.of_below (b5.mono om)
  ·unfold FR;rw[List.length_append,s.out,Aj];exact b3
 case hstop=>exact λ_ _ _ _ _ _ h _=>h.elim
 case hdone=>
  rintro D xs V hD hS ⟨⟨v,j,Z⟩,A,a1⟩ aa;have af:=ak xs V hS;obtain⟨m,I⟩:∃m,lc xs=m:=⟨_,rfl⟩;unfold FR at Z;rw[I]at Z af;have s:=AA I;clear I;obtain⟨av,cv,rfl,aj,ag⟩:=SlK.own Z;have c2:=j.cell;have a2:=ownsRow_putObj Z (.deferred O) aa rfl;have HS:=AA hS;clear Z hS;go_wp2;refine Gg rfl aa (results_tmp rfl _ _ _) ⟨_,xs,V,rfl,HS.out,⟨D,by omega,rfl⟩,?_,FZ A om om _⟩;unfold FR;rw[s.out,HG.out];exact a2
theorem aex{U:Nat}{C:Array Vk}{B:Nat}{Pb:Nat->Wa->Wa->Prop}{S:List Int->Wa->Prop}{Sp:List Int->Prop}{N J:Nat}(w:Wa)
  (eg:∀args w,(callFunc U args).run ZP w=.ok (.enter U args) w)
  (Z:Hi Fence.wide 8 ZP U C Kg (KpB B) Pb S Sp N w) (hB:B<=w.heap.size) (V:∀r W H,Pb r W H->r<w.heap.size) (hSk:∀(xs:List Int)(W:Wa)(l:Nat)(o o':Obj),w.heap.size<=l->W.heap[l]?=E o->o.isCells=M->S xs W->S xs (W.putObj l o'))
  (I:J<=w.heap.size) (X:∀r W H,Pb r W H->J<=r) (hN:N<=1000000000) (Y:∀xs W,S xs W->lc xs<=1000000000) :
  Calls ZP 116 #[.func (.func U) #[] C] w λe w'=>∃v xs W,e=ra v/\S xs W/\(∃D,w.heap.size<=D/\w'=W.putObj D (.deferred O))/\FR w' w.heap.size v xs/\Below J w w':=by
 have HC:=AA (ac9 w eg Z hB V hSk I X hN Y);clear Z V hSk X Y;go_enter func116,ntmps116
 go_wp2_with fail
 refine HC.out.mono ?_;rintro e w1 ⟨v,xs,W,rfl,j,hD,A,s⟩;go_wp2;go_ret;exact⟨v,xs,W,rfl,j,hD,A,s⟩
end
section
attribute[local go_sem] Oper.semAt_some
attribute[local simp] Ak Al
attribute[local go_sem] Ak Al
def GZ(Z:List PlW)(next:Nat):Nat->List Int
 |0=>[]
 |j+1=>GZ Z next j++(if(Z.getD ((next+j) % lc Z) ((O,0,0),M)).2 then [((next+j:Nat):Int)] else [])
theorem acZ(Z:List PlW)(next:Nat):∀j,(GZ Z next j).length<=j
 |0=>AC _
 |j+1=>by
  have:=acZ Z next j;unfold GZ;rw[List.length_append]
  split<;>simp<;>omega
theorem adv{X:Nat->Prop}(p1 p2 Q B next:Nat)(U:List PlW)(H m:Nat)(w:Wa)(a8:w.heap[p1]?=E (i7 #[L (E ⟨Q,0,O⟩)] 262 (0,0)))(a7:w.heap[p2]?=E (i7 #[R K (next:Int)] 3 (0,0)))(hS:BZ X Q B next U w)(hx:next<=1000000000)(ap:p1<H)(ao:p2<H)(al:Q<H)(am:B<H)(hB:H<=w.heap.size) :Hi Fence.wide m ZP 169 #[L (E ⟨p1,0,O⟩),L (E ⟨p2,0,O⟩)] Kg (KpB H) (λ_ _ _=>False) (λxs _=>xs=GZ U next (lc U)) (λ_=>True) 1000001 w:=by
 intro lo J Jx W hW hJ aw hY h0;have base:Hid (∀V,(w.heap.size<=V.heap.size/\∀k,k<H->V.heap[k]?=w.heap[k]?)->V.cell? ⟨p1,0,O⟩=E (L (E ⟨Q,0,O⟩))/\V.cell? ⟨p2,0,O⟩=E (R K (next:Int))/\BZ X Q B next U V):=λV hV=>by have e1:=(hV.2 p1 ap).trans a8;have e2:=(hV.2 p2 ao).trans a7;exact⟨by simp[cell?,e1],by simp[cell?,e2],(hV.2 Q al).trans hS.box,(hV.2 B am).trans hS.places,hS.inX,hS.ne,hS.room⟩
 have ac:Hid (w.heap.size<=W.heap.size/\∀k,k<H->W.heap[k]?=w.heap[k]?):=⟨hW.size,λk hk=>hW.block k om⟩;have ag:=AA hB;obtain⟨r1,r2⟩:=hS.room;obtain⟨LO,hL⟩:∃LO,lc U=LO:=⟨_,rfl⟩;have HL:=AA hL;rw[hL]at r1 r2⊢;clear a8 a7 hS;obtain⟨c1,c2,hq⟩:=base.out W ac.out;have c3:W.cell? ⟨Q,0,O⟩=E (T (E ⟨B,0,O⟩) LO LO):=by simp[cell?,hq.box,hL]
 clear hq hL;refine callsIn_of_wp func169 rfl trivial ?_ rfl;simp only[ntmps169,Cw,Ao,Bw,Nat.reduceAdd,Nat.reduceSub,Dd,Dc,DX,Da,Av,CT]
 gi_wp2
 clear c1 c2 c3
 gi_loopw[10] (λi wr=>∃(j:Nat)(pre:List Int),j<=LO/\i=R K j/\Hid (pre=GZ U next j)/\J pre wr/\Hid (w.heap.size<=wr.heap.size/\∀k,k<H->wr.heap[k]?=w.heap[k]?)) (λi _=>LO-(intOf i).toNat)
 case atStart=>exact⟨0,[],AR _,rfl,rfl,h0,ac⟩
 case round=>
  obtain⟨j,pre,hk,rfl,HP,hj,D⟩:=hrel
  by_cases a1:j<LO
  ·have aj:decide ((j:Int)<(LO:Int))=G:=by simp;omega
   have av:decide (j<LO)=G:=by simp;omega
   obtain⟨b1,b2,hq⟩:=base.out wr D.out;have hl:=HL.out;have e1:IntKind.i64.wrap ((next:Int)+(j:Int))=((next+j:Nat):Int):=by rw[BK];omega
   have v:=AA (abP (next+j) wr hq om);have aa:(next+j) % LO<LO:=Ek _ om;obtain⟨⟨q,Y⟩,hx⟩:∃x,U[(next+j) % LO]?=E x:=⟨_,Ar om⟩;have N:GZ U next (j+1)=GZ U next j++(if Y then [((next+j:Nat):Int)] else []):=by
    show GZ U next j++_=_;rw[hl,DZ,hx]
    rfl
   have I:lc pre<1000001:=by rw[HP.out];have:=acZ U next j;omega
   rw[hl]at v;have a2:=AA hx;have a6:=AA N;have aq:=AA I;have A:=AA a1;have ar:=AA hj;obtain⟨s,hs⟩:∃s,next+j=s:=⟨_,rfl⟩;rw[hs]at e1 v a2 a6;obtain⟨i,hi⟩:∃i,s % LO=i:=⟨_,rfl⟩;rw[hi]at v a2;clear hq hl hx N I a1 hj hs hi aa
   gi_wp2_with fail
   refine(callsIn_wide.2 v.out).mono ?_;rintro e w2 ⟨rfl,C⟩;have Z:Hid (w.heap.size<=w2.heap.size/\∀k,k<H->w2.heap[k]?=w.heap[k]?):=⟨AS D.out.1 C.size,λk hk=>(C.block k (by have:=D.out.1;have:=ag.out;omega)).trans (D.out.2 k hk)⟩;have ae:=Jf hJ ar.out C;obtain⟨b1,b2,hq⟩:=base.out w2 Z.out;have x1:w2.cell? ⟨B,i*2+1,O⟩=E (i6 Y):=by have:=(Hz a2.out).2;simp[cell?,hq.places];exact this
   have af:=AA ae;clear hq C ae
   cases Y with
   |false=>
    gi_wp2
    go_roundw
    case rel=>exact⟨j+1,pre,A.out,by go_num,by rw[Hid,a6.out,HP.out];simp,af.out,Z⟩
    case measure=>
     have:=A.out;simp[intOf];omega
   |true=>
    obtain⟨fn,tmps,assign,body,ai,ak⟩:=hY pre (s:Int) w2 af.out aq.out;dsimp only[Kg]at ai
    gi_wp2
    refine ak.mono ?_;rintro e W5 (⟨rfl,hJ4,hk4⟩|⟨rfl,hJx4⟩)
    ·have ab:Hid (w.heap.size<=W5.heap.size/\∀k,k<H->W5.heap[k]?=w.heap[k]?):=⟨AS Z.out.1 hk4.1,λk hk=>(hk4.2 k hk (by have:=Z.out.1;have:=ag.out;omega)).trans (Z.out.2 k hk)⟩;have au:=AA hJ4;clear hk4 hJ4
     gi_wp2
     go_roundw
     case rel=>exact⟨j+1,_,A.out,by go_num,by rw[Hid,a6.out,HP.out];simp,au.out,ab⟩
     case measure=>
      have:=A.out;simp[intOf];omega
    ·gi_wp2
     refine Vi (results_none rfl _ _ _) rfl ?_;exact⟨⟨_,rfl⟩,.inr ⟨_,trivial,hJx4⟩⟩
  ·obtain rfl:j=LO:=by omega
   have aj:decide ((j:Int)<(j:Int))=M:=by simp
   clear a1
   gi_wp2
   go_end0
   exact⟨⟨_,rfl⟩,.inl ⟨pre,HP.out,hj⟩⟩
end
theorem ac5(Q next:Nat)(w:Wa) :Calls ZP 117 #[L (E ⟨Q,0,O⟩),R K (next:Int)] w λe w'=>e=ra (.func (.func 169) #[] #[L (E ⟨w.heap.size,0,O⟩),L (E ⟨w.heap.size+1,0,O⟩)])/\w'=(w.alloc (i7 #[L (E ⟨Q,0,O⟩)] 262)).alloc (i7 #[R K (next:Int)] 3):=by go_enter func117,ntmps117;go_wp2;go_ret;exact⟨rfl,rfl⟩
theorem aaI{X:Nat->Prop}{Q B next:Nat}{C:List PlW}(w:Wa)(h:BZ X Q B next C w)(hx:next<=1000000000) :Calls ZP 67 #[L (E ⟨Q,0,O⟩)] w λe w'=>∃v,e=ra v/\FR w' w.heap.size v (GZ C next (lc C))/\La w w':=by
 have c1:w.cell? ⟨Q,1,O⟩=E (R K (next:Int)):=by simp[cell?,h.box]
 obtain⟨D,hD⟩:∃D,D=w.drew:=⟨_,rfl⟩;have U:La w D:=by rw[hD];exact AN w 1
 have s:=h.keep (Y:=λ_=>False) (.of_same U) λ_ _ _ h=>h;have HN:=AA (ac5 Q next D);obtain⟨W,hW⟩:∃W,W=(D.alloc (i7 #[L (E ⟨Q,0,O⟩)] 262)).alloc (i7 #[R K (next:Int)] 3):=⟨_,rfl⟩;rw[<-hW]at HN;have I:La D W:=by rw[hW];exact(AL _ _).alloc sm _
 have hO:Bx D.heap.size [i7 #[L (E ⟨Q,0,O⟩)] 262,i7 #[R K (next:Int)] 3] W:=by rw[hW];exact((Bx.nil _ D).snoc _ rfl).snoc _ sm
 have J:W.heap[D.heap.size]?=E (i7 #[L (E ⟨Q,0,O⟩)] 262 (0,0)):=by have:=hO 0 _ rfl;rwa[DQ]at this
 have N:W.heap[D.heap.size+1]?=E (i7 #[R K (next:Int)] 3 (0,0)):=hO 1 _ rfl;have Z:=s.keep (Y:=λ_=>False) (.of_same I) λ_ _ _ h=>h;have A:=adv (X:=X) D.heap.size (D.heap.size+1) Q B next C W.heap.size 8 W J N Z hx (AD.1 J).1 (AD.1 N).1 (AD.1 Z.box).1 (AD.1 Z.places).1 (AC _);have hr:=h.room;have HC:=AA (aex W (Vj func169 kr rfl) A (AC _) (λ_ _ _ h=>h.elim) (λ_ _ _ _ _ _ _ _ h=>h) (AC _) (λ_ _ _ h=>h.elim) om (λxs V h=>by rw[h];have:=acZ C next (lc C);omega));have H:W.cell? ⟨Q,1,O⟩=E (R K (next:Int)):=by simp[cell?,Z.box]
 have a7:=AA H;have a6:Hid (∀V,La W V->V.cell? ⟨Q,1,O⟩=E (R K (next:Int))):=λV hV=>(hV.cell (p:=⟨Q,1,O⟩) (AD.1 Z.box).1).trans H;have HB:=AA (U.trans (I.mono U.size));have ab:=AA U.size;clear h U s hW I hO J N Z A hr H;go_enter func67,ntmps67;go_upto_region 3 with fail
 refine Ve ?_;refine Vd (S:=λY=>Y.cell? ⟨Q,1,O⟩=E (R K (next:Int))) kr c1 (λhHeld=>?_);rw[<-hD]at hHeld⊢;clear hD c1;refine tkA 0 ?_;refine tkA 1 ?_;refine tkA 2 ?_;refine tkA 3 ?_;refine tkA 4 ?_;refine tkA 5 ?_;refine tkW 6 (v:=?_) ?_ ?_;rotate_left
 ·intro V hV;have q0:V.cell? ⟨Q,1,O⟩=E (R K (next:Int)):=hV
  first|(go_simp;done)|(go_simp;with_reducible rfl)
 try simp only[pq]
 refine rdy 7 (λKB j=>?_);go_simp
 go_at_call 117;refine(HN.out).mono ?_;rintro e w5 ⟨rfl,rfl⟩
 refine j.out _ _ (a7.out) (λa1=>?_);clear j KB
 try simp only[pq]
 refine rdy 8 (λKB j=>?_);go_simp
 go_at_call 116;refine(HC.out).mono ?_;rintro e w6 ⟨v,xs,V,rfl,rfl,a2,ho,hb⟩
 refine j.out _ _ ((a6.out _ hb)) (λaa=>?_);clear j KB
 try simp only[pq]
 have HO:=AA ho;have a8:=AA hb;clear a2 ho hb a1 hHeld;refine tkA 9 ?_;refine Vg kr ?_ _;refine At ?_;go_wp2;go_ret;exact⟨_,rfl,NC HO.out HB.out.size,HB.out.trans (a8.out.mono HB.out.size)⟩
theorem aob:∀m:Nat,m<=16->(Builtin.zeroCells #[R K 0,R K 0] m).toList=CJ (List.replicate m (0,0))
 |0,_=>by kernel_rfl
 |1,_=>by kernel_rfl
 |2,_=>by kernel_rfl
 |3,_=>by kernel_rfl
 |4,_=>by kernel_rfl
 |5,_=>by kernel_rfl
 |6,_=>by kernel_rfl
 |7,_=>by kernel_rfl
 |8,_=>by kernel_rfl
 |9,_=>by kernel_rfl
 |10,_=>by kernel_rfl
 |11,_=>by kernel_rfl
 |12,_=>by kernel_rfl
 |13,_=>by kernel_rfl
 |14,_=>by kernel_rfl
 |15,_=>by kernel_rfl
 |16,_=>by kernel_rfl
 |m+17,h=>absurd h om
theorem acU(W:Wa)(B LO:Nat)(X:List AF)(h:W.heap[B]?=E (i7 (CJ X).toArray 116 (0,0)))(hL:lc X=LO)(h1:1<=LO)(h2:LO<=16) :∃D,(∀ty,(Builtin.clear_ #[69] ty #[T (E ⟨B,0,O⟩) LO LO]).run ZP W=.ok (ta #[]) D)/\D.heap[B]?=E (i7 (CJ (List.replicate LO (0,0))).toArray 116 (0,0))/\W.grownBy D (E B):=by
 obtain⟨i0,H,N,s,A⟩:=Vh IG;have j:ZP.underlying 69=E (.slice 116):=underlying69;have C:=aob LO h2;have V:(CJ (List.replicate LO (0,0))).length=LO*2:=by rw[agi,CS]
 have U:(CJ X).length=LO*2:=by rw[agi,hL]
 have Z:=run_storeCells_at (P:=ZP) B 0 116 (CJ (List.replicate LO (0,0))) 0 (CJ X).toArray W h (by simp[V,U]) (λv Y=>by unfold CJ at Y;obtain⟨p,hp,Y⟩:=Ir.1 Y;rw[(List.mem_replicate.1 hp).2]at Y;simp[NM]at Y;rw[Y];simp[Value.oneCell'])
 have e:((CJ X).toArray.toList.take (0+0)++CJ (List.replicate LO (0,0))++(CJ X).toArray.toList.drop (0+0+(CJ (List.replicate LO (0,0))).length)).toArray=(CJ (List.replicate LO (0,0))).toArray:=by congr 1;rw[V,DQ,DD,List.take_zero,Av,List.drop_of_length_le (by simp[U]),Cx]
 rw[e]at Z;refine⟨W.setRow B (CJ (List.replicate LO (0,0))).toArray,λty=>?_,?_,?_⟩
 ·obtain⟨m,hm⟩:∃m,LO=m+1:=⟨LO-1,by omega⟩;rw[<-C]at Z;rw[<-C];rw[hm]at Z⊢;have Y:∀w,(zeroValue 116).run ZP w=.ok (i8 #[R K 0,R K 0]) w:=λw=>by simp[zeroValue,typeInfo,H,N]
  have J:(Value.agg #[.int .i64 0,.int .i64 0]).cells=#[.int .i64 0,.int .i64 0]:=rfl;simp[Builtin.clear_,run_underlying j,Y,J,Z]
 ·simp[World.setRow,Js,h]
 ·refine⟨rfl,rfl,rfl,by simp[World.setRow],λk _ I=>?_⟩;have hk:¬B=k:=λe=>I (by rw[e]);simp[World.setRow,Js,hk]
theorem aeC{X:Nat->Prop}{Q B first many:Nat}{closed:Bool}{v:List AF}(w:Wa)(h:AY X Q B first many closed v w) :Calls ZP 211 #[L (E ⟨Q,0,O⟩)] w λe w'=>e=ra (R K (many:Int))/\AY X Q B 0 0 closed (List.replicate (lc v) (0,0)) w'/\Chg X w w':=by
 obtain⟨LO,H⟩:∃LO,lc v=LO:=⟨_,rfl⟩;obtain⟨r1,r2,r3,r4⟩:=h.room;have c0:w.cell? ⟨Q,0,O⟩=E (T (E ⟨B,0,O⟩) LO LO):=by simp[cell?,h.box,H]
 have c2:w.cell? ⟨Q,2,O⟩=E (R K (many:Int)):=by simp[cell?,h.box]
 obtain⟨I,a1,D,J⟩:=acU w B LO v h.places H om om;have A:=(AD.1 h.box).1;have Z:I.heap[Q]?=E (i7 #[T (E ⟨B,0,O⟩) LO LO,R K (first:Int),R K (many:Int),i6 closed] 205 (0,0)):=by rw[J.block Q A (λe=>h.ne (AK e)),<-H];exact h.box
 have Y:(List.replicate LO ((0:Int),(0:Int))).length=LO:=CS;have C:AY X Q B first many closed (List.replicate LO (0,0)) I:=⟨by rw[Y];exact Z,D,h.inX,h.ne,by rw[Y,<-H];exact h.room⟩;obtain⟨g1,g2⟩:=C.setF 0 (by rw[Y];omega);obtain⟨j,s⟩:=g1.setM 0 (AR _);have K1:=AA j;have K2:=AA ((((Chg.refl X w).grown J λg e _=>by cases e;exact h.inX.2).then g2).then s);have f1:I.frozen? ⟨Q,1,O⟩=M:=by simp[frozen?,Z]
 have d1:I.cell? ⟨Q,1,O⟩=E (R K (first:Int)):=by simp[cell?,Z]
 obtain⟨W2,N⟩:∃V,V=I.setCell ⟨Q,1,O⟩ (R K 0):=⟨_,rfl⟩;have U:=AJ (i:=1) Z (R K 0);rw[<-N]at U;have f2:(I.setCell ⟨Q,1,O⟩ (R K 0)).frozen? ⟨Q,2,O⟩=M:=by rw[<-N];simp[frozen?,U]
 have d2:(I.setCell ⟨Q,1,O⟩ (R K 0)).cell? ⟨Q,2,O⟩=E (R K (many:Int)):=by rw[<-N];simp[cell?,U]
 rw[H];clear h r1 r2 r3 r4 D J A Z Y C g1 g2 j s N U H;go_enter func211,ntmps211;go_wp2;go_ret;exact⟨rfl,K1.out,K2.out⟩
theorem ap9:∀m:Nat,m<=16->madeCells (Value.agg #[T O 0 0,i6 M]).cells (m*2)=(plC (List.replicate m ((O,0,0),M))).toArray
 |0,_=>by kernel_rfl
 |1,_=>by kernel_rfl
 |2,_=>by kernel_rfl
 |3,_=>by kernel_rfl
 |4,_=>by kernel_rfl
 |5,_=>by kernel_rfl
 |6,_=>by kernel_rfl
 |7,_=>by kernel_rfl
 |8,_=>by kernel_rfl
 |9,_=>by kernel_rfl
 |10,_=>by kernel_rfl
 |11,_=>by kernel_rfl
 |12,_=>by kernel_rfl
 |13,_=>by kernel_rfl
 |14,_=>by kernel_rfl
 |15,_=>by kernel_rfl
 |16,_=>by kernel_rfl
 |m+17,h=>absurd h om
theorem aj8:∃i,ZP.info? 264=E i/\i.zero=E (i8 #[T O 0 0,i6 M])/\i.size=2/\i.bytes<=100:=by
 have h:((ZP.info? 264).map λi=>(i.zero,i.size,decide (i.bytes<=100)))=E (E (i8 #[T O 0 0,i6 M]),2,G):=by kernel_rfl
 cases e:ZP.info? 264 with
 |none=>rw[e]at h;cases h
 |some i=>
  rw[e]at h;have h:=AK h
  injection h with h1 h2
  injection h2 with h2 h3
  exact⟨i,rfl,h1,h2,Kf h3⟩
theorem akT(m:Nat)(w:Wa)(h1:1<=m)(h2:m<=16) :Calls ZP 98 #[R K (m:Int)] w λe w'=>∃Q B,e=ra (ta #[L (E ⟨Q,0,O⟩),R K 0])/\BZ (λk=>w.heap.size<=k) Q B 0 (List.replicate m ((O,0,0),M)) w'/\La w w':=by
 have a2:∀V:Wa,(Instr.makeSlice 195 (R K m) (R K m)).run ZP V=.ok (T (E ⟨V.heap.size,0,O⟩) m m) (V.alloc (i7 (plC (List.replicate m ((O,0,0),M))).toArray 264)):=λV=>by
  obtain⟨H,hi,C,N,D⟩:=aj8;have a6:H.bytes*m<=100*16:=GR D h2;have j:(H.bytes:Int)*(m:Int)<=281474976710656:=by rw[<-Iy];omega
  have h:=run_makeSlice (P:=ZP) (w:=V) 195 264 H (i8 #[.slice O 0 0,.bool M]) underlying195 hi C .i64 .i64 (m:Int) (m:Int) om om (by rw[N];omega) j om;rw[N,Aa,ap9 m h2]at h;exact h
 have d0:decide ((m:Int)<1)=M:=by simp;omega
 have d1:decide ((m:Int) > 16)=M:=by simp;omega
 have a7:decide ((16:Int)<(m:Int))=M:=by simp;omega
 have d2:decide (m<1)=M:=by simp;omega
 have d3:decide (16<m)=M:=by simp;omega
 have d4:decide (m=0)=M:=by simp;omega
 have a1:=AA (Va h1 h2);clear h1 h2;go_enter func98,ntmps98;go_wp2;go_ret2;obtain⟨h1,h2⟩:=a1.out;have U:(List.replicate m ((O,0,0),M):List PlW).length=m:=CS;obtain⟨X,Z⟩:∃V,V=w.alloc (i7 (plC (List.replicate m ((O,0,0),M))).toArray 264):=⟨_,rfl⟩;obtain⟨W2,Y⟩:∃V,V=X.alloc (i7 #[T (E ⟨w.heap.size,0,O⟩) m m,R K 0] 199):=⟨_,rfl⟩;have v:X.heap[w.heap.size]?=E (i7 (plC (List.replicate m ((O,0,0),M))).toArray 264 (0,0)):=by rw[Z];exact AT _ _
 have s:X.heap.size=w.heap.size+1:=by rw[Z];simp
 have A:W2.heap[X.heap.size]?=E (i7 #[T (E ⟨w.heap.size,0,O⟩) m m,R K 0] 199 (0,0)):=by rw[Y];exact AT _ _
 have I:La w X:=by rw[Z];exact AL _ _
 have J:La X W2:=by rw[Y];exact AL _ _
 have hQ:BZ (λk=>w.heap.size<=k) X.heap.size w.heap.size 0 (List.replicate m ((O,0,0),M)) W2:=⟨by rw[U];exact A,(J.block w.heap.size om).trans v,⟨by show w.heap.size<=X.heap.size;omega,AC _⟩,by omega,by rw[U];omega⟩;have hB:=I.trans (J.mono I.size);rw[s]at hQ;refine⟨w.heap.size+1,w.heap.size,rfl,?_,?_⟩
 ·rw[Y,Z]at hQ;exact hQ
 ·rw[Y,Z]at hB;exact hB
theorem aoj:∀m:Nat,m<=16->(Builtin.zeroCells #[T O 0 0,i6 M] m).toList=plC (List.replicate m ((O,0,0),M))
 |0,_=>by kernel_rfl
 |1,_=>by kernel_rfl
 |2,_=>by kernel_rfl
 |3,_=>by kernel_rfl
 |4,_=>by kernel_rfl
 |5,_=>by kernel_rfl
 |6,_=>by kernel_rfl
 |7,_=>by kernel_rfl
 |8,_=>by kernel_rfl
 |9,_=>by kernel_rfl
 |10,_=>by kernel_rfl
 |11,_=>by kernel_rfl
 |12,_=>by kernel_rfl
 |13,_=>by kernel_rfl
 |14,_=>by kernel_rfl
 |15,_=>by kernel_rfl
 |16,_=>by kernel_rfl
 |m+17,h=>absurd h om
theorem aeE(W:Wa)(B LO:Nat)(X:List PlW)(h:W.heap[B]?=E (i7 (plC X).toArray 264 (0,0)))(hL:lc X=LO)(h1:1<=LO)(h2:LO<=16) :∃D,(∀ty,(Builtin.clear_ #[195] ty #[T (E ⟨B,0,O⟩) LO LO]).run ZP W=.ok (ta #[]) D)/\D.heap[B]?=E (i7 (plC (List.replicate LO ((O,0,0),M))).toArray 264 (0,0))/\W.grownBy D (E B):=by
 obtain⟨i0,H,N,s,A⟩:=aj8;have j:ZP.underlying 195=E (.slice 264):=underlying195;have C:=aoj LO h2;have V:(plC (List.replicate LO ((O,0,0),M))).length=LO*2:=by rw[air,CS]
 have U:(plC X).length=LO*2:=by rw[air,hL]
 have Z:=run_storeCells_at (P:=ZP) B 0 264 (plC (List.replicate LO ((O,0,0),M))) 0 (plC X).toArray W h (by simp[V,U]) (λv Y=>by
  unfold plC at Y;obtain⟨p,hp,Y⟩:=Ir.1 Y;rw[(List.mem_replicate.1 hp).2]at Y;simp[plE]at Y
  rcases Y with rfl|rfl<;>simp[Value.oneCell'])
 have e:((plC X).toArray.toList.take (0+0)++plC (List.replicate LO ((O,0,0),M))++(plC X).toArray.toList.drop (0+0+(plC (List.replicate LO ((O,0,0),M))).length)).toArray=(plC (List.replicate LO ((O,0,0),M))).toArray:=by congr 1;rw[V,DQ,DD,List.take_zero,Av,List.drop_of_length_le (by simp[U]),Cx]
 rw[e]at Z;refine⟨W.setRow B (plC (List.replicate LO ((O,0,0),M))).toArray,λty=>?_,?_,?_⟩
 ·obtain⟨m,hm⟩:∃m,LO=m+1:=⟨LO-1,by omega⟩;rw[<-C]at Z;rw[<-C];rw[hm]at Z⊢;have Y:∀w,(zeroValue 264).run ZP w=.ok (i8 #[T O 0 0,i6 M]) w:=λw=>by simp[zeroValue,typeInfo,H,N]
  have J:(Value.agg #[.slice O 0 0,.bool M]).cells=#[.slice O 0 0,.bool M]:=rfl;simp[Builtin.clear_,run_underlying j,Y,J,Z]
 ·simp[World.setRow,Js,h]
 ·refine⟨rfl,rfl,rfl,by simp[World.setRow],λk _ I=>?_⟩;have hk:¬B=k:=λe=>I (by rw[e]);simp[World.setRow,Js,hk]
theorem adD{X:Nat->Prop}{Q B next:Nat}{H:List PlW}(w:Wa)(h:BZ X Q B next H w)(hx:next<=1000000000) :Calls ZP 207 #[L (E ⟨Q,0,O⟩)] w λe w'=>(∃v,e=ra v)/\BZ X Q B next (List.replicate (lc H) ((O,0,0),M)) w'/\Chg X w w':=by
 have HN:=AA (aaI w h hx);have HH:=AA h;obtain⟨LO,C⟩:∃LO,lc H=LO:=⟨_,rfl⟩;obtain⟨s,A⟩:=h.room;have HL:=AA C;rw[C]at s A;rw[C]at HN⊢;clear h C;go_enter func207,ntmps207
 go_wp2_with fail
 refine HN.out.mono ?_;rintro e w1 ⟨v,rfl,ho,j⟩;obtain⟨a1,c1,rfl,_,_⟩:=SlK.own ho;have Z:=HH.out.keep (Y:=λ_=>False) (.of_same j) λ_ _ _ h=>h;have D:=HL.out;have c0:w1.cell? ⟨Q,0,O⟩=E (T (E ⟨B,0,O⟩) LO LO):=by simp[cell?,Z.box,D]
 obtain⟨W1,a2,N,U⟩:=aeE w1 B LO H Z.places D s A;have I:=(AD.1 Z.box).1;have J:W1.heap[Q]?=E (i7 #[T (E ⟨B,0,O⟩) LO LO,R K (next:Int)] 199 (0,0)):=by rw[U.block Q I (λe=>Z.ne (AK e)),<-D];exact Z.box
 have V:(List.replicate LO ((((O:Option Addr),(0:Nat),(0:Nat)),M):PlW)).length=LO:=CS;have K1:Hid (BZ X Q B next (List.replicate LO ((O,0,0),M)) W1):=⟨by rw[V];exact J,N,Z.inX,Z.ne,by rw[V];exact⟨s,A⟩⟩;have K2:Hid (Chg X w W1):=(Chg.of_same j).grown U λg e _=>by cases e;exact Z.inX.2
 clear ho j Z D N U I J V;go_wp2;go_ret;exact⟨⟨_,rfl⟩,K1.out,K2.out⟩
theorem KV{a n i j:Nat}(h:i<n)(X:j<n)(Y:i≠j):(a+i) % n≠(a+j) % n:=λe=>by
 have h1:=Nat.div_add_mod (a+i) n;have h2:=Nat.div_add_mod (a+j) n;rw[e]at h1;have h3:n*((a+i) / n)+j=n*((a+j) / n)+i:=by omega
 rcases Nat.lt_trichotomy ((a+i) / n) ((a+j) / n)with Z|Z|Z
 ·have:=Nat.mul_le_mul_left n (Nat.succ_le_of_lt Z);rw[Nat.mul_succ]at this;omega
 ·rw[Z]at h3;omega
 ·have:=Nat.mul_le_mul_left n (Nat.succ_le_of_lt Z);rw[Nat.mul_succ]at this;omega
theorem agC(a i n:Nat):((a+1) % n+i) % n=(a+(i+1)) % n:=by rw[Nat.mod_add_mod];congr 1;omega
section
variable {A:PAd}{c:CfM}{s s' s'':PlM}{o:Nat->Nat}{w w' w'':Wa}
theorem AE.weak(h:AE A c o s' w w'):∀k,k<w.heap.size->o k=0->w'.heap[k]?=w.heap[k]?:=λk hk h0=>by obtain⟨o',_,_,h3⟩:=h;exact h3.c.block k hk λe=>e.1 h0
theorem AE.lift(h:AE A c o s w w'){f:FuncId}{args:Array Vk}{Ra:Ending->Wa->Prop}(k:∀o',AI A c o' s w'->(∀k,o k=0->o' k=0)->Calls ZP f args w' λe w''=>Ra e w''/\AE A c o' s' w' w'') :Calls ZP f args w' λe w''=>Ra e w''/\AE A c o s' w w'':=by obtain⟨Y,h1,h2,h3⟩:=h;refine(k Y h1 h2).mono ?_;rintro e J ⟨X,Z,N,U,V⟩;exact⟨X,Z,N,λk hk=>U k (h2 k hk),h3.trans h2 V⟩
theorem AE.bel(h:AE A c o s w w')(Z:La w' w''):AE A c o s w w'':=h.then λY h1 _=>h1.gr Z
theorem AE.low(h:AE A c o s w w'){Ra:Prop}(k:∀o',AI A c o' s w'->Ra):Ra:=let⟨o1,h1,_⟩:=h;k o1 h1
theorem AE.setR(h:AE A c o s w w')(i:Nat)(v:Vk)(Z:RdM)(X:∀Y,(rdV A s.rd Y).setIfInBounds i v=rdV A Z Y)(V:Z.tail=s.rd.tail) :AE A c o {s with rd:=Z} w (w'.setCell ⟨A.R,i,O⟩ v):=h.then λU h1 _=>.of_same (h1.chgR i v) (h1.setR i v Z X V).1
theorem AE.setP(h:AE A c o s w w')(i:Nat)(v:Vk)(s':PlM)(U:∀Y,(EK A c s Y).setIfInBounds i v=EK A c s' Y)(N:s'.took=s.took)(J:∀u X Z V,u≠1->Ai A c s X Z V u->Ai A c s' X Z V u) :AE A c o s' w (w'.setCell ⟨A.P,i,O⟩ v):=h.then λI h1 _=>.of_same (h1.chgP i v) (h1.setP i v s' U N J).1
theorem AE.setM(h:AE A c o s w w')(ph:Nat):AE A c o {s with mph:=ph} w (w'.setCell ⟨A.M,1,O⟩ (.int .u8 (ph:Int))):=h.then λZ h1 _=>.of_same (h1.chgM 1 _) (h1.setM ph).1
theorem AE.setE(h:AE A c o s w w')(ph:Nat):AE A c o {s with eph:=ph} w (w'.setCell ⟨A.E,1,O⟩ (.int .u8 (ph:Int))):=h.then λZ h1 _=>.of_same (h1.chgE 1 _) (h1.setE ph).1
theorem AE.frR(h:AE A c o s w w')(i:Nat):w'.frozen? ⟨A.R,i,O⟩=M:=h.low λY h1=>by obtain⟨Z,h2,_⟩:=h1.cR;simp[frozen?,h2]
theorem AE.frP(h:AE A c o s w w')(i:Nat):w'.frozen? ⟨A.P,i,O⟩=M:=h.low λY h1=>by obtain⟨Z,h2⟩:=h1.cP;simp[frozen?,h2]
theorem AE.ceP(h:AE A c o s w w')(i:Nat)(v:Vk)(Y:∀Z,(EK A c s Z)[i]?=E v):w'.cell? ⟨A.P,i,O⟩=E v:=h.low λX h1=>by obtain⟨Z,h2⟩:=h1.cP;simp only[cell?,h2];exact Y Z
theorem AE.ceR(h:AE A c o s w w')(i:Nat)(v:Vk)(Y:∀Z,(rdV A s.rd Z)[i]?=E v):w'.cell? ⟨A.R,i,O⟩=E v:=h.low λX h1=>by obtain⟨Z,h2,_⟩:=h1.cR;simp only[cell?,h2];exact Y Z
theorem AE.tail(h:AE A c o s w w'):∃a Z,w'.cell? ⟨A.R,11,O⟩=E (T a (lc s.rd.tail) Z)/\Bys w' a (lc s.rd.tail) s.rd.tail/\lc s.rd.tail<=Z:=h.low λX h1=>by obtain⟨Y,h2,h3⟩:=h1.cR;obtain⟨a,Z,rfl,h4,h5⟩:=h3.shape;exact⟨a,Z,by simp only[cell?,h2];rfl,h5,h4⟩
theorem AE.neRP(h:AE A c o s w w'):A.R≠A.P:=h.low λZ h1 e=>by obtain⟨Y,_,h2,_⟩:=h1.part 8 om;obtain⟨Y,_,h3,_⟩:=h1.part 1 om;have h2:Z A.R=8:=h2;have h3:Z A.P=1:=h3;rw[e,h3]at h2;exact absurd h2 (by decide)
theorem AE.belZ(h:AE A c o s w w')(Y:La w' w''):∃o',AI A c o' s w''/\(∀k,o k=0->o' k=0)/\PB o o' w w''/\∀k,w'.heap.size<=k->k<w''.heap.size->o' k=0:=by
 obtain⟨V,h1,h2,h3⟩:=h;refine⟨_,h1.grow 0 om Y,λk hk=>?_,⟨h3.c.same Y,λk hk e=>(FV (Af hk h3.c.size)).trans (h3.f k hk e)⟩,λk hk Z=>Mq hk Z⟩
 by_cases X:k<w'.heap.size
 ·rw[FV X];exact h2 k hk
 ·have:=h1.out k om;have:=h2 k hk;omega
theorem AE.comp{Z:Nat->Nat}(Y:∀k,o k=0->Z k=0)(V:PB o Z w w')(h:AE A c Z s' w' w''):AE A c o s' w w'':=by obtain⟨X,h1,h2,h3⟩:=h;exact⟨X,h1,λk hk=>h2 k (Y k hk),V.trans Y h3⟩
/- The queue of blocks. -/
theorem aoN(h:AI A c o s w):Calls ZP 194 #[L (E ⟨A.Q,0,O⟩)] w λe w'=>e=ra (R K ((c.Q-(lc s.q):Nat):Int))/\La w w':=by
 obtain⟨first,Z,h1,h2,h3⟩:Gm A c s (λk=>o k=5) (λk=>o k=0) w:=h.part 5 om;have:=aiC w h1
 rwa[h2]at this
theorem apa(h:AI A c o s w):Calls ZP 198 #[L (E ⟨A.Q,0,O⟩)] w λe w'=>e=ra (R K (lc s.q:Int))/\La w w':=by obtain⟨first,Z,h1,h2,h3⟩:Gm A c s (λk=>o k=5) (λk=>o k=0) w:=h.part 5 om;exact amG w h1
theorem alC(h:AI A c o s w):Calls ZP 71 #[L (E ⟨A.Q,0,O⟩)] w λe w'=>e=ra (i6 s.shut)/\La w w':=by obtain⟨first,Z,h1,h2,h3⟩:Gm A c s (λk=>o k=5) (λk=>o k=0) w:=h.part 5 om;exact afj w h1
theorem anD(h:AI A c o s w):Calls ZP 197 #[L (E ⟨A.Q,0,O⟩)] w λe w'=>(∃v,e=ra v)/\AE A c o {s with shut:=G} w w':=by obtain⟨first,Y,h1,h2,h3⟩:Gm A c s (λk=>o k=5) (λk=>o k=0) w:=h.part 5 om;refine(ahs w h1).mono ?_;rintro e w' ⟨rfl,J,Z⟩;refine⟨⟨_,rfl⟩,h.upG 5 om om Z ⟨first,Y,J.wide λ_ _ U=>.inl U,h2,λi b N=>?_⟩ (Ai.congr 5)⟩;obtain⟨p,V,X⟩:=h3 i b N;exact⟨p,V,X.keep Z λk _ I e2=>by rw[I]at e2;exact absurd e2 (by decide)⟩
theorem ahj(h:AI A c o s w)(N:s.q=[]):Calls ZP 199 #[L (E ⟨A.Q,0,O⟩)] w λe w'=>e=ra (ta #[i8 #[R K 0,R K 0,R K 0,T O 0 0,R K 0],i6 M])/\AE A c o s w w':=by obtain⟨first,Y,h1,h2,h3⟩:Gm A c s (λk=>o k=5) (λk=>o k=0) w:=h.part 5 om;refine(ak0 w h1 (by rw[N];rfl)).mono ?_;rintro e w' ⟨rfl,I,Z⟩;refine⟨rfl,h.upG 5 om om Z ⟨first,Y,I.wide λ_ _ U=>.inl U,h2,λi b J=>?_⟩ (Ai.congr 5)⟩;obtain⟨p,V,X⟩:=h3 i b J;exact⟨p,V,X.keep Z λk _ H e2=>by rw[H]at e2;exact absurd e2 (by decide)⟩
theorem ahd(h:AI A c o s w)(b:Bc)(q:List Bc)(Y:s.q=b::q):Calls ZP 199 #[L (E ⟨A.Q,0,O⟩)] w λe w'=>∃p:PcW,e=ra (ta #[i8 #[R K p.num,R K p.start,R K p.warm,T p.a p.m p.c,R K p.buf],i6 G])/\PcD (λk=>o k=0) w' p b/\AE A c o {s with q:=q} w w':=by
 obtain⟨first,ps,h1,h2,h3⟩:Gm A c s (λk=>o k=5) (λk=>o k=0) w:=h.part 5 om;have hr:=h1.room;have Z:lc s.q=lc q+1:=by rw[Y];rfl
 obtain⟨p,N,X⟩:=h3 0 b (by rw[Y];rfl);rw[DQ,Nat.mod_eq_of_lt om]at N;refine(akk p w h1 om N).mono ?_;rintro e w' ⟨rfl,I,V⟩;have U:∀k,k<w.heap.size->o k=0->¬o k=5:=λk _ e1 e2=>by rw[e1]at e2;exact absurd e2 (by decide)
 refine⟨p,rfl,X.keep V U,h.upG 5 om om V ?_ (Ai.congr 5)⟩;rw[Z,Jl,h2]at I;refine⟨_,_,I.wide λ_ _ B=>.inl B,by rw[BG];exact h2,λi b' J=>?_⟩;have v:i<lc q:=(AP.1 J).1;obtain⟨H,C,D⟩:=h3 (i+1) b' (by rw[Y];exact J);refine⟨H,?_,D.keep V U⟩;rw[agC,FH]
 ·exact C
 ·have:=KV (a:=first) (n:=c.Q) (i:=0) (j:=i+1) om om om
  rwa[DQ,Nat.mod_eq_of_lt om]at this
theorem ap7(h:AI A c o s w)(b:Bc)(p:PcW)(a:Option Addr)(H:Nat)(hq:lc s.q<c.Q)(I:s.shut=M)(X:PcD (λk=>o k=0) w p b)(hp:SlK 5 w a 1 [R K p.num,R K p.start,R K p.warm,T p.a p.m p.c,R K p.buf]) :Calls ZP 196 #[L (E ⟨A.Q,0,O⟩),T a 1 H] w λe w'=>(∃v,e=ra v)/\AE A c o {s with q:=s.q++[b]} w w':=by
 obtain⟨first,N,h1,h2,h3⟩:Gm A c s (λk=>o k=5) (λk=>o k=0) w:=h.part 5 om;rw[I]at h1;refine(ama p a H w h1 om hp).mono ?_;rintro e w' ⟨rfl,g1,U⟩;have J:∀k,k<w.heap.size->o k=0->¬o k=5:=λk _ Y e2=>by rw[Y]at e2;exact absurd e2 (by decide)
 refine⟨⟨_,rfl⟩,h.upG 5 om om U ?_ (Ai.congr 5)⟩;have Y:(s.q++[b]).length=lc s.q+1:=by simp
 refine⟨first,N.set ((first+lc s.q) % lc N) p,?_,by rw[BG];exact h2,λi b' Z=>?_⟩
 ·show Ab _ _ _ _ (s.q++[b]).length s.shut _ _;rw[Y,I];exact g1.wide λ_ _ j=>.inl j
 ·have V:i<(s.q++[b]).length:=(AP.1 Z).1;have hr:=h1.room;rw[Y]at V;have Z:(s.q++[b])[i]?=E b':=Z
  by_cases hl:i<lc s.q
  ·rw[By hl]at Z;obtain⟨D,B,C⟩:=h3 i b' Z;refine⟨D,?_,C.keep U J⟩;rw[h2,FH (λe=>KV (a:=first) (n:=c.Q) om om om e)];exact B
  ·have:i=lc s.q:=by omega
   subst this;rw[MX]at Z
   cases AK Z
   refine⟨p,?_,X.keep U J⟩;rw[h2,FU (by rw[h2];exact Ek _ om)]
/- The queue of hits. -/
theorem aoq(h:AI A c o s w):Calls ZP 205 #[L (E ⟨A.O,0,O⟩)] w λe w'=>e=ra (R K ((c.O-(lc s.out):Nat):Int))/\La w w':=by
 obtain⟨first,Z,h1,h2,h3⟩:GN A c s (λk=>o k=7) w:=h.part 7 om;have:=ajo w h1
 rwa[h2]at this
theorem ap6(h:AI A c o s w):Calls ZP 68 #[L (E ⟨A.O,0,O⟩)] w λe w'=>e=ra (R K (lc s.out:Int))/\La w w':=by obtain⟨first,Z,h1,h2,h3⟩:GN A c s (λk=>o k=7) w:=h.part 7 om;exact aml w h1
theorem akY(h:AI A c o s w):Calls ZP 72 #[L (E ⟨A.O,0,O⟩)] w λe w'=>e=ra (i6 s.ended)/\La w w':=by obtain⟨first,Z,h1,h2,h3⟩:GN A c s (λk=>o k=7) w:=h.part 7 om;exact ag5 w h1
theorem an3(h:AI A c o s w):Calls ZP 245 #[L (E ⟨A.O,0,O⟩)] w λe w'=>(∃v,e=ra v)/\AE A c o {s with ended:=G} w w':=by obtain⟨first,Z,h1,h2,h3⟩:GN A c s (λk=>o k=7) w:=h.part 7 om;refine(ahp w h1).mono ?_;rintro e w' ⟨rfl,V,X⟩;exact⟨⟨_,rfl⟩,h.upG 7 om om X ⟨first,Z,V.wide λ_ _ Y=>.inl Y,h2,h3⟩ (Ai.congr 7)⟩
theorem anh(h:AI A c o s w):Calls ZP 211 #[L (E ⟨A.O,0,O⟩)] w λe w'=>e=ra (R K (lc s.out:Int))/\AE A c o {s with out:=[]} w w':=by obtain⟨first,U,h1,h2,h3⟩:GN A c s (λk=>o k=7) w:=h.part 7 om;refine(aeC w h1).mono ?_;rintro e w' ⟨rfl,V,X⟩;exact⟨rfl,h.upG 7 om om X ⟨0,_,V.wide λ_ _ Z=>.inl Z,by rw[CS];exact h2,λi b Y=>by cases Y⟩ (Ai.congr 7)⟩
theorem aop(h:AI A c o s w):Calls ZP 208 #[L (E ⟨A.O,0,O⟩)] w λe w'=>∃v,e=ra v/\Ax w' w.heap.size v s.out/\La w w':=by
 obtain⟨first,Y,h1,h2,h3⟩:GN A c s (λk=>o k=7) w:=h.part 7 om;have X:qlH Y first (lc s.out)=s.out:=by
  refine Hn λi=>?_;unfold qlH;rw[BU]
  by_cases Z:i<lc s.out
  ·rw[It Z,Dw,h2,DZ,h3 i _ (Ar Z),Ar Z]
   rfl
  ·rw[GT (by simp;omega),GT om]
   rfl
 have:=ai0 w h1
 rwa[X]at this
theorem ahy(h:AI A c o s w)(b:AF)(q:List AF)(Y:s.out=b::q):Calls ZP 210 #[L (E ⟨A.O,0,O⟩)] w λe w'=>(∃v,e=ra v)/\AE A c o {s with out:=q} w w':=by
 obtain⟨first,D,h1,h2,h3⟩:GN A c s (λk=>o k=7) w:=h.part 7 om;have C:=h1.room;have Z:lc s.out=lc q+1:=by rw[Y];rfl
 have X:=h3 0 b (by rw[Y];rfl);rw[DQ,Nat.mod_eq_of_lt om]at X;refine(aiy b w h1 om X).mono ?_;rintro e w' ⟨rfl,U,H⟩;refine⟨⟨_,rfl⟩,h.upG 7 om om H ?_ (Ai.congr 7)⟩;rw[Z,Jl,h2]at U;refine⟨_,_,U.wide λ_ _ J=>.inl J,by rw[BG];exact h2,λi b' V=>?_⟩;have I:i<lc q:=(AP.1 V).1;have N:=h3 (i+1) b' (by rw[Y];exact V);rw[agC,FH]
 ·exact N
 ·have:=KV (a:=first) (n:=c.O) (i:=0) (j:=i+1) om om om
  rwa[DQ,Nat.mod_eq_of_lt om]at this
theorem aoX(h:AI A c o s w)(b:AF)(a:Option Addr)(J:Nat)(hq:lc s.out<c.O)(V:s.ended=M)(D:SlK 2 w a 1 [R K b.1,R K b.2]) :Calls ZP 206 #[L (E ⟨A.O,0,O⟩),T a 1 J] w λe w'=>(∃v,e=ra v)/\AE A c o {s with out:=s.out++[b]} w w'/\Chg (λk=>o k=7) w w':=by
 obtain⟨first,X,h1,h2,h3⟩:GN A c s (λk=>o k=7) w:=h.part 7 om;rw[V]at h1;refine(al6 b a J w h1 om D).mono ?_;rintro e w' ⟨rfl,B,U⟩;refine⟨⟨_,rfl⟩,h.upG 7 om om U ?_ (Ai.congr 7),U⟩;have N:(s.out++[b]).length=lc s.out+1:=by simp
 refine⟨first,X.set ((first+lc s.out) % lc X) b,?_,by rw[BG];exact h2,λi b' Z=>?_⟩
 ·show AY _ _ _ _ (s.out++[b]).length s.ended _ _;rw[N,V];exact B.wide λ_ _ H=>.inl H
 ·have Y:i<(s.out++[b]).length:=(AP.1 Z).1;have j:=h1.room;rw[N]at Y;have Z:(s.out++[b])[i]?=E b':=Z
  by_cases C:i<lc s.out
  ·rw[By C]at Z;have I:=h3 i b' Z;rw[h2,FH (λe=>KV (a:=first) (n:=c.O) om om om e)];exact I
  ·have:i=lc s.out:=by omega
   subst this;rw[MX]at Z
   cases AK Z
   rw[h2,FU (by rw[h2];exact Ek _ om)]
/- The sink. -/
theorem aoD(h:AI A c o s w)(b:AF)(ho:s.off<=1000000)(Y:lc s.tk<=1000000) :Calls ZP 209 #[L (E ⟨A.Kk,0,O⟩),i8 #[R K b.1,R K b.2]] w λe w'=>e=ra (i6 (EH c.ans s.off))/\AE A c o {s with off:=s.off+1,tk:=if EH c.ans s.off then s.tk++[b] else s.tk} w w':=by obtain⟨a,n,U,N,h1⟩:LB A c s (λk=>o k=3) w:=h.part 3 om;refine(aed b w h1 ho Y).mono ?_;rintro e w' ⟨rfl,⟨Z,V⟩,X⟩;exact⟨rfl,h.upG 3 om om X ⟨a,n,U,Z,V⟩ (Ai.congr 3)⟩
/- The ring. -/
theorem aoh(h:AI A c o s w):Calls ZP 66 #[L (E ⟨A.G,0,O⟩)] w λe w'=>e=ra (R K (s.next:Int))/\w'=w:=by obtain⟨Z,h1,h2,_⟩:Gl A c s (λk=>o k=6) (λk=>o k=0) w:=h.part 6 om;exact ah6 w h1
def Ga(next:Nat)(rg:List (Option (List AF))):Nat->List Nat
 |0=>[]
 |j+1=>Ga next rg j++(match rg[j]? with|some (E _)=>[next+j]|_=>[])
theorem akt{Z:Nat->Prop}{V:Wa}{X:List PlW}{next n:Nat}{rg:List (Option (List AF))}(J:lc X=n)(U:lc rg=n)(h3:∀i x,rg[i]?=E x->∃p,X[(next+i) % n]?=E p/\RgD Z V p x):∀j,j<=n->GZ X next j=(Ga next rg j).map λx:Nat=>(x:Int)
 |0,_=>rfl
 |j+1,hj=>by
  have I:=akt J U h3 j om;unfold GZ Ga;rw[Aj,I];congr 1;obtain⟨x,N⟩:∃x,rg[j]?=E x:=⟨_,Ar om⟩;obtain⟨p,H,Y⟩:=h3 j x N;rw[J,DZ,H,N]
  cases x with
  |none=>
   have Y:p.2=M:=Y;simp[Y]
  |some l=>
   have Y:p.2=G:=Y.1;simp[Y]
theorem ap0(h:AI A c o s w)(Z:s.next<=1000000000):Calls ZP 67 #[L (E ⟨A.G,0,O⟩)] w λe w'=>∃v,e=ra v/\FR w' w.heap.size v ((Ga s.next s.rg c.R).map λx:Nat=>(x:Int))/\La w w':=by
 obtain⟨Y,h1,h2,h0,h3⟩:Gl A c s (λk=>o k=6) (λk=>o k=0) w:=h.part 6 om;have:=aaI w h1 Z
 rwa[h2,akt h2 h0 h3 c.R (AC _)]at this
theorem ang(h:AI A c o s w)(Y:s.next<=1000000000):Calls ZP 207 #[L (E ⟨A.G,0,O⟩)] w λe w'=>(∃v,e=ra v)/\AE A c o {s with rg:=List.replicate (lc s.rg) O} w w':=by
 obtain⟨N,h1,h2,h0,h3⟩:Gl A c s (λk=>o k=6) (λk=>o k=0) w:=h.part 6 om;refine(adD w h1 Y).mono ?_;rintro e w' ⟨X,U,V⟩;refine⟨X,h.upG 6 om om V ⟨_,U.wide λ_ _ Y=>.inl Y,by rw[CS];exact h2,by show(List.replicate _ _).length=_;rw[CS];exact h0,λi x Z=>?_⟩ (Ai.congr 6)⟩;have Z:(List.replicate (lc s.rg) (O:Option (List AF)))[i]?=E x:=Z;rw[Jo]at Z
 split at Z
 ·cases AK Z
  have J:=h1.room;refine⟨((O,0,0),M),?_,rfl⟩;rw[Jo,Lq (by rw[h2];exact Ek _ om)]
 ·cases Z
theorem ap1(h:AI A c o s w)(n m U:Nat)(a:Option Addr)(l:List AF)(hn:n<=1000000000)(N:s.next<=1000000000)(h1:s.next<=n)(h2:n-s.next<c.R)(hg:s.rg[n-s.next]?=E O)(hs:SlD (λk=>o k=0) w a m l)(I:m<=U) :Calls ZP 201 #[L (E ⟨A.G,0,O⟩),R K (n:Int),T a m U] w λe w'=>(∃v,e=ra v)/\AE A c o {s with rg:=s.rg.set (n-s.next) (E l)} w w':=by
 obtain⟨V,k1,X,k0,C⟩:Gl A c s (λk=>o k=6) (λk=>o k=0) w:=h.part 6 om;obtain⟨p,g1,H⟩:=C _ _ hg;obtain⟨q0,b0⟩:=p;have H:b0=M:=H;subst H;rw[show s.next+(n-s.next)=n by omega]at g1;refine(ai7 n m U a q0 w k1 hn N (by unfold Du;rw[X];simp;omega) (by rw[X];exact g1)).mono ?_;rintro e w' ⟨rfl,f1,D⟩;have B:∀k,k<w.heap.size->o k=0->¬o k=6:=λk _ e1 e2=>by rw[e1]at e2;exact absurd e2 (by decide)
 refine⟨⟨_,rfl⟩,h.upG 6 om om D ⟨_,f1.wide λ_ _ N=>.inl N,by rw[BG];exact X,by show(s.rg.set _ _).length=_;rw[BG];exact k0,λi x Y=>?_⟩ (Ai.congr 6)⟩;have Y:(s.rg.set (n-s.next) (E l))[i]?=E x:=Y;have J:i<lc s.rg:=by have:=(AP.1 Y).1;rwa[BG]at this
 by_cases Z:i=n-s.next
 ·subst Z;rw[FU J]at Y
  cases AK Y
  refine⟨((a,m,U),G),?_,rfl,hs.keep D B,I⟩;show(V.set (n % lc V) _)[(s.next+(n-s.next)) % c.R]?=_;rw[show s.next+(n-s.next)=n by omega,X,FU (by rw[X];exact Ek _ om)]
 ·rw[FH (λe=>Z e.symm)]at Y;obtain⟨p',j1,j2⟩:=C i x Y;refine⟨p',?_,j2.keep D B⟩;show(V.set (n % lc V) _)[(s.next+i) % c.R]?=_;rw[X,FH]
  ·exact j1
  ·have:=KV (a:=s.next) (n:=c.R) (i:=n-s.next) (j:=i) om om (λe=>Z e.symm)
   rwa[show s.next+(n-s.next)=n by omega]at this
theorem afI(h:AI A c o s w)(Z:s.next<=1000000000)(hg:s.rg[0]?=E O) :Calls ZP 203 #[L (E ⟨A.G,0,O⟩)] w λe w'=>e=ra (ta #[T O 0 0,i6 M])/\AE A c o s w w':=by
 obtain⟨I,D,V,C,X⟩:Gl A c s (λk=>o k=6) (λk=>o k=0) w:=h.part 6 om;obtain⟨p,U,Y⟩:=X _ _ hg;obtain⟨J,b0⟩:=p;have Y:b0=M:=Y;subst Y;rw[DQ]at U;refine(abY J M w D Z (by rw[V];exact U)).mono ?_;rintro e w' ⟨rfl,f1,N⟩;have j:∀k,k<w.heap.size->o k=0->¬o k=6:=λk _ e1 e2=>by rw[e1]at e2;exact absurd e2 (by decide)
 refine⟨rfl,h.upG 6 om om N ⟨I,f1.wide λ_ _ Z=>.inl Z,V,C,λi x hi=>?_⟩ (Ai.congr 6)⟩;obtain⟨H,v,B⟩:=X i x hi;exact⟨H,v,B.keep N j⟩
theorem afS(h:AI A c o s w)(N:s.next<=1000000000)(l:List AF)(r:List (Option (List AF)))(I:s.rg=E l::r) :Calls ZP 203 #[L (E ⟨A.G,0,O⟩)] w λe w'=>∃a Y,e=ra (ta #[T a (lc l) Y,i6 G])/\SlD (λk=>o k=0) w' a (lc l) l/\lc l<=Y/\AE A c o {s with rg:=r++[O],next:=s.next+1} w w':=by
 obtain⟨U,B,V,v,C⟩:Gl A c s (λk=>o k=6) (λk=>o k=0) w:=h.part 6 om;obtain⟨p,g1,X⟩:=C 0 (E l) (by rw[I];rfl);obtain⟨⟨a,m,Y⟩,b0⟩:=p;obtain⟨X,g4,H⟩:=X;have H:m<=Y:=H;have X:b0=G:=X;subst X;have hm:lc l=m:=by have:=g4.1.1;rw[GF]at this;have h2:lc l*2=m*2:=this;omega
 have hr:=B.room;have J:lc r+1=c.R:=by rw[I]at v;exact v
 rw[DQ]at g1;refine(abY (a,m,Y) G w B N (by rw[V];exact g1)).mono ?_;rintro e w' ⟨rfl,f1,D⟩;have hz:∀k,k<w.heap.size->o k=0->¬o k=6:=λk _ e1 e2=>by rw[e1]at e2;exact absurd e2 (by decide)
 rw[hm];refine⟨a,Y,rfl,g4.keep D hz,H,h.upG 6 om om D ⟨_,f1.wide λ_ _ N=>.inl N,by rw[Lq rfl,BG];exact V,by show(r++[O]).length=_;rw[List.length_append];exact J,λi x Z=>?_⟩ (Ai.congr 6)⟩;have Z:(r++[O])[i]?=E x:=Z;have a1:i<lc r+1:=by have:=(AP.1 Z).1;simpa using this
 show ∃p,(if G=G then U.set (s.next % lc U) ((O,0,0),M) else U)[(s.next+1+i) % c.R]?=E p/\_;rw[Lq rfl,V]
 by_cases hl:i<lc r
 ·rw[By hl]at Z;obtain⟨p',j1,j2⟩:=C (i+1) x (by rw[I];exact Z);refine⟨p',?_,j2.keep D hz⟩;rw[show s.next+1+i=s.next+(i+1) by omega,FH]
  ·exact j1
  ·have:=KV (a:=s.next) (n:=c.R) (i:=0) (j:=i+1) om om om
   rwa[DQ]at this
 ·have:i=lc r:=by omega
  subst this;rw[MX]at Z
  cases AK Z
  refine⟨((O,0,0),M),?_,rfl⟩;rw[show s.next+1+lc r=s.next+c.R by omega,Nat.add_mod_right,FU (by rw[V];exact Ek _ om)]
end
theorem NS(Ta:Nat)(a l:Int)(w:Wa)(h:w.cell? ⟨Ta,1,O⟩=E (.int .u8 a))(h2:w.cell? ⟨Ta,2,O⟩=E (.int .u8 l)) :Calls ZP 319 #[L (E ⟨Ta,0,O⟩)] w λe w'=>e=ra (i6 (decide (a=l)))/\La w w':=by
 have Z:=AA (λq=>AN w q);have Y:(a==l)=decide (a=l):=by rw[Db];simp
 go_enter func319,ntmps319;go_upto_region 1 with fail
 go_big_quiet (fail)
 go_wp2;go_ret;refine⟨?_,Z.out _⟩
 first|rfl|simp
theorem acV(w:Wa):Calls ZP 141 #[] w λe w'=>e=ra (i6 G)/\w'=w:=by go_enter func141,ntmps141;go_wp2;go_ret;exact⟨rfl,rfl⟩
section
attribute[local go_sem] IW
theorem agH{w:Wa}{r:Nat}{f:Nat->Option Vk}(h:ES w r f)(k:Nat)(v:Vk)(hk:f k=E v) :Sem.run ZP (Instr.lookup 239 (.map (E r)) (.int .u8 (k:Int)) G) w=.ok (ta #[v,i6 G]) w:=by obtain⟨es,Y,h1,h2⟩:=h;obtain⟨i,Z⟩:=h2 k v hk;simp[Instr.lookup,run_underlying underlying239,MapKept.run_getObj_map h1,MapKept.run_checkKey (k:=.int .u8 (k:Int)) underlying5 (by simp[MapKept.IsKey]),MapKept.run_findKey underlying5 Z,Result.andThen]
structure GL(P T:Nat)(at_ last mp:Nat)(cc cd:Value)(w:World):Prop where
 c0:w.cell? ⟨T,0,none⟩=some (L (some ⟨P,0,none⟩))
 c1:w.cell? ⟨T,1,none⟩=some (.int .u8 (at_:Int))
 c2:w.cell? ⟨T,2,none⟩=some (.int .u8 (last:Int))
 c3:w.cell? ⟨T,3,none⟩=some (.map (some mp))
 c4:w.cell? ⟨T,4,none⟩=some cc
 c5:w.cell? ⟨T,5,none⟩=some cd
theorem GL.below{P Ta at_ Z mp:Nat}{U V:Vk}{w w':Wa}(h:GL P Ta at_ Z mp U V w)(N:La w w'):GL P Ta at_ Z mp U V w':=by have Y:∀i v,w.cell? ⟨Ta,i,O⟩=E v->w'.cell? ⟨Ta,i,O⟩=E v:=λi v X=>(N.cell (p:=⟨Ta,i,O⟩) (DO w _ X)).trans X;exact⟨Y _ _ h.c0,Y _ _ h.c1,Y _ _ h.c2,Y _ _ h.c3,Y _ _ h.c4,Y _ _ h.c5⟩
theorem aat{fn:Func}{p u:Tmp}{tmps:Array Vk}{W:Wa}{B:Nat}(h:fn.results=#[.cell p 241,.tmp u])(X:tmps.getD p undef=L (E ⟨B,0,O⟩)){r0 Z:Vk}(hB:W.heap[B]?=E (i7 #[r0,Z] 241 (0,0))) :(results fn tmps).run ZP W=.ok (ta #[i8 #[r0,Z],tmps.getD u undef]) W:=by
 have V:(loadVar 241 ⟨B,0,O⟩).run ZP W=.ok (i8 #[r0,Z]) W:=run_loadVar_row W B 241 241 #[r0,Z] (0,0) _ hB underlying241 rfl kr;have Y:tmps[p]?.getD undef=.pointer (E ⟨B,0,O⟩):=by simpa using X
 simp[results,h,Y,asAddr];rw[V];simp[Result.andThen]
def Fl(n:Nat)(a b:Vk)(w:Wa):Prop:=w.heap[n]?=E (i7 #[a,b] 241 (0,0))
theorem Fl.cells{n:Nat}{a b:Vk}{w:Wa}(h:Fl n a b w):w.cell? ⟨n,0,O⟩=E a/\w.cell? ⟨n,1,O⟩=E b/\w.frozen? ⟨n,0,O⟩=M/\w.frozen? ⟨n,1,O⟩=M:=by have h:w.heap[n]?=E (i7 #[a,b] 241 (0,0)):=h;exact⟨by simp[cell?,h],by simp[cell?,h],by simp[frozen?,h],by simp[frozen?,h]⟩
theorem Fl.put{n:Nat}{a b:Vk}{w:Wa}(h:Fl n a b w)(x y:Vk):Fl n x y ((w.setCell ⟨n,0,O⟩ x).setCell ⟨n,1,O⟩ y):=AJ (i:=1) (AJ (i:=0) h x) y
theorem Fl.below{n:Nat}{a b:Vk}{w w':Wa}(h:Fl n a b w)(Z:La w w'):Fl n a b w':=(Z.block n (AD.1 h).1).trans h
theorem Kx(w:Wa)(a b:Vk):Fl w.heap.size a b (w.alloc (i7 #[a,b] 241)):=AT _ _
theorem abj{P Ta at_ X mp:Nat}{sc sd:Vk}{cn:Bool}{f:Nat->Option Vk}{N U:Nat}{bc J:Array Vk}(w:Wa)(hT:GL P Ta at_ X mp sc sd w)(hP:w.cell? ⟨P,19,O⟩=E (i6 cn))(hl:at_≠X)(hm:ES w mp f)(hf:cn=M->f at_=E (i8 #[(.func (.func N) bc #[]),(.func (.func U) J #[])]))(hs:cn=G->sc=(.func (.func N) bc #[])/\sd=(.func (.func U) J #[])) :Calls ZP 323 #[L (E ⟨Ta,0,O⟩)] w λe w'=>e=ra (ta #[i8 #[(.func (.func N) bc #[]),(.func (.func U) J #[])],i6 G])/\La w w':=by
 obtain⟨W,hW⟩:∃W,W=w.alloc (i7 #[Value.nilFunc,Value.nilFunc] 241):=⟨_,rfl⟩;have hB:La w W:=by rw[hW];exact AL _ _
 have hx:Fl w.heap.size .nilFunc .nilFunc W:=by rw[hW];exact Kx _ _ _
 have aa:=NS Ta at_ X W (hT.below hB).c1 (hT.below hB).c2;have e0:decide ((at_:Int)=(X:Int))=M:=by simp;omega
 rw[e0]at aa;have HO:=AA aa;have HB:=AA hB;have HX:=AA hx;have HT:=AA hT;have HP:=AA hP;have HM:=AA hm;have HF:=AA hf;have HS:=AA hs;clear hm hT hP hB hx aa e0 hl hf hs;go_enter func323,ntmps323;go_upto_region 1 with fail
 rw[<-hW];clear hW;go_upto_region 3 with(go_at_call 319;refine HO.out.mono ?_;rintro e Z ⟨rfl,a8⟩)
 have s:La w Z:=HB.out.trans (a8.mono HB.out.size);have ag:=HT.out.below s;obtain⟨c0,c1,c2,c3,c4,c5⟩:=ag;have a7:=HX.out.below a8;obtain⟨x0,x1,u0,u1⟩:=a7.cells;have cP:Z.cell? ⟨P,19,O⟩=E (i6 cn):=(s.cell (p:=⟨P,19,O⟩) (DO w _ HP.out)).trans HP.out;have I:=AA s;have ae:=AA a7;clear a8 s a7
 cases cn with
 |true=>
  obtain⟨rfl,rfl⟩:=HS.out rfl;have HR:=AA (ae.out.put (.func (.func N) bc #[]) (.func (.func U) J #[]));have j:Hid (La w ((Z.setCell ⟨w.heap.size,0,O⟩ (.func (.func N) bc #[])).setCell ⟨w.heap.size,1,O⟩ (.func (.func U) J #[]))):=(I.out.setCell (AC _) _).setCell (AC _) _;go_wp2;refine Vi (aat (B:=w.heap.size) rfl rfl HR.out) rfl ?_;exact⟨rfl,j.out⟩
 |false=>
  have af:=agH (HM.out) at_ _ (HF.out rfl);have ai:Hid (∀V,La Z V->ES V mp f):=λV H=>HM.out.keep (Y:=λ_=>False) (.of_same (I.out.trans (H.mono I.out.size))) λh=>h;have aj:=AA (HF.out rfl);have hk:Hid (∀V,La Z V->V.cell? ⟨Ta,3,O⟩=E (.map (E mp))/\V.cell? ⟨Ta,1,O⟩=E (.int .u8 (at_:Int))):=λV H=>⟨(H.cell (p:=⟨Ta,3,O⟩) (DO Z _ c3)).trans c3,(H.cell (p:=⟨Ta,1,O⟩) (DO Z _ c1)).trans c1⟩;clear af;go_upto_region 5 with fail
  obtain⟨D,hD⟩:∃D,D=Z.drew:=⟨_,rfl⟩;have A:La Z D:=by rw[hD];exact AN Z 1
  have a2:=Kx D Value.nilFunc Value.nilFunc;obtain⟨y0,y1,z0,z1⟩:=a2.cells;have a1:=Kx D (Value.func (.func N) bc #[]) (Value.func (.func U) J #[]);obtain⟨p0,p1,_,_⟩:=a1.cells;have ab:La Z (D.alloc (i7 #[Value.nilFunc,Value.nilFunc] 241)):=A.alloc A.size _;have C:La Z (D.alloc (i7 #[Value.func (.func N) bc #[],Value.func (.func U) J #[]] 241)):=A.alloc A.size _;have a6:=ae.out.below C;obtain⟨q0,q1,v0,v1⟩:=a6.cells;have HR:=AA (a6.put (.func (.func N) bc #[]) (.func (.func U) J #[]));have j:Hid (La w ((D.alloc (i7 #[Value.func (.func N) bc #[],Value.func (.func U) J #[]] 241)).setCell ⟨w.heap.size,0,O⟩ (.func (.func N) bc #[]) |>.setCell ⟨w.heap.size,1,O⟩ (.func (.func U) J #[]))):=((I.out.trans (C.mono I.out.size)).setCell (AC _) _).setCell (AC _) _;have al:=AA ab;have ak:=AA C;clear a2 a1 ab C a6;refine Ve ?_;refine Vd (S:=λV=>La Z V) kr (AN Z 1) (λhHeld=>?_);rw[<-hD]at hHeld⊢;clear hD;refine tkA 0 ?_;refine tkA 1 ?_;refine tkA 2 ?_;refine tkW 3 (v:=?_) ?_ ?_;rotate_left
  ·intro V H;have q9:=(hk.out V H).1
   first|(go_simp;done)|(go_simp;with_reducible rfl)
  try simp only[pq]
  refine tkA 4 ?_;refine tkA 5 ?_;refine tkA 6 ?_;refine tkW 7 (v:=?_) ?_ ?_;rotate_left
  ·intro V H;have q9:=(hk.out V H).2
   first|(go_simp;done)|(go_simp;with_reducible rfl)
  try simp only[pq]
  refine tkW 8 (v:=?_) ?_ ?_;rotate_left
  ·intro V H;have q9:=agH (ai.out V H) at_ _ aj.out
   first|(go_simp;done)|(go_simp;with_reducible rfl)
  try simp only[pq]
  refine tkA 9 ?_;refine tkA 10 ?_;refine tkA 11 ?_;refine rdy 12 (λKB hK=>?_);go_simp;refine hK.out _ _ al.out (λao=>?_);clear hK KB
  try simp only[pq]
  refine rdy 13 (λKB hK=>?_);go_simp;refine hK.out _ _ ak.out (λam=>?_);clear hK KB
  try simp only[pq]
  refine tkA 14 ?_;refine Vg kr ?_ _;refine At ?_;obtain⟨V2,ac⟩:∃V,V=(D.alloc (i7 #[Value.func (.func N) bc #[],Value.func (.func U) J #[]] 241)):=⟨_,rfl⟩;rw[<-ac]at p0 p1 q0 q1 v0 v1 HR j⊢;clear ac y0 y1 z0 z1;go_wp2;refine Vi (aat (B:=w.heap.size) rfl rfl HR.out) rfl ?_;exact⟨rfl,j.out⟩
end
section
attribute[local go_sem] IW
theorem adH{Ta X J:Nat}{bc I:Array Vk}{b:Bool}(w:Wa)(A:Calls ZP 323 #[L (E ⟨Ta,0,O⟩)] w λe w'=>e=ra (ta #[i8 #[.func (.func X) bc #[],.func (.func J) I #[]],i6 G])/\La w w')
  (eg:∀args w,(callFunc X args).run ZP w=.ok (.enter X args) w) (v:∀V,La w V->Calls ZP X bc V λe w'=>e=ra (i6 b)/\La V w') :
  Calls ZP 321 #[L (E ⟨Ta,0,O⟩)] w λe w'=>e=ra (i6 b)/\La w w':=by
 have s:=AA A;have j:=AA v;clear A v;go_enter func321,ntmps321;go_upto_region 2 with(go_at_call 323;refine s.out.mono ?_;rintro e C ⟨rfl,Y⟩)
 obtain⟨W,hW⟩:∃W,W=C.alloc (i7 #[Value.func (.func X) bc #[],Value.func (.func J) I #[]] 241):=⟨_,rfl⟩;have Z:La w W:=by rw[hW];exact Y.alloc Y.size _
 have B:Fl C.heap.size (.func (.func X) bc #[]) (.func (.func J) I #[]) W:=by rw[hW];exact Kx _ _ _
 obtain⟨x0,x1,_,_⟩:=B.cells;have H:=AA (j.out W Z);have N:=AA Z;rw[<-hW];clear hW Y Z B
 go_wp2_with fail
 refine H.out.mono ?_;rintro e w2 ⟨rfl,U⟩;have D:=AA (N.out.trans (U.mono N.out.size));clear U;go_wp2;go_ret;exact⟨rfl,D.out⟩
theorem afd{Ta N X:Nat}{bc U:Array Vk}{Q:Wa->Prop}(w:Wa)(C:Calls ZP 323 #[L (E ⟨Ta,0,O⟩)] w λe w'=>e=ra (ta #[i8 #[.func (.func N) bc #[],.func (.func X) U #[]],i6 G])/\La w w')
  (eg:∀args w,(callFunc X args).run ZP w=.ok (.enter X args) w) (B:∀V,La w V->Calls ZP X U V λe w'=>e=ra (ta #[])/\Q w') :
  Calls ZP 322 #[L (E ⟨Ta,0,O⟩)] w λe w'=>e=ra (ta #[])/\Q w':=by
 have v:=AA C;have s:=AA B;clear C B;go_enter func322,ntmps322;go_upto_region 2 with(go_at_call 323;refine v.out.mono ?_;rintro e I ⟨rfl,Y⟩)
 obtain⟨W,hW⟩:∃W,W=I.alloc (i7 #[Value.func (.func N) bc #[],Value.func (.func X) U #[]] 241):=⟨_,rfl⟩;have Z:La w W:=by rw[hW];exact Y.alloc Y.size _
 have H:Fl I.heap.size (.func (.func N) bc #[]) (.func (.func X) U #[]) W:=by rw[hW];exact Kx _ _ _
 obtain⟨x0,x1,_,_⟩:=H.cells;have J:=AA (s.out W Z);have j:=AA Z;rw[<-hW];clear hW Y Z H
 go_wp2_with fail
 refine J.out.mono ?_;rintro e w2 ⟨rfl,D⟩;have A:=AA D;clear D;go_wp2
 go_end0
 exact⟨rfl,A.out⟩
end
section
variable {A:PAd}{c:CfM}{s:PlM}{o:Nat->Nat}{w:Wa}
theorem AI.cW(h:AI A c o s w){i:Nat}{x:WkM}(Y:s.wk[i]?=E x)(X:i<900):∃p Z,w.heap[A.Wk i]?=E (i7 (wkV A i x p Z) 249 (0,0))/\PcD (λk=>o k=0) w p x.blk/\CO (λk=>o k=i+11∨o k=0) w 116 2 Z (lc x.hits) (AV x.hits):=by have h0:CP A s (λk=>o k=i+11) (λk=>o k=0) w i:=h.part (i+11) om;unfold CP at h0;rw[Y]at h0;obtain⟨p,Z,h1,h2,h3,h4,h5,h6⟩:=h0;exact⟨p,Z,h1,h3,h4⟩
theorem AI.cM(h:AI A c o s w):∃a m Z,w.heap[A.M]?=E (i7 (mgV A s.mph (T a m Z)) 251 (0,0))/\SlD (λk=>o k=0) w a m s.left/\m<=Z:=let⟨a,m,Z,h1,_,h3,h4⟩:=h.part 9 om;⟨a,m,Z,h1,h3,h4⟩
theorem AI.cE(h:AI A c o s w):w.heap[A.E]?=E (i7 (emV A s.eph) 253 (0,0)):=(h.part 10 om).1
theorem AI.bel(h:AI A c o s w){w':Wa}(Z:La w w'):AI A c (EW o w.heap.size w'.heap.size 0) s w':=h.grow 0 om Z
end
theorem abw{A:PAd}{c:CfM}{s:PlM}{o:Nat->Nat}(w:Wa)(h:AI A c o s w)(U:s.number<=1000000000)(V:s.next<=1000000000) :Calls ZP 139 #[L (E ⟨A.R,0,O⟩)] w λe w'=>e=ra (i6 (Du s.next c.R s.number))/\La w w':=by
 obtain⟨C,X⟩:=h.cP;obtain⟨B,N,_⟩:=h.cR;have D:∀d os,Calls ZP 189 #[L (E ⟨A.G,0,O⟩),R K (s.number:Int)] (grow (redrawn w d) os) λe w'=>e=ra (i6 (Du s.next c.R s.number))/\RowKit.Below (grow (redrawn w d) os).heap.size (grow (redrawn w d) os) w':=λd os=>apu (h.bel (Vc w d os)) s.number U V;have v:∀d os,(grow (redrawn w d) os).cell? ⟨A.R,0,O⟩=E (L (E ⟨A.P,0,O⟩)):=Vf (by simp[cell?,N,rdV,EO]);have I:∀d os,(grow (redrawn w d) os).cell? ⟨A.P,13,O⟩=E (L (E ⟨A.G,0,O⟩)):=Vf (by simp[cell?,X,EK]);have J:∀d os,(grow (redrawn w d) os).cell? ⟨A.P,16,O⟩=E (R K (s.number:Int)):=Vf (by simp[cell?,X,EK]);clear h X N U V;go_enter func139,ntmps139;go_upto_region 1 with fail
 refine wp_region_quiet_below mixed kr ?_
 repeat (go_big_quiet_step (exact Eu (D _ _)))
 refine wpQuiet_nil ?_;rintro _ ⟨⟨H,Z⟩,rfl⟩;have Y:=AA (Vc w H Z);go_wp2;go_ret;exact⟨rfl,Y.out⟩
theorem afJ{A:PAd}{c:CfM}{s:PlM}{o:Nat->Nat}(w:Wa)(h:AI A c o s w) :Calls ZP 143 #[L (E ⟨A.R,0,O⟩)] w λe w'=>e=ra (i6 (decide (lc s.q<c.Q)))/\La w w':=by
 obtain⟨D,V⟩:=h.cP;obtain⟨C,X,_⟩:=h.cR;have N:=AA (aoN h);have B:w.cell? ⟨A.R,0,O⟩=E (L (E ⟨A.P,0,O⟩)):=by simp[cell?,X,rdV,EO]
 have J:w.cell? ⟨A.P,12,O⟩=E (L (E ⟨A.Q,0,O⟩)):=by simp[cell?,V,EK]
 have U:decide (lc s.q<c.Q)=decide (((c.Q-(lc s.q):Nat):Int) > 0):=by rw[Db];simp;omega
 rw[U];obtain⟨m,Z⟩:∃m,c.Q-(lc s.q)=m:=⟨_,rfl⟩;rw[Z]at N⊢;clear h V X U Z;go_enter func143,ntmps143
 go_wp2_with (go_at_call 194;refine N.out.mono ?_;rintro e H ⟨rfl,Y⟩;have I:=AA Y;clear Y)
 go_ret;refine⟨?_,I.out⟩
 first|rfl|(simp;done)
theorem aam{A:PAd}{c:CfM}{s:PlM}{o:Nat->Nat}{i:Nat}{x:WkM}(w:Wa)(h:AI A c o s w)(B:s.wk[i]?=E x)(hi:i<900) :Calls ZP 147 #[L (E ⟨A.Wk i,0,O⟩)] w λe w'=>e=ra (i6 (Ep s))/\La w w':=by
 obtain⟨tv,I⟩:=h.cP;obtain⟨p,hv,hW,_⟩:=h.cW B hi;obtain⟨Ta,v⟩:∃Ta,A.Wk i=Ta:=⟨_,rfl⟩;rw[v]at hW⊢;have H:=AA (apa h);have HC:Hid (∀V,La w V->Calls ZP 71 #[L (E ⟨A.Q,0,O⟩)] V λe w'=>e=ra (i6 s.shut)/\La V w'):=λV J=>alC (h.bel J);have hk:∀V,La w V->V.cell? ⟨Ta,0,O⟩=E (L (E ⟨A.P,0,O⟩))/\V.cell? ⟨A.P,12,O⟩=E (L (E ⟨A.Q,0,O⟩)):=λV J=>by have X:=(J.block Ta (AD.1 hW).1).trans hW;have e2:=(J.block A.P (AD.1 I).1).trans I;exact⟨by simp[cell?,X,wkV,EO],by simp[cell?,e2,EK]⟩
 obtain⟨k0,a1⟩:=hk w (AH _ _);have HK:=AA hk
 cases Y:s.q with
 |nil=>
  have X:Ep s=s.shut:=by unfold Ep;rw[Y];rfl
  have e2:lc s.q=0:=by rw[Y];rfl
  rw[X];rw[e2]at H;obtain⟨b,Z⟩:∃b,s.shut=b:=⟨_,rfl⟩;rw[Z]at HC⊢;clear h I hW X e2 Z Y hk v B;go_enter func147,ntmps147
  go_wp2_with (first|(go_at_call 198;refine H.out.mono ?_;rintro e D ⟨rfl,Z⟩;have N:=AA Z;obtain⟨j0,C⟩:=HK.out D Z;clear Z)|(go_at_call 71;refine(HC.out _ N.out).mono ?_;rintro e w2 ⟨rfl,U⟩;have j:=AA U;clear U))
  go_ret;exact⟨rfl,N.out.trans (j.out.mono N.out.size)⟩
 |cons b q=>
  have X:Ep s=G:=by unfold Ep;rw[Y];rfl
  have e2:decide ((lc s.q:Int) > 0)=G:=by rw[Y];simp
  have e3:decide (0<lc s.q)=G:=by rw[Y];simp
  rw[X];obtain⟨m,hm⟩:∃m,lc s.q=m:=⟨_,rfl⟩;rw[hm]at H e2 e3;clear h I hW X hm Y hk v B;go_enter func147,ntmps147
  go_wp2_with (first|(go_at_call 198;refine H.out.mono ?_;rintro e D ⟨rfl,Z⟩;have N:=AA Z;obtain⟨j0,C⟩:=HK.out D Z;clear Z))
  go_ret;exact⟨rfl,N.out⟩
theorem ae8{A:PAd}{c:CfM}{s:PlM}{o:Nat->Nat}{i:Nat}{x:WkM}(w:Wa)(h:AI A c o s w)(Y:s.wk[i]?=E x)(J:i<900) :Calls ZP 151 #[L (E ⟨A.Wk i,0,O⟩)] w λe w'=>e=ra (i6 (if x.ph=1 then Ep s else G))/\La w w':=by
 have V:=AA (aam w h Y J);obtain⟨p,v,hW,_⟩:=h.cW Y J;obtain⟨Ta,X⟩:∃Ta,A.Wk i=Ta:=⟨_,rfl⟩;rw[X]at hW V⊢;have U:w.cell? ⟨Ta,1,O⟩=E (.int .u8 (x.ph:Int)):=by simp[cell?,hW,wkV,EO]
 by_cases h1:x.ph=1
 ·rw[Lq h1];rw[h1]at U;obtain⟨b,Z⟩:∃b,Ep s=b:=⟨_,rfl⟩;rw[Z]at V⊢;clear h hW Z X Y h1;go_enter func151,ntmps151
  go_wp2_with (go_at_call 147;refine V.out.mono ?_;rintro e B ⟨rfl,Z⟩;have C:=AA Z;clear Z)
  go_ret;exact⟨rfl,C.out⟩
 ·rw[Lc h1];have D:((x.ph:Int) != 1)=G:=by simp;omega
  have e2:decide ((x.ph:Int)≠1)=G:=by simp;omega
  have H:((x.ph:Int)==1)=M:=by simp;omega
  have I:decide ((x.ph:Int)=1)=M:=by simp;omega
  obtain⟨m,N⟩:∃m,x.ph=m:=⟨_,rfl⟩;rw[N]at U D e2 H I;clear h hW X Y h1 N;go_enter func151,ntmps151;go_wp2;go_ret;exact⟨rfl,AH _ _⟩
theorem aej{A:PAd}{c:CfM}{s:PlM}{o:Nat->Nat}(w:Wa)(h:AI A c o s w) :Calls ZP 155 #[L (E ⟨A.M,0,O⟩)] w λe w'=>e=ra (i6 (decide (lc s.out<c.O)))/\La w w':=by
 obtain⟨D,V⟩:=h.cP;obtain⟨a0,C,c0,X,_⟩:=h.cM;have N:=AA (aoq h);have B:w.cell? ⟨A.M,0,O⟩=E (L (E ⟨A.P,0,O⟩)):=by simp[cell?,X,mgV,EO]
 have J:w.cell? ⟨A.P,14,O⟩=E (L (E ⟨A.O,0,O⟩)):=by simp[cell?,V,EK]
 have U:decide (lc s.out<c.O)=decide (((c.O-(lc s.out):Nat):Int) > 0):=by rw[Db];simp;omega
 rw[U];obtain⟨m,Z⟩:∃m,c.O-(lc s.out)=m:=⟨_,rfl⟩;rw[Z]at N⊢;clear h V X U Z;go_enter func155,ntmps155
 go_wp2_with (go_at_call 205;refine N.out.mono ?_;rintro e H ⟨rfl,Y⟩;have I:=AA Y;clear Y)
 go_ret;refine⟨?_,I.out⟩
 first|rfl|(simp;done)
theorem aaj{A:PAd}{c:CfM}{s:PlM}{o:Nat->Nat}(w:Wa)(h:AI A c o s w) :Calls ZP 158 #[L (E ⟨A.E,0,O⟩)] w λe w'=>e=ra (i6 (IV s))/\La w w':=by
 obtain⟨tv,I⟩:=h.cP;have hW:=h.cE;obtain⟨Ta,B⟩:∃Ta,A.E=Ta:=⟨_,rfl⟩;rw[B]at hW⊢;have H:=AA (ap6 h);have HC:Hid (∀V,La w V->Calls ZP 72 #[L (E ⟨A.O,0,O⟩)] V λe w'=>e=ra (i6 s.ended)/\La V w'):=λV J=>akY (h.bel J);have hk:∀V,La w V->V.cell? ⟨Ta,0,O⟩=E (L (E ⟨A.P,0,O⟩))/\V.cell? ⟨A.P,14,O⟩=E (L (E ⟨A.O,0,O⟩)):=λV J=>by have X:=(J.block Ta (AD.1 hW).1).trans hW;have e2:=(J.block A.P (AD.1 I).1).trans I;exact⟨by simp[cell?,X,emV,EO],by simp[cell?,e2,EK]⟩
 obtain⟨k0,a1⟩:=hk w (AH _ _);have HK:=AA hk
 cases Y:s.out with
 |nil=>
  have X:IV s=s.ended:=by unfold IV;rw[Y];rfl
  have e2:lc s.out=0:=by rw[Y];rfl
  rw[X];rw[e2]at H;obtain⟨b,Z⟩:∃b,s.ended=b:=⟨_,rfl⟩;rw[Z]at HC⊢;clear h I hW X e2 Z Y hk B;go_enter func158,ntmps158
  go_wp2_with (first|(go_at_call 68;refine H.out.mono ?_;rintro e D ⟨rfl,Z⟩;have N:=AA Z;obtain⟨j0,C⟩:=HK.out D Z;clear Z)|(go_at_call 72;refine(HC.out _ N.out).mono ?_;rintro e w2 ⟨rfl,U⟩;have v:=AA U;clear U))
  go_ret;exact⟨rfl,N.out.trans (v.out.mono N.out.size)⟩
 |cons b q=>
  have X:IV s=G:=by unfold IV;rw[Y];rfl
  have e2:decide ((lc s.out:Int) > 0)=G:=by rw[Y];simp
  have e3:decide (0<lc s.out)=G:=by rw[Y];simp
  rw[X];obtain⟨m,j⟩:∃m,lc s.out=m:=⟨_,rfl⟩;rw[j]at H e2 e3;clear h I hW X j Y hk B;go_enter func158,ntmps158
  go_wp2_with (first|(go_at_call 68;refine H.out.mono ?_;rintro e D ⟨rfl,Z⟩;have N:=AA Z;obtain⟨j0,C⟩:=HK.out D Z;clear Z))
  go_ret;exact⟨rfl,N.out⟩
theorem abm{A:PAd}{c:CfM}{s:PlM}{o:Nat->Nat}(w W:Wa)(h:AE A c o s w W)(I:lc s.fr<=100000) :Calls ZP 193 #[L (E ⟨A.R,0,O⟩)] W λe w'=>e=ra (ta #[])/\AE A c o (backR s) w w':=by
 obtain⟨H,Z⟩:∃b,s.rd.buf=b:=⟨_,rfl⟩;have J:=h.ceR 0 (L (E ⟨A.P,0,O⟩)) λ_=>rfl;have D:=h.ceR 7 (R K (H:Int)) λ_=>by rw[<-Z];rfl
 have X:=h.ceP 11 (L (E ⟨A.Bb,0,O⟩)) λ_=>rfl;have N:=AA Z;have B:=AA h;have C:=AA I;clear h Z I;go_enter func193,ntmps193;go_upto_region 0 with fail
 refine Hw 12 mixed kr ?_;dsimp only[List.take_succ_cons,List.take_zero,List.drop_succ_cons,List.drop_zero]
 repeat (go_big_quiet_step (fail))
 refine wpQuiet_nil ?_;rintro _ ⟨nq,rfl⟩;have U:=AA (B.out.bel (AN W nq));clear J D X
 go_wp2_with fail
 refine(U.out.lift λo1 h1 j=>aoc h1 H C.out).mono ?_;rintro e w1 ⟨⟨v,rfl⟩,Y⟩;have J:=Y.frR 6;have k1:=Y.ceR 6 (i6 s.rd.holds) λ_=>rfl;have V:=AA (Y.setR 6 (i6 M) {s.rd with holds:=M} (λ_=>rfl) rfl);clear Y;go_wp2
 go_end0
 refine⟨rfl,?_⟩;have:=V.out;rw[<-N.out]at this;exact this
theorem aau{A:PAd}{c:CfM}{s:PlM}{o:Nat->Nat}(w W:Wa)(h:AE A c o s w W) :Calls ZP 145 #[L (E ⟨A.R,0,O⟩)] W λe w'=>e=ra (ta #[])/\AE A c o (shutR s) w w':=by
 have V:=h.ceR 0 (L (E ⟨A.P,0,O⟩)) λ_=>rfl;have Y:=h.ceP 12 (L (E ⟨A.Q,0,O⟩)) λ_=>rfl;have U:=AA h;clear h;go_enter func145,ntmps145;go_upto_region 1 with(go_at_call 197;refine(U.out.lift λI h1 N=>anD h1).mono ?_;rintro e J ⟨⟨v,rfl⟩,Z⟩)
 have D:=Z.frR 1;have H:=Z.ceR 1 (.int .u8 (s.rd.ph:Int)) λ_=>rfl;have X:=AA (Z.setR 1 (.int .u8 5) {s.rd with ph:=5} (λ_=>rfl) rfl);clear Z V Y;go_wp2
 go_end0
 exact⟨rfl,X.out⟩
theorem afD{A:PAd}{c:CfM}{s:PlM}{o:Nat->Nat}(w W:Wa)(h:AE A c o s w W)(U:lc s.fr<=100000) :Calls ZP 146 #[L (E ⟨A.R,0,O⟩)] W λe w'=>e=ra (ta #[])/\AE A c o (stopR s) w w':=by
 have J:=AA h;have D:=AA U;unfold stopR
 cases V:s.rd.holds with
 |true=>
  have N:=h.ceR 6 (i6 G) λ_=>by rw[<-V];rfl
  rw[Lq rfl];clear h U V;go_enter func146,ntmps146;go_upto_region 2 with(go_at_call 193;refine(abm w W J.out D.out).mono ?_;rintro e H ⟨rfl,Z⟩)
  have X:=AA (aau w H Z);clear Z N
  go_wp2_with (go_at_call 145;refine X.out.mono ?_;rintro e I ⟨rfl,Z⟩;have Y:=AA Z;clear Z)
  go_end0
  exact⟨rfl,Y.out⟩
 |false=>
  have N:=h.ceR 6 (i6 M) λ_=>by rw[<-V];rfl
  rw[Lc sm];clear h U V;have X:=AA (aau w W J.out);go_enter func146,ntmps146
  go_wp2_with (go_at_call 145;refine X.out.mono ?_;rintro e I ⟨rfl,Z⟩;have Y:=AA Z;clear Z)
  go_end0
  exact⟨rfl,Y.out⟩
theorem afB{A:PAd}{c:CfM}{s:PlM}{o:Nat->Nat}(w W:Wa)(h:AE A c o s w W)(n:Nat)(l:List Nat)(hf:s.fr=l++[n])(hl:lc s.fr<=100000)(hr:∀x∈s.fr,x<lc s.us)(hd:lc s.ds=lc s.us)(ht:lc s.rd.tail<=c.K+c.wm)(a7:c.K+c.wm<=100000) :Calls ZP 140 #[L (E ⟨A.R,0,O⟩)] W λe w'=>e=ra (ta #[])/\AE A c o (takeR s) w w':=by
 have k0:=h.ceR 0 (L (E ⟨A.P,0,O⟩)) λ_=>rfl;have aj:=h.ceP 11 (L (E ⟨A.Bb,0,O⟩)) λ_=>rfl;have a8:n<lc s.us:=hr n (by rw[hf];simp);have e1:s.fr.getLast?.getD 0=n:=by rw[hf];simp
 have e2:s.fr.dropLast=l:=by rw[hf];simp
 have e3:(s.us.set n G)[n]?=E G:=by rw[FU a8]
 have e4:(s.ds.set n [])[n]?=E []:=by rw[FU om]
 have ak:=h.neRP;have HE:=AA (Va (Va e1 e2) (Va e3 e4));have HH:=AA (Va hf (Va hl hr));have HG:=AA h;have HL:=AA (Va ht a7);clear h hf hl hr hd ht a7 a8 e1 e2 e3 e4;go_enter func140,ntmps140;go_upto_region 2 with(go_at_call 190;refine(HG.out.lift λo1 h1 z1=>apd h1 n l HH.out.1 HH.out.2.1 HH.out.2.2).mono ?_;rintro e w1 ⟨rfl,H⟩;have j0:=H.frR 7;have j1:=H.ceR 7 (R K (s.rd.buf:Int)) λ_=>rfl;have j2:=H.frR 6;have j3:=H.ceR 6 (i6 s.rd.holds) λ_=>rfl;have N:=AA ((H.setR 7 (R K (n:Int)) {s.rd with buf:=n} (λ_=>rfl) rfl).setR 6 (i6 G) {s.rd with buf:=n,holds:=G} (λ_=>rfl) rfl);clear H)
 obtain⟨W2,ab⟩:∃V,V=(w1.setCell ⟨A.R,7,O⟩ (R K (n:Int))).setCell ⟨A.R,6,O⟩ (i6 G):=⟨_,rfl⟩;rw[<-ab]at N⊢;clear ab j0 j1 j2 j3 k0 aj;obtain⟨at_,ct,Y,aa,al⟩:=N.out.tail;have m7:=N.out.ceR 7 (R K (n:Int)) λ_=>rfl;have ai:=N.out.ceP 11 (L (E ⟨A.Bb,0,O⟩)) λ_=>rfl;obtain⟨tl,I⟩:∃m,lc s.rd.tail=m:=⟨_,rfl⟩;rw[show(({s with fr:=l,us:=s.us.set n G,ds:=s.ds.set n [],rd:={s.rd with buf:=n,holds:=G}}:PlM).rd.tail.length)=tl from I]at Y;have av:Hid (Bys W2 at_ tl s.rd.tail):=by have h9:Bys W2 at_ (lc s.rd.tail) s.rd.tail:=aa;rw[I]at h9;exact h9
 have a6:=AA I;clear aa al I;refine Hw 12 mixed kr ?_;dsimp only[List.take_succ_cons,List.take_zero,List.drop_succ_cons,List.drop_zero]
 repeat (go_big_quiet_step (fail))
 refine wpQuiet_nil ?_;rintro _ ⟨nq,rfl⟩;have au:=AA (N.out.bel (AN W2 nq));have ag:=AA (av.out.below (AN W2 nq));have B:([]:List Int).length+tl<=c.K+c.wm:=by have h1:=HL.out.1;have h2:=a6.out;simp only[Bw];omega
 have HC:=AA (au.out.lift λo1 h1 z1=>aod h1 n tl ct at_ s.rd.tail [] ag.out HE.out.2.1 HE.out.2.2 B HL.out.2);clear m7 Y ai B
 go_wp2_with fail
 refine HC.out.mono ?_;rintro e w3 ⟨rfl,H⟩;have U:=AA (H.bel (AN w3 1));obtain⟨a2,a1,Y,_,_⟩:=U.out.tail;rw[show(({s with fr:=l,us:=s.us.set n G,ds:=(s.ds.set n []).set n ([]++s.rd.tail),rd:={s.rd with buf:=n,holds:=G}}:PlM).rd.tail.length)=tl from a6.out]at Y;have J:=U.out.ceP 17 (R K (s.read:Int)) λ_=>rfl;obtain⟨Z,X⟩:∃m,s.read=m:=⟨_,rfl⟩;rw[X]at J;have f8:=U.out.frR 8;have c8:=U.out.ceR 8 (R K (s.rd.warm:Int)) λ_=>rfl;have H8:=U.out.setR 8 (R K (tl:Int)) {s.rd with buf:=n,holds:=G,warm:=tl} (λ_=>rfl) rfl;have f9:=H8.frR 9;have c9:=H8.ceR 9 (R K (s.rd.own:Int)) λ_=>rfl;have H9:=H8.setR 9 (R K 0) {s.rd with buf:=n,holds:=G,warm:=tl,own:=0} (λ_=>rfl) rfl;have ao:=H9.frR 10;have ap:=H9.ceR 10 (R K (s.rd.ahead:Int)) λ_=>rfl;have C:=H9.setR 10 (R K (Z:Int)) {s.rd with buf:=n,holds:=G,warm:=tl,own:=0,ahead:=Z} (λ_=>rfl) rfl;have f1:=C.frR 1;have c1:=C.ceR 1 (.int .u8 (s.rd.ph:Int)) λ_=>rfl;have H1:=C.setR 1 (.int .u8 2) {s.rd with buf:=n,holds:=G,warm:=tl,own:=0,ahead:=Z,ph:=2} (λ_=>rfl) rfl;obtain⟨D,hD⟩:∃D,D=w3.drew:=⟨_,rfl⟩;have ac:w3.drewN 1=D:=by rw[hD];rfl
 rw[ac]at Y J f8 c8 f9 c9 ao ap f1 c1 H1;have hS:∀(i:Nat)(v:Vk),i≠11->∀V:Wa,(V.cell? ⟨A.R,11,O⟩=E (T a2 tl a1)/\V.cell? ⟨A.P,17,O⟩=E (R K (Z:Int)))->((V.setCell ⟨A.R,i,O⟩ v).cell? ⟨A.R,11,O⟩=E (T a2 tl a1)/\(V.setCell ⟨A.R,i,O⟩ v).cell? ⟨A.P,17,O⟩=E (R K (Z:Int))):=λi v hi V hV=>by
  refine⟨?_,?_⟩
  ·rw[World.cell?_setCell_other V _ _ _ (λe=>hi (Addr.mk.inj e).2.1)];exact hV.1
  ·rw[OG V _ _ _ ak];exact hV.2
 have HS:=AA hS;have ar:=AA H1;have aq:=AA X;clear H H8 H9 C H1 hS ac X;go_upto_region 3 with fail
 refine Ve ?_;refine Vd (S:=λV=>V.cell? ⟨A.R,11,O⟩=E (T a2 tl a1)/\V.cell? ⟨A.P,17,O⟩=E (R K (Z:Int))) kr (by rw[<-hD];exact⟨Y,J⟩) (λhHeld=>?_);rw[<-hD]at hHeld⊢;clear hD;refine tkA 0 ?_;refine tkA 1 ?_;refine tkA 2 ?_;refine tkA 3 ?_;refine tkA 4 ?_;refine tkA 5 ?_;refine tkW 6 (v:=?_) ?_ ?_;rotate_left
 ·intro V hV;obtain⟨q1,q2⟩:=hV
  first|(go_simp;done)|(go_simp;with_reducible rfl)
 try simp only[pq]
 refine tkA 7 ?_;refine tkA 8 ?_;refine tkA 9 ?_;refine tkA 10 ?_;refine tkW 11 (v:=?_) ?_ ?_;rotate_left
 ·intro V hV;obtain⟨q1,q2⟩:=hV
  first|(go_simp;done)|(go_simp;with_reducible rfl)
 try simp only[pq]
 refine tkA 12 ?_;refine tkA 13 ?_;refine rdy 14 (λKB j=>?_);go_simp;refine j.out _ _ (HS.out 8 _ (by decide) _ hHeld) (λaf=>?_);clear j KB
 try simp only[pq]
 refine tkA 15 ?_;refine tkA 16 ?_;refine rdy 17 (λKB j=>?_);go_simp;refine j.out _ _ (HS.out 9 _ (by decide) _ af) (λae=>?_);clear j KB
 try simp only[pq]
 refine tkA 18 ?_;refine tkA 19 ?_;refine rdy 20 (λKB j=>?_);go_simp;refine j.out _ _ (HS.out 10 _ (by decide) _ ae) (λam=>?_);clear j KB
 try simp only[pq]
 refine Vg kr ?_ _;refine At ?_;clear af ae am hHeld Y J;go_wp2
 go_end0
 refine⟨rfl,?_⟩;have e1:=HE.out.1.1;have e2:=HE.out.1.2;have e3:takeR s={s with fr:=l,us:=s.us.set n G,ds:=(s.ds.set n []).set n ([]++s.rd.tail),rd:={s.rd with buf:=n,holds:=G,warm:=tl,own:=0,ahead:=Z,ph:=2}}:=by unfold takeR;rw[<-a6.out,<-aq.out];simp only[e1,e2,Av]
 rw[e3];exact ar.out
section
variable {P:Program}{md:Region.Mode}{ops:Array Oper}{Q:Exit->Act->Wa->Prop}{S:Wa->Prop}
theorem ad2(i j k:Nat)(e Rj Rk:Vk->Wa->Prop){D oj ok:Oper}{J:Nat}{Z:Array Bool}{a:Act}{w:Wa}(hi:ops[i]?=E D)(hj:ops[j]?=E oj)(hk:ops[k]?=E ok)
  (hr:Region.ready md ops Z=[i,k]) (af:Region.ready md ops (Z.setIfInBounds i G)=[j,k]) (ae:Region.ready md ops (Z.setIfInBounds k G)=[i])
  (a6:Region.ready md ops ((Z.setIfInBounds i G).setIfInBounds k G)=[j])
  (ai:i≠k) (ag:j≠k) (a8:D.dst≠ok.dst) (a7:oj.dst≠ok.dst) (hS:S w)
  (mi:∀v (w w':Wa),e v w->La w w'->e v w') (mj:∀v (w w':Wa),Rj v w->La w w'->Rj v w') (mk:∀v (w w':Wa),Rk v w->La w w'->Rk v w')
  (yi:Kz P ops Q S D e a) (yk:Kz P ops Q S ok Rk a) (ac:∀V,Kz P ops Q S D e (a.put ok.dst V))
  (yj:∀Y,Kz P ops Q (λw=>S w/\e Y w) oj Rj (a.put D.dst Y)) (aa:∀Y,Kz P ops Q S ok Rk (a.put D.dst Y))
  (ab:∀Y V,Kz P ops Q (λw=>S w/\e Y w) oj Rj ((a.put D.dst Y).put ok.dst V))
  (H2:∀Y A w',S w'->e Y w'->Rj A w'->La w w'->wpAnyH P md ops Q S (J+1) ((Z.setIfInBounds i G).setIfInBounds j G) ((a.put D.dst Y).put oj.dst A) w')
  (H:∀Y A V w',S w'->e Y w'->Rj A w'->Rk V w'->La w w'->wpAnyH P md ops Q S J (((Z.setIfInBounds i G).setIfInBounds j G).setIfInBounds k G) (((a.put D.dst Y).put oj.dst A).put ok.dst V) w'):wpAnyH P md ops Q S (J+3) Z a w:=by
 have ak:∀d,ok.dst=E d->D.dst≠E d:=λd h1 h2=>a8 (h2.trans h1.symm);have aj:∀d,ok.dst=E d->oj.dst≠E d:=λd h1 h2=>a7 (h2.trans h1.symm);have tail:∀Y V (u:Wa),S u->e Y u->Rk V u->La w u->wpAnyH P md ops Q S (J+1) ((Z.setIfInBounds i G).setIfInBounds k G) ((a.put D.dst Y).put ok.dst V) u:=λY V u N I C s=>by refine wpAnyH_ready a6 sm (Aw hj (λKB B=>ab Y V u ⟨N,I⟩ KB (λA u' a1 a2 X=>B.out _ _ a1.1 (λ_=>?_))) Ci);have h:=H Y A V u' a1.1 a1.2 a2 (mk _ _ _ C X) (s.trans (X.mono s.size));rw[OO _ _ ag,<-Act.put_comm (a.put D.dst Y) V A aj]at h;exact h
 refine wpAnyH_ready hr sm (Aw hi (λKB B=>yi w hS KB (λY u N I s=>B.out _ _ N (λ_=>?_))) (Aw hk (λKB B=>yk w hS KB (λV u N C s=>B.out _ _ N (λ_=>?_))) Ci))
 ·refine wpAnyH_ready af sm (Aw hj (λKB B=>yj Y u ⟨N,I⟩ KB (λA u2 U a2 X=>B.out _ _ U.1 (λ_=>?_))) (Aw hk (λKB B=>aa Y u N KB (λV u2 U C X=>B.out _ _ U (λ_=>tail Y V u2 U (mi _ _ _ I X) C (s.trans (X.mono s.size))))) Ci));exact H2 Y A u2 U.1 U.2 a2 (s.trans (X.mono s.size))
 ·refine wpAnyH_ready ae sm (Aw hi (λKB B=>ac V u N KB (λY u2 U I X=>B.out _ _ U (λ_=>?_))) Ci);have h:=tail Y V u2 U I (mk _ _ _ C X) (s.trans (X.mono s.size));rw[OO _ _ ai,<-Act.put_comm a V Y ak]at h;exact h
end
theorem Gy{w:Wa}{base n size:Nat}{e:TypeId}{v:Vk}{xs:List Vk}(h:w.ownsRow base e size v n xs):∃a c,v=T a n c/\n<=c/\SlK size w a n xs/\∀q,a=E q->base<=q.block/\q.block<w.heap.size:=by obtain⟨a,c,rfl,h1,h2⟩:=SlK.own h;exact⟨a,c,rfl,h1,h2,λq Z=>Gw h q.block (by rw[Z];rfl)⟩
def anc(B N:Nat)(Z:List Int)(v:Vk)(X:Wa):Prop:=∃a Y,v=T a N Y/\ByD (λk=>B<=k/\k<X.heap.size) X a N Z
def anj(B N:Nat)(Z:List Int)(nu st wm:Nat)(v:Vk)(X:Wa):Prop:=∃a Y,v=i8 #[R K (nu:Int),R K (st:Int),R K (wm:Int),T a N Y]/\ByD (λk=>B<=k/\k<X.heap.size) X a N Z
def anT(B:Nat)(v:Vk)(X:Wa):Prop:=∃b,v=L (E ⟨b,0,O⟩)/\B<=b/\X.heap[b]?=E (i7 #[R K 0,R K 0,R K 0,T O 0 0] 120 (0,0))
theorem agB{B N:Nat}{Z:List Int}{a:Option Addr}{X Y:Wa}(h:ByD (λk=>B<=k/\k<X.heap.size) X a N Z)(V:La X Y):ByD (λk=>B<=k/\k<Y.heap.size) Y a N Z:=(h.keep (Y:=λ_=>False) (.of_same V) λ_ _ _ h=>h).wide λk _ hk=>⟨hk.1,Af hk.2 V.size⟩
theorem aje(B N:Nat)(Z:List Int)(v:Vk)(X Y:Wa)(h:anc B N Z v X)(V:La X Y):anc B N Z v Y:=let⟨a,cc,h1,h2⟩:=h;⟨a,cc,h1,agB h2 V⟩
theorem aji(B N:Nat)(Z:List Int)(nu st wm:Nat)(v:Vk)(X Y:Wa)(h:anj B N Z nu st wm v X)(V:La X Y):anj B N Z nu st wm v Y:=let⟨a,cc,h1,h2⟩:=h;⟨a,cc,h1,agB h2 V⟩
theorem ao4(B:Nat)(v:Vk)(X Y:Wa)(h:anT B v X)(Z:La X Y):anT B v Y:=let⟨b,h1,h2,h3⟩:=h;⟨b,h1,h2,(Z.block b (AD.1 h3).1).trans h3⟩
theorem aip{A:PAd}{c:CfM}{s:PlM}{o:Nat->Nat}(w W:Wa)(h:AE A c o s w W)(C:List Int)(hu:s.us[s.rd.buf]?=E G)(hd:s.ds[s.rd.buf]?=E C)(hl:lc C<=100000)(aq:∀x∈C,0<=x/\x<=255)(hq:lc s.q<c.Q)(aH:s.shut=M)(hF:c.F+s.rd.ahead<=4611686018428387904)(ar:s.number<=1000000000) :Calls ZP 144 #[L (E ⟨A.R,0,O⟩)] W λe w'=>e=ra (ta #[])/\AE A c o (putR c s) w w':=by
 have k0:=h.ceR 0 (L (E ⟨A.P,0,O⟩)) λ_=>rfl;obtain⟨nu,aB⟩:∃m,s.number=m:=⟨_,rfl⟩;obtain⟨bf,ag⟩:∃m,s.rd.buf=m:=⟨_,rfl⟩;obtain⟨ah,aD⟩:∃m,s.rd.ahead=m:=⟨_,rfl⟩;obtain⟨wm,ay⟩:∃m,s.rd.warm=m:=⟨_,rfl⟩;obtain⟨N,hN⟩:∃m,lc C=m:=⟨_,rfl⟩;have X:Hid (∀V,La W V->V.cell? ⟨A.P,16,O⟩=E (R K (nu:Int))/\V.cell? ⟨A.P,7,O⟩=E (R K (c.F:Int))/\V.cell? ⟨A.R,10,O⟩=E (R K (ah:Int))/\V.cell? ⟨A.R,8,O⟩=E (R K (wm:Int))/\V.cell? ⟨A.P,11,O⟩=E (L (E ⟨A.Bb,0,O⟩))/\V.cell? ⟨A.R,7,O⟩=E (R K (bf:Int))):=λV Z=>by have hg:=h.bel Z;exact⟨hg.ceP 16 _ λ_=>by rw[<-aB];rfl,hg.ceP 7 _ λ_=>rfl,hg.ceR 10 _ λ_=>by rw[<-aD];rfl,hg.ceR 8 _ λ_=>by rw[<-ay];rfl,hg.ceP 11 _ λ_=>rfl,hg.ceR 7 _ λ_=>by rw[<-ag];rfl⟩
 have HD:Hid (∀V,La W V->Calls ZP 195 #[L (E ⟨A.Bb,0,O⟩),R K (bf:Int)] V λe w'=>∃a cc,e=ra (T a N cc)/\ByD (λk=>W.heap.size<=k/\k<w'.heap.size) w' a N C/\La V w'):=λV Z=>(h.bel Z).low λo1 h1=>by rw[<-ag,<-hN];refine(ap4 h1 s.rd.buf C hu hd om).mono ?_;rintro e w' ⟨v,rfl,ho,hb⟩;obtain⟨a,cc,rfl,_,hs⟩:=Co (enc:=Value.int .u8) ho;refine⟨a,cc,rfl,⟨⟨hs,aq⟩,λ_ q e=>?_⟩,hb⟩;have:=Gw ho q.block (by rw[e];rfl);exact⟨AS Z.size this.1,this.2⟩
 obtain⟨st,aF⟩:∃m,c.F+ah=m:=⟨_,rfl⟩;have b6:IntKind.i64.wrap ((c.F:Int)+(ah:Int))=(st:Int):=by rw[BK];omega
 have b0:=AA aF;have HG:=AA h;have HN:=AA (Va aB (Va ag (Va aD (Va ay hN))));have HQ:=AA (Va hq (Va aH ar));have b4:=AA hd;clear h hu hd hl aq hq aH hF ar aB ag aD ay hN aF;go_enter func144,ntmps144;go_upto_region 1 with fail
 clear k0;refine Ve ?_;refine Vd (S:=λV=>La W V) kr (AN W 1) (λhHeld=>?_);refine tkA 0 ?_;refine tkA 1 ?_;refine tkA 2 ?_;refine tkB 3 X.out ?_;refine tkA 4 ?_;refine tkA 5 ?_;refine tkA 6 ?_;refine tkA 7 ?_;refine tkB 8 X.out ?_;refine tkA 9 ?_;refine tkA 10 ?_;refine tkA 11 ?_;refine tkB 12 X.out ?_;refine tkA 13 ?_;refine tkA 14 ?_;refine tkA 15 ?_;refine tkA 16 ?_;refine tkB 17 X.out ?_;refine tkA 18 ?_;refine tkA 19 ?_;refine tkA 20 ?_;refine tkB 21 X.out ?_;refine tkA 22 ?_;refine tkA 23 ?_;refine tkA 24 ?_;refine tkB 25 X.out ?_;refine(λH=>ad2 26 27 28 (anc W.heap.size N C) (anj W.heap.size N C nu st wm) (anT W.heap.size) (by simp only[pD,pE,pF];rfl) (by simp only[pD,pE,pF];rfl) (by simp only[pD,pE,pF];rfl) (by as_aux_lemma=>kernel_rfl) (by as_aux_lemma=>kernel_rfl) (by as_aux_lemma=>kernel_rfl) (by as_aux_lemma=>kernel_rfl) (by decide) (by decide) (by decide) (by decide) (by assumption) (aje W.heap.size N C) (aji W.heap.size N C nu st wm) (ao4 W.heap.size) ?_ ?_ ?_ ?_ ?_ ?_ ?_ H) ?_
 ·intro V Z KB X
  try simp only[pq]at X⊢
  go_simp
  (go_at_call 195;refine(HD.out V Z).mono ?_;rintro e w9 ⟨a9,c9,rfl,j,ac⟩;exact X _ _ (Z.trans (ac.mono Z.size)) ⟨a9,c9,rfl,j⟩ ac)
 ·intro V Z KB X
  try simp only[pq]at X⊢
  go_simp;exact X _ _ (Z.trans ((AL _ _).mono Z.size)) (⟨_,rfl,Z.size,AT _ _⟩) (AL _ _)
 ·intro vk V Z KB X
  try simp only[pq]at X⊢
  go_simp
  (go_at_call 195;refine(HD.out V Z).mono ?_;rintro e w9 ⟨a9,c9,rfl,j,ac⟩;exact X _ _ (Z.trans (ac.mono Z.size)) ⟨a9,c9,rfl,j⟩ ac)
 ·intro vi V Z KB X;obtain⟨Z,hR⟩:=Z
  try simp only[pq]at X⊢
  (obtain⟨a9,c9,rfl,j⟩:=hR;go_simp;exact X _ _ ⟨Z,a9,c9,rfl,j⟩ ⟨a9,c9,rfl,j⟩ (Jj _ _))
 ·intro vi V Z KB X
  try simp only[pq]at X⊢
  go_simp;exact X _ _ (Z.trans ((AL _ _).mono Z.size)) (⟨_,rfl,Z.size,AT _ _⟩) (AL _ _)
 ·intro vi vk V Z KB X;obtain⟨Z,hR⟩:=Z
  try simp only[pq]at X⊢
  (obtain⟨a9,c9,rfl,j⟩:=hR;go_simp;exact X _ _ ⟨Z,a9,c9,rfl,j⟩ ⟨a9,c9,rfl,j⟩ (Jj _ _))
 ·intro vi vj V Z aV aU ai;refine rdy 28 (λKB X=>?_);go_simp;refine X.out _ _ (Z.trans ((AL _ _).mono Z.size)) (λ_=>?_);exact H vi vj _ _ (Z.trans ((AL _ _).mono Z.size)) ((aje W.heap.size N C) _ _ _ aV (AL _ _)) ((aji W.heap.size N C nu st wm) _ _ _ aU (AL _ _)) (⟨_,rfl,Z.size,AT _ _⟩) (ai.trans ((AL _ _).mono ai.size))
 rintro vi vj vk V Z ⟨_,_,rfl,_⟩ ⟨a1,c1,rfl,ab⟩ ⟨J,rfl,ae,I⟩ ai
 try simp only[pq]
 obtain⟨V2,ak⟩:∃U,U=(((V.setCell ⟨J,0,O⟩ (R K (nu:Int))).setCell ⟨J,1,O⟩ (R K (st:Int))).setCell ⟨J,2,O⟩ (R K (wm:Int))).setCell ⟨J,3,O⟩ (T a1 N c1):=⟨_,rfl⟩;have aC:La W V2:=by rw[ak];exact(((Z.setCell ae _).setCell ae _).setCell ae _).setCell ae _
 have a2:V2.heap[J]?=E (i7 #[R K (nu:Int),R K (st:Int),R K (wm:Int),T a1 N c1] 120 (0,0)):=by rw[ak];exact AJ (i:=3) (AJ (i:=2) (AJ (i:=1) (AJ (i:=0) I (R K (nu:Int))) (R K (st:Int))) (R K (wm:Int))) (T a1 N c1)
 have af:Chg (λk=>k=J) V V2:=by rw[ak];exact((((Chg.refl (λk=>k=J) V).set rfl).set rfl).set rfl).set rfl
 have y0:V.cell? ⟨J,0,O⟩=E (R K 0):=by simp[cell?,I]
 have y1:V.cell? ⟨J,1,O⟩=E (R K 0):=by simp[cell?,I]
 have y2:V.cell? ⟨J,2,O⟩=E (R K 0):=by simp[cell?,I]
 have y3:V.cell? ⟨J,3,O⟩=E (T O 0 0):=by simp[cell?,I]
 have z0:V.frozen? ⟨J,0,O⟩=M:=by simp[frozen?,I]
 have z1:V.frozen? ⟨J,1,O⟩=M:=by simp[frozen?,I]
 have z2:V.frozen? ⟨J,2,O⟩=M:=by simp[frozen?,I]
 have z3:V.frozen? ⟨J,3,O⟩=M:=by simp[frozen?,I]
 have aZ:=AA ak;refine rdy 29 (λKB X=>?_);go_simp;rw[<-aZ.out];refine X.out _ _ aC (λaX=>?_);clear X KB
 try simp only[pq]
 refine Vg kr ?_ _;refine At ?_;have aJ:N≠0->∀q,a1=E q->q.block≠J:=λh0 q e e2=>by
  obtain⟨g,off,e3,hl,hx⟩:=ab.1.1.2.resolve_left h0;rw[e3]at e
  cases AK e
  have e2:g=J:=e2;subst e2;have b7:lc C=N:=HN.out.2.2.2.2;have h1:=hx 0 _ (Ar (by omega:0<lc C));simp only[cell?,I]at h1;have h2:off<4:=by
   have:=(AD.1 h1).1
   simpa using this
  rcases(by omega:off=0∨off=1∨off=2∨off=3)with rfl|rfl|rfl|rfl<;>simp at h1
 have a6:ByD (λk=>W.heap.size<=k/\k<V2.heap.size) V2 a1 N C:=by refine⟨ab.1.same af.size λh0 q e=>af.block _ (ab.1.lt h0 q e) (aJ h0 q e),λh0 q e=>?_⟩;have:=ab.2 h0 q e;exact⟨this.1,Af this.2 af.size⟩
 obtain⟨o3,h3,w3,g3,n3⟩:=HG.out.belZ aC;have aA:PcD (λk=>o3 k=0) V2 ⟨(nu:Int),(st:Int),(wm:Int),a1,N,c1,(bf:Int)⟩ ⟨nu,st,wm,C,bf⟩:=⟨rfl,rfl,rfl,rfl,a6.1,λh0 q e=>n3 _ (a6.2 h0 q e).1 (a6.2 h0 q e).2⟩;have b9:=AA aA;have b8:=AA a2;have bb:=AA h3;have am:=AA (Va w3 g3);have aW:Hid (∀V,La V2 V->V.cell? ⟨A.P,12,O⟩=E (L (E ⟨A.Q,0,O⟩))/\V.cell? ⟨A.R,7,O⟩=E (R K (bf:Int))/\V.cell? ⟨J,0,O⟩=E (R K (nu:Int))/\V.cell? ⟨J,1,O⟩=E (R K (st:Int))/\V.cell? ⟨J,2,O⟩=E (R K (wm:Int))/\V.cell? ⟨J,3,O⟩=E (T a1 N c1)):=λV Z=>by have hg:=h3.g.bel Z;have B:=(Z.block J (AD.1 a2).1).trans a2;exact⟨hg.ceP 12 _ λ_=>rfl,hg.ceR 7 _ λ_=>by rw[<-HN.out.2.1];rfl,by simp[cell?,B],by simp[cell?,B],by simp[cell?,B],by simp[cell?,B]⟩
 have aw:o3 J=0:=n3 J ae (AD.1 a2).1;have az:=HQ.out;have al:Hid (∀(s':PlM) V,AE A c o3 s' V2 V->s'.rd=s.rd->V.cell? ⟨A.P,12,O⟩=E (L (E ⟨A.Q,0,O⟩))/\V.cell? ⟨A.R,7,O⟩=E (R K (bf:Int))/\V.cell? ⟨J,0,O⟩=E (R K (nu:Int))/\V.cell? ⟨J,1,O⟩=E (R K (st:Int))/\V.cell? ⟨J,2,O⟩=E (R K (wm:Int))/\V.cell? ⟨J,3,O⟩=E (T a1 N c1)):=λs' V hg hr=>by have B:=(hg.weak J (AD.1 a2).1 aw).trans a2;exact⟨hg.ceP 12 _ λ_=>rfl,hg.ceR 7 _ λ_=>by rw[hr,<-HN.out.2.1];rfl,by simp[cell?,B],by simp[cell?,B],by simp[cell?,B],by simp[cell?,B]⟩
 have aR:=AA (al.out s _ (h3.g.bel (AN V2 1)) rfl);obtain⟨D,hD⟩:∃D,D=V2.drew:=⟨_,rfl⟩;obtain⟨U,hU⟩:∃U,U=D.alloc (i7 #[R K (nu:Int),R K (st:Int),R K (wm:Int),T a1 N c1,R K (bf:Int)] 126):=⟨_,rfl⟩;have aj:La V2 U:=by rw[hU,hD];exact(AN V2 1).alloc (AC _) _
 have ax:U.heap[D.heap.size]?=E (i7 #[R K (nu:Int),R K (st:Int),R K (wm:Int),T a1 N c1,R K (bf:Int)] 126 (0,0)):=by rw[hU];exact AT _ _
 have aG:SlK 5 U (E ⟨D.heap.size,0,O⟩) 1 [R K (nu:Int),R K (st:Int),R K (wm:Int),T a1 N c1,R K (bf:Int)]:=by
  refine⟨rfl,.inr ⟨D.heap.size,0,rfl,(AD.1 ax).1,λi u hi=>?_⟩⟩;have e:U.cell? ⟨D.heap.size,0+i,O⟩=(#[R K (nu:Int),R K (st:Int),R K (wm:Int),T a1 N c1,R K (bf:Int)]:Array Vk)[0+i]?:=by simp only[cell?,ax];simp
  rw[e,DD,Dy];exact hi
 have aQ:=AA (al.out s U (h3.g.bel aj) rfl);have aI:PcD (λk=>o3 k=0) U ⟨(nu:Int),(st:Int),(wm:Int),a1,N,c1,(bf:Int)⟩ ⟨nu,st,wm,C,bf⟩:=aA.keep (Y:=λ_=>False) (.of_same aj) λ_ _ _ h=>h;have HC:=AA ((h3.g.bel aj).lift λo4 h4 z4=>ap7 h4 ⟨nu,st,wm,C,bf⟩ ⟨(nu:Int),(st:Int),(wm:Int),a1,N,c1,(bf:Int)⟩ (E ⟨D.heap.size,0,O⟩) 1 az.1 az.2.1 (aI.wide λk _ hk=>z4 k hk) aG);clear aA a6 aJ a2 h3 w3 g3 n3 af y0 y1 y2 y3 z0 z1 z2 z3 aX I ab aC ai hHeld Z X HG aW aw az aj ax aG aI;have HU:=AA hU;clear hU;go_upto_region 2 with fail
 refine Ve ?_;refine Vd (S:=λV=>V.cell? ⟨A.P,12,O⟩=E (L (E ⟨A.Q,0,O⟩))/\V.cell? ⟨A.R,7,O⟩=E (R K (bf:Int))/\V.cell? ⟨J,0,O⟩=E (R K (nu:Int))/\V.cell? ⟨J,1,O⟩=E (R K (st:Int))/\V.cell? ⟨J,2,O⟩=E (R K (wm:Int))/\V.cell? ⟨J,3,O⟩=E (T a1 N c1)) kr aR.out (λhHeld=>?_);rw[<-hD]at hHeld⊢;clear hD;refine tkA 0 ?_;refine tkA 1 ?_;refine tkA 2 ?_;refine tkW 3 (v:=?_) ?_ ?_;rotate_left
 ·intro V Z;obtain⟨q1,q2,q3,q4,q5,q6⟩:=Z
  first|(go_simp;done)|(go_simp;with_reducible rfl)
 try simp only[pq]
 refine tkW 4 (v:=?_) ?_ ?_;rotate_left
 ·intro V Z;obtain⟨q1,q2,q3,q4,q5,q6⟩:=Z
  first|(go_simp;done)|(go_simp;with_reducible rfl)
 try simp only[pq]
 refine tkA 5 ?_;refine tkA 6 ?_;refine tkA 7 ?_;refine tkW 8 (v:=?_) ?_ ?_;rotate_left
 ·intro V Z;obtain⟨q1,q2,q3,q4,q5,q6⟩:=Z
  first|(go_simp;done)|(go_simp;with_reducible rfl)
 try simp only[pq]
 refine tkA 9 ?_;refine rdy 10 (λKB X=>?_);go_simp;rw[<-HU.out];refine X.out _ _ aQ.out (λh10=>?_);clear X KB
 try simp only[pq]
 refine rdy 11 (λKB X=>?_);go_simp
 go_at_call 196
 refine HC.out.mono ?_;rintro e w5 ⟨⟨v5,rfl⟩,hg⟩;refine X.out _ _ (al.out _ _ hg rfl) (λh11=>?_);clear X KB
 try simp only[pq]
 refine Vg kr ?_ _;refine At ?_;clear h10 h11 hHeld aR aQ HC al;obtain⟨aa,au⟩:∃m,nu+1=m:=⟨_,rfl⟩;have b5:IntKind.i64.wrap ((nu:Int)+1)=(aa:Int):=by have h1:=HQ.out.2.2;have h2:=HN.out.1;rw[BK];omega
 have aT:=hg.ceP 16 (R K (nu:Int)) λ_=>by rw[<-HN.out.1];rfl
 have aY:=hg.frP 16;have ap:=AA (hg.setP 16 (R K (aa:Int)) {s with q:=s.q++[⟨nu,st,wm,C,bf⟩],number:=aa} (λ_=>rfl) rfl (Ai.congr 1));have b2:=AA au;clear hg au;go_upto_region 4 with fail
 obtain⟨W6,aM⟩:∃V,V=w5.setCell ⟨A.P,16,O⟩ (R K (aa:Int)):=⟨_,rfl⟩;rw[<-aM]at ap⊢;clear aM aT aY;have c6:=ap.out.ceR 6 (i6 s.rd.holds) λ_=>rfl;have f6:=ap.out.frR 6;have ao:=AA (ap.out.setR 6 (i6 M) {s.rd with holds:=M} (λ_=>rfl) rfl);go_upto_region 5 with fail
 obtain⟨W7,aL⟩:∃V,V=W6.setCell ⟨A.R,6,O⟩ (i6 M):=⟨_,rfl⟩;rw[<-aL]at ao⊢;clear aL c6 f6;have aP:=ao.out.ceR 1 (.int .u8 (s.rd.ph:Int)) λ_=>rfl;have aN:=ao.out.frR 1;have a8:=AA (ao.out.setR 1 (.int .u8 1) {s.rd with holds:=M,ph:=1} (λ_=>rfl) rfl);go_upto_region 6 with fail
 obtain⟨W8,aK⟩:∃V,V=W7.setCell ⟨A.R,1,O⟩ (.int .u8 1):=⟨_,rfl⟩;rw[<-aK]at a8⊢;clear aK aP aN;have aO:=a8.out.ceR 12 (i6 s.rd.ended) λ_=>rfl;have av:∀ph,AE A c o3 {s with q:=s.q++[⟨nu,st,wm,C,bf⟩],number:=aa,rd:={s.rd with holds:=M,ph:=ph}} V2=AE A c o3 {s with q:=s.q++[⟨s.number,c.F+s.rd.ahead,s.rd.warm,s.ds.getD s.rd.buf [],s.rd.buf⟩],number:=s.number+1,rd:={s.rd with holds:=M,ph:=ph}} V2:=λph=>by
  obtain⟨e1,e2,e3,e4,e5⟩:=HN.out;rw[<-b2.out,<-b0.out,<-e1,<-e2,<-e3,<-e4,DZ,b4.out]
  rfl
 have aS:=AA av;clear av
 cases a7:s.rd.ended with
 |false=>
  rw[a7]at aO;have aE:=AA a7;clear a7;go_wp2
  go_end0
  refine⟨rfl,?_⟩;unfold putR;rw[aE.out,Lc sm];exact AE.comp am.out.1 am.out.2 (by have:=a8.out;rw[aS.out 1]at this;exact this)
 |true=>
  rw[a7]at aO;have aE:=AA a7;have aP:=a8.out.ceR 1 (.int .u8 1) λ_=>rfl;have aN:=a8.out.frR 1;have b3:=AA (a8.out.setR 1 (.int .u8 4) {s.rd with holds:=M,ph:=4} (λ_=>rfl) rfl);clear a7;go_wp2
  go_end0
  refine⟨rfl,?_⟩;unfold putR;rw[aE.out,Lq rfl];exact AE.comp am.out.1 am.out.2 (by have:=b3.out;rw[aS.out 4]at this;exact this)
def Nw(A:PAd)(c:CfM)(o:Nat->Nat)(s':PlM)(w w':Wa):Prop:=∃o',AI A c o' s' w'/\(∀k,o k=0->o' k=0)/\PB o o' w w'/\∀k,w.heap.size<=k->k<w'.heap.size->o' k=0
section
variable {A:PAd}{c:CfM}{s s' s'':PlM}{o:Nat->Nat}{w w' w'':Wa}
theorem AI.updZ(h:AI A c o s w)(t:Nat)(D:t≠0)(C:t<1000)(J:Chg (λk=>o k=t) w w')(v:Ai A c s' (λk=>o k=t) (λk=>o k=0) w' t)
  (B:∀u X Z V,u≠t->Ai A c s X Z V u->Ai A c s' X Z V u):Nw A c o s' w w':=by
 have I:∀k,k<w'.heap.size->o k=0->EW o w.heap.size w'.heap.size 0 k=0:=λk hk h0=>by
  by_cases Y:k<w.heap.size
  ·rw[FV Y];exact h0
  ·exact Mq om hk
 refine⟨EW o w.heap.size w'.heap.size 0,⟨λu U=>?_,λk hk=>Mp (AS J.size hk) hk⟩,λk hk=>?_,⟨J.mono λk _ e=>⟨by rw[e];exact D,by rw[e];omega⟩,λk hk e=>(FV hk).trans e⟩,λk h1 h2=>Mq h1 h2⟩
 ·have H:∀k,k<w'.heap.size->o k=u->EW o w.heap.size w'.heap.size 0 k=u:=λk hk e=>by
   by_cases Y:k<w.heap.size
   ·rw[FV Y];exact e
   ·have:=h.out k om;omega
  by_cases N:u=t
  ·subst N;exact v.wide H I
  ·exact((B u _ _ _ N (h.part u U)).keep J (λk _ h1 h2=>N (h1.symm.trans h2)) (λk _ h1 h2=>D (h2.symm.trans h1))).wide H I
 ·by_cases Y:k<w.heap.size
  ·rw[FV Y];exact hk
  ·have:=h.out k om;omega
theorem Nw.g(h:Nw A c o s' w w'):AE A c o s' w w':=let⟨o',h1,h2,h3,_⟩:=h;⟨o',h1,h2,h3⟩
theorem AE.byD(h:AE A c o s' w w'){a:Option Addr}{n:Nat}{bs:List Int}(Z:ByD (λk=>o k=0) w a n bs):ByD (λk=>o k=0) w' a n bs:=by obtain⟨o',_,_,h3⟩:=h;exact Z.keep h3.c λk _ Y e2=>e2.1 Y
theorem AE.slD(h:AE A c o s' w w'){a:Option Addr}{n:Nat}{bs:List AF}(Z:SlD (λk=>o k=0) w a n bs):SlD (λk=>o k=0) w' a n bs:=by obtain⟨o',_,_,h3⟩:=h;exact Z.keep h3.c λk _ Y e2=>e2.1 Y
theorem amQ(h:AI A c o s w)(Z:Int)(H:∀x∈s.rs,lc x<=1000000)(J:s.told<=1000000000) :Calls ZP 192 #[L (E ⟨A.S,0,O⟩),R K Z] w λe w'=>∃a U,e=ra (ta #[T a (BR Z s.rs).length U,i6 s.rs.isEmpty])/\ByD (λk=>w.heap.size<=k/\k<w'.heap.size) w' a (BR Z s.rs).length (BR Z s.rs)/\Nw A c o {s with rs:=EB Z s.rs,told:=s.told+(BR Z s.rs).length} w w':=by obtain⟨a,n,U,vs,h1,h2⟩:MM A c s (λk=>o k=2) w:=h.part 2 om;refine(age Z w h1 h2 H J).mono ?_;rintro e w' ⟨v,a2,N,c2,Y,rfl,V,B,C,D,g5⟩;obtain⟨j,X,rfl,_,I⟩:=Co (enc:=Value.int .u8) V;refine⟨j,X,rfl,⟨⟨I,B⟩,λ_ q e=>?_⟩,h.updZ 2 om om D ⟨a2,N,c2,Y,C,by omega⟩ (Ai.congr 2)⟩;exact Gw V q.block (by rw[e];rfl)
theorem AI.tailApp(h:AI A c o s w){I:Vk}(j:w.heap[A.R]?=E (i7 (rdV A s.rd I) 245 (0,0)))(bs:List Int){N:Option Addr}{X U:Nat}{Z:Wa}(ht:Cv (λk=>o k=8∨w.heap.size<=k) Z (T N X U) (s.rd.tail++bs))(v:w.grownBy Z I.ownBlock)
  (C:(T N X U).ownBlock=I.ownBlock∨(T N X U).ownBlock=E w.heap.size) :
  AE A c o {s with rd:={s.rd with tail:=s.rd.tail++bs}} w (Z.setCell ⟨A.R,11,O⟩ (T N X U))/\Z.frozen? ⟨A.R,11,O⟩=M/\Z.cell? ⟨A.R,11,O⟩=E I:=by
 obtain⟨J,h1,h2,h3,h4⟩:LA A s (λk=>o k=8) w:=h.part 8 om;have e0:J=I:=by
  rw[h1]at j;have e1:=congrArg (λx=>x.bind λy=>match y with|Obj.cells cs _ _=>cs[11]?|_=>O) j
  simpa[rdV,EO]using e1
 subst e0;have B:=(AD.1 h1).1;have V:Z.heap[A.R]?=E (i7 (rdV A s.rd J) 245 (0,0)):=(v.block A.R B λe=>h4 e.symm).trans h1;have H:(T N X U).ownBlock≠E A.R:=λe=>by
  rcases C with e2|e2
  ·exact h4 (e2.symm.trans e)
  ·rw[e2]at e;have:=AK e;omega
 have hc:Chg (λk=>o k=8) w (Z.setCell ⟨A.R,11,O⟩ (T N X U)):=by refine((Chg.refl _ w).grown v λg e _=>(h3.lt g e).2).set ?_;exact h2
 refine⟨h.upG 8 om om hc ⟨T N X U,?_,.inl h2,?_,H⟩ (Ai.congr 8),by simp[frozen?,V],by simp[cell?,V,rdV,EO]⟩
 ·exact AJ (i:=11) V _
 ·exact ht.keep (Y:=λk=>k=A.R) ((Chg.refl _ Z).set rfl) λg D e=>H (by rw[<-e];exact D)
theorem AI.tailCut(h:AI A c o s w){a:Option Addr}{n Z:Nat}(V:w.cell? ⟨A.R,11,O⟩=E (T a n Z))(k:Nat)(hk:k<=n) :AE A c o {s with rd:={s.rd with tail:=s.rd.tail.drop k}} w (w.setCell ⟨A.R,11,O⟩ (T (if Z=k then a else a.map (·.add k)) (n-k) (Z-k)))/\w.frozen? ⟨A.R,11,O⟩=M:=by
 obtain⟨N,h1,h2,h3,h4⟩:LA A s (λk=>o k=8) w:=h.part 8 om;have I:N=T a n Z:=by simp only[cell?,h1]at V;have V:E N=E (T a n Z):=V;exact AK V
 subst I;have X:(T (if Z=k then a else a.map (·.add k)) (n-k) (Z-k)).ownBlock≠E A.R:=λe=>by
  split at e
  ·cases a with
   |none=>cases e
   |some p=>exact h4 e
  ·cases a with
   |none=>cases e
   |some p=>
    refine h4 ?_;simp only[Dw,Value.ownBlock]at e⊢;rw[<-e]
    cases p
    simp only[Addr.add]
    split<;>rfl
 have J:Chg (λk=>o k=8) w (w.setCell ⟨A.R,11,O⟩ (T (if Z=k then a else a.map (·.add k)) (n-k) (Z-k))):=(Chg.refl _ w).set h2;refine⟨.of_same (J.mono λk _ e=>by unfold Oz;rw[e];decide) (h.updB 8 om om (by simp[World.setCell]) J ⟨_,AJ (i:=11) h1 _,h2,?_,X⟩ (Ai.congr 8)),by simp[frozen?,h1]⟩;exact(h3.cut k hk).keep (Y:=λk=>k=A.R) ((Chg.refl _ w).set rfl) λg U e=>X (by rw[<-e];exact U)
end
theorem aaf{P:Program}{w w':Wa}{Z:Array Oper}{rest:List Oper}{o:Oper}{a:Act}{Q:Exit->Act->Wa->Prop}{v X v':Vk}(Y:o.guard=O)(s x:Operand)(t:TypeId)
  (ho:o.op=.call {callee:=.builtin .append,args:=#[s,x],argTypes:=#[t,t]}) (U:a.eval s=v) (V:a.eval x=X) (N:(Builtin.append_ #[t,t] o.type #[v,X]).run P w=.ok v' w') (h:wpList P Z Q rest (a.put o.dst v') w'):wpList P Z Q (o::rest) a w:=by
 refine wpList_plain Y λKB J=>?_;unfold Oper.wp execOp;simp only[ho,resolve,invoke,builtin,IN,IM,Result.andThen_ok,LI,BO,DE,U,V,N];exact J _ _ h
theorem afC{A:PAd}{c:CfM}{s:PlM}{o:Nat->Nat}(w W:Wa)(h:AE A c o s w W)(Y:s.rs=[])(hk:c.K<=100000)(H:s.rd.own<=100000)(hl:lc s.fr<=100000)(ht:s.told<=1000000000) :Calls ZP 142 #[L (E ⟨A.R,0,O⟩)] W λe w'=>e=ra (ta #[])/\AE A c o (readR c s) w w':=by
 have k0:=h.ceR 0 (L (E ⟨A.P,0,O⟩)) λ_=>rfl;obtain⟨K0,j⟩:∃m,c.K=m:=⟨_,rfl⟩;obtain⟨X,U⟩:∃m,s.rd.own=m:=⟨_,rfl⟩;have hS:Hid (∀(s':PlM) V,AE A c o s' w V->s'.rd=s.rd->V.cell? ⟨A.P,9,O⟩=E (L (E ⟨A.S,0,O⟩))/\V.cell? ⟨A.P,2,O⟩=E (R K (K0:Int))/\V.cell? ⟨A.R,9,O⟩=E (R K (X:Int))):=λs' V Z hr=>⟨Z.ceP 9 _ λ_=>rfl,Z.ceP 2 _ λ_=>by rw[<-j];rfl,Z.ceR 9 _ λ_=>by rw[hr,<-U];rfl⟩;obtain⟨mo,a8⟩:∃m,(K0:Int)-(X:Int)=m:=⟨_,rfl⟩;have ac:IntKind.i64.wrap ((K0:Int)-(X:Int))=mo:=by rw[BK];omega
 have N:BR mo s.rs=[]:=by rw[Y];rfl
 have C:EB mo s.rs=s.rs:=by rw[Y];rfl
 have HC:=AA ((h.bel (AN W 1)).lift λo1 h1 z1=>(amQ h1 mo (by rw[Y];simp) ht).mono (R':=λe w'=>(∃a cc,e=ra (ta #[T a 0 cc,i6 G]))/\AE A c o1 s (W.drewN 1) w') λe w' ⟨a,cc,h2,_,h3⟩=>by rw[N,Y]at h2;have h3:=h3.g;rw[N,C]at h3;exact⟨⟨a,cc,h2⟩,h3⟩)
 have J:=AA (hS.out s _ (h.bel (AN W 1)) rfl);have HR:=AA Y;have HL:=AA hl;have a7:=AA U;clear h Y hk H hl ht j U a8 N C;go_enter func142,ntmps142;go_upto_region 1 with fail
 obtain⟨D,hD⟩:∃D,D=W.drew:=⟨_,rfl⟩;have a1:W.drewN 1=D:=by rw[hD];rfl
 rw[a1]at HC J;clear k0 a1;refine Ve ?_;refine Vd (S:=λV=>V.cell? ⟨A.P,9,O⟩=E (L (E ⟨A.S,0,O⟩))/\V.cell? ⟨A.P,2,O⟩=E (R K (K0:Int))/\V.cell? ⟨A.R,9,O⟩=E (R K (X:Int))) kr (by rw[<-hD];exact J.out) (λhHeld=>?_);rw[<-hD]at hHeld⊢;clear hD;refine tkA 0 ?_;refine tkA 1 ?_;refine tkA 2 ?_;refine tkW 3 (v:=?_) ?_ ?_;rotate_left
 ·intro V B;obtain⟨q1,q2,q3⟩:=B
  first|(go_simp;done)|(go_simp;with_reducible rfl)
 try simp only[pq]
 refine tkA 4 ?_;refine tkA 5 ?_;refine tkA 6 ?_;refine tkA 7 ?_;refine tkW 8 (v:=?_) ?_ ?_;rotate_left
 ·intro V B;obtain⟨q1,q2,q3⟩:=B
  first|(go_simp;done)|(go_simp;with_reducible rfl)
 try simp only[pq]
 refine tkA 9 ?_;refine tkA 10 ?_;refine tkA 11 ?_;refine tkW 12 (v:=?_) ?_ ?_;rotate_left
 ·intro V B;obtain⟨q1,q2,q3⟩:=B
  first|(go_simp;done)|(go_simp;with_reducible rfl)
 try simp only[pq]
 refine tkA 13 ?_;refine rdy 14 (λKB hK=>?_);go_simp
 go_at_call 192
 refine HC.out.mono ?_;rintro e w2 ⟨⟨a2,c2,rfl⟩,Z⟩;refine hK.out _ _ (hS.out _ _ Z rfl) (λa6=>?_);clear hK KB
 try simp only[pq]
 refine tkA 15 ?_;refine tkA 16 ?_;refine tkA 17 ?_;refine tkA 18 ?_;refine tkA 19 ?_;refine Vg kr ?_ _;refine At ?_;have r9:=a6.2.2;have HG:=AA Z;clear a6 hHeld HC J hS
 by_cases h0:0<X
 ·have d0:decide ((X:Int) > 0)=G:=by simp;omega
  have d1:decide (0<X)=G:=by simp;omega
  have af:=Z.ceR 12 (i6 s.rd.ended) λ_=>rfl;have ae:=Z.frR 12;have H1:=Z.setR 12 (i6 G) {s.rd with ended:=G} (λ_=>rfl) rfl;have ab:=H1.ceR 1 (.int .u8 (s.rd.ph:Int)) λ_=>rfl;have aa:=H1.frR 1;have I:=AA (H1.setR 1 (.int .u8 3) {s.rd with ended:=G,ph:=3} (λ_=>rfl) rfl);have HH:=AA h0;clear Z H1 h0;go_upto_region 14 with fail
  go_wp2
  go_end0
  refine⟨rfl,?_⟩;unfold readR;rw[Lq (show s.rs.isEmpty=G by rw[HR.out];rfl),Lq (show 0<s.rd.own by rw[a7.out];exact HH.out)];exact I.out
 ·have h0:X=0:=by omega
  subst h0;have HB:=AA (abm w w2 Z HL.out);clear Z;go_upto_region 3 with(go_at_call 193;refine HB.out.mono ?_;rintro e w3 ⟨rfl,Z⟩)
  have ab:=Z.ceR 1 (.int .u8 (s.rd.ph:Int)) λ_=>rfl;have aa:=Z.frR 1;have I:=AA (Z.setR 1 (.int .u8 4) {(backR s).rd with ph:=4} (λ_=>rfl) rfl);clear Z;go_wp2
  go_end0
  refine⟨rfl,?_⟩;unfold readR;rw[Lq (show s.rs.isEmpty=G by rw[HR.out];rfl),Lc (show ¬0<s.rd.own by rw[a7.out];omega)];exact I.out
section
variable {A:PAd}{c:CfM}{s s':PlM}{o:Nat->Nat}{w w':Wa}
theorem AE.cM(h:AE A c o s w w'):∃a m Z,w'.heap[A.M]?=E (i7 (mgV A s.mph (T a m Z)) 251 (0,0))/\SlK 2 w' a m (AV s.left)/\m<=Z:=h.low λY h1=>let⟨a,m,Z,h2,h3,h4⟩:=h1.cM;⟨a,m,Z,h2,h3.1,h4⟩
theorem AE.cE(h:AE A c o s w w'):w'.heap[A.E]?=E (i7 (emV A s.eph) 253 (0,0)):=h.low λZ h1=>h1.cE
theorem AE.setML(h:AE A c o s w w')(l:List AF)(a:Option Addr)(m Y:Nat)(U:∀Z,AI A c Z s w'->(∀k,o k=0->Z k=0)->SlD (λk=>Z k=0) w' a m l)(V:m<=Y):AE A c o {s with left:=l} w (w'.setCell ⟨A.M,6,O⟩ (T a m Y)):=h.then λZ h1 X=>.of_same (h1.chgM 6 _) (h1.setML l a m Y (U Z h1 X) V).1
theorem ajA(Z:Nat->Prop)(w:Wa):SlD Z w O 0 []:=⟨⟨rfl,.inl rfl⟩,λh=>absurd rfl h⟩
end
theorem aba{A:PAd}{c:CfM}{s:PlM}{o:Nat->Nat}(w W:Wa)(h:AE A c o s w W) :Calls ZP 204 #[L (E ⟨A.M,0,O⟩)] W λe w'=>e=ra (ta #[])/\AE A c o {s with ended:=G,mph:=3} w w':=by
 obtain⟨a,m,J,Z,_⟩:=h.cM;have N:W.cell? ⟨A.M,0,O⟩=E (L (E ⟨A.P,0,O⟩)):=by simp only[cell?,Z];rfl
 have Y:=h.ceP 14 (L (E ⟨A.O,0,O⟩)) λ_=>rfl;have I:=AA h;clear h Z;go_enter func204,ntmps204;go_upto_region 1 with(go_at_call 245;refine(I.out.lift λD h1 H=>an3 h1).mono ?_;rintro e U ⟨⟨v,rfl⟩,X⟩)
 obtain⟨a,m,J,Z,_⟩:=X.cM;have B:U.frozen? ⟨A.M,1,O⟩=M:=by simp[frozen?,Z]
 have C:U.cell? ⟨A.M,1,O⟩=E (.int .u8 (s.mph:Int)):=by simp only[cell?,Z];rfl
 have V:=AA (X.setM 3);clear X N Y Z;go_wp2
 go_end0
 exact⟨rfl,V.out⟩
theorem adg{A:PAd}{c:CfM}{s:PlM}{o:Nat->Nat}(w W:Wa)(h:AE A c o s w W)(U:s.next<=1000000000)(r:List (Option (List AF)))(N:s.rg=O::r) :Calls ZP 154 #[L (E ⟨A.M,0,O⟩)] W λe w'=>e=ra (ta #[])/\AE A c o (takeM s) w w':=by
 obtain⟨a,m,cc,J,_⟩:=h.cM;have H:W.cell? ⟨A.M,0,O⟩=E (L (E ⟨A.P,0,O⟩)):=by simp only[cell?,J];rfl
 have Y:=h.ceP 13 (L (E ⟨A.G,0,O⟩)) λ_=>rfl;have B:=AA h;have X:=AA (Va U N);clear h J U N;go_enter func154,ntmps154;go_upto_region 2 with(go_at_call 203;refine(B.out.lift λo1 h1 v=>afI h1 X.out.1 (by rw[X.out.2];rfl)).mono ?_;rintro e I ⟨rfl,Z⟩)
 have C:=AA (aba w I Z);clear Z H Y
 go_wp2_with (go_at_call 204;refine C.out.mono ?_;rintro e j ⟨rfl,Z⟩;have V:=AA Z;clear Z)
 go_end0
 refine⟨rfl,?_⟩;have D:takeM s={s with ended:=G,mph:=3}:=by unfold takeM;rw[X.out.2]
 rw[D];exact V.out
theorem ad4{A:PAd}{c:CfM}{s:PlM}{o:Nat->Nat}(w W:Wa)(h:AE A c o s w W)(j:s.next<=1000000000)(l:List AF)(r:List (Option (List AF)))(hr:s.rg=E l::r) :Calls ZP 154 #[L (E ⟨A.M,0,O⟩)] W λe w'=>e=ra (ta #[])/\AE A c o (takeM s) w w':=by
 obtain⟨o1,h1,z1,g1⟩:=h;obtain⟨a,m,cc,I,_⟩:=h1.cM;have k0:W.cell? ⟨A.M,0,O⟩=E (L (E ⟨A.P,0,O⟩)):=by simp only[cell?,I];rfl
 have H:=h1.g.ceP 13 (L (E ⟨A.G,0,O⟩)) λ_=>rfl;have HC:=AA (afS h1 j l r hr);have Z:∀s' V,AE A c o1 s' W V->AE A c o s' w V:=λs' V N=>AE.comp z1 g1 N;have C:=AA Z;have HX:=AA (Va j hr);clear h1 z1 g1 I j hr Z
 cases v:l with
 |nil=>
  subst v;go_enter func154,ntmps154;go_upto_region 3 with(go_at_call 203;refine HC.out.mono ?_;rintro e B ⟨a1,c1,rfl,Y,X,N⟩;have HG:=AA N;clear Y N X)
  clear k0 H;go_wp2
  go_end0
  refine⟨rfl,?_⟩;have e1:takeM s={s with rg:=r++[O],next:=s.next+1}:=by unfold takeM;rw[HX.out.2];rfl
  rw[e1];exact C.out _ _ HG.out
 |cons q t=>
  obtain⟨n,hn⟩:∃n,lc l=n:=⟨_,rfl⟩;have a6:0<n:=by rw[<-hn,v];simp
  have d0:decide ((n:Int) > 0)=G:=by simp;omega
  have d1:decide (0<n)=G:=by simp;omega
  rw[hn]at HC;have HL:=AA v;clear v a6 hn;go_enter func154,ntmps154;go_upto_region 4 with(go_at_call 203;refine HC.out.mono ?_;rintro e B ⟨a1,c1,rfl,Y,X,N⟩)
  obtain⟨a2,m2,c2,I,_⟩:=N.cM;have j0:B.frozen? ⟨A.M,6,O⟩=M:=by simp[frozen?,I]
  have j1:B.cell? ⟨A.M,6,O⟩=E (T a2 m2 c2):=by simp only[cell?,I];rfl
  have U:=N.setML l a1 n c1 (λo2 h2 z2=>Y.wide λk _ hk=>z2 k hk) X;clear I;go_upto_region 5 with fail
  obtain⟨W2,D⟩:∃V,V=B.setCell ⟨A.M,6,O⟩ (T a1 n c1):=⟨_,rfl⟩;rw[<-D]at U⊢;clear D j0 j1 k0 H Y X N;obtain⟨a3,m3,c3,J,_⟩:=U.cM;have j0:W2.frozen? ⟨A.M,1,O⟩=M:=by simp[frozen?,J]
  have j1:W2.cell? ⟨A.M,1,O⟩=E (.int .u8 (s.mph:Int)):=by simp only[cell?,J];rfl
  have a7:=AA (U.setM 2);clear U J;go_wp2
  go_end0
  refine⟨rfl,?_⟩;have e1:takeM s={s with rg:=r++[O],next:=s.next+1,left:=l,mph:=2}:=by unfold takeM;rw[HX.out.2];simp only[HL.out];rfl
  rw[e1];exact C.out _ _ a7.out
theorem aeL{A:PAd}{c:CfM}{s:PlM}{o:Nat->Nat}(w W:Wa)(h:AE A c o s w W)(H:s.next<=1000000000) :Calls ZP 157 #[L (E ⟨A.M,0,O⟩)] W λe w'=>e=ra (ta #[])/\AE A c o (Hr s) w w':=by
 obtain⟨a,m,cc,X,_⟩:=h.cM;have C:W.cell? ⟨A.M,0,O⟩=E (L (E ⟨A.P,0,O⟩)):=by simp only[cell?,X];rfl
 have J:=h.ceP 13 (L (E ⟨A.G,0,O⟩)) λ_=>rfl;have HG:=AA h;have HX:=AA H;clear h X H;go_enter func157,ntmps157;go_upto_region 1 with(go_at_call 207;refine(HG.out.lift λo1 h1 z1=>ang h1 HX.out).mono ?_;rintro e N ⟨⟨v,rfl⟩,Y⟩)
 obtain⟨a2,D,c2,X,_⟩:=Y.cM;have j:N.frozen? ⟨A.M,6,O⟩=M:=by simp[frozen?,X]
 have B:N.cell? ⟨A.M,6,O⟩=E (T a2 D c2):=by simp only[cell?,X];rfl
 have Z:=Y.setML [] O 0 0 (λo2 h2 z2=>ajA _ _) (AC _);clear X;go_upto_region 2 with fail
 obtain⟨W2,U⟩:∃V,V=N.setCell ⟨A.M,6,O⟩ (T O 0 0):=⟨_,rfl⟩;rw[<-U]at Z⊢;have HS:=AA (aba w W2 Z);clear U j B C J Y Z
 go_wp2_with (go_at_call 204;refine HS.out.mono ?_;rintro e w2 ⟨rfl,Y⟩;have I:=AA Y;clear Y)
 go_end0
 exact⟨rfl,I.out⟩
theorem adC{A:PAd}{c:CfM}{s:PlM}{o:Nat->Nat}(w W:Wa)(h:AE A c o s w W) :Calls ZP 160 #[L (E ⟨A.E,0,O⟩)] W λe w'=>e=ra (ta #[])/\AE A c o (Fr s) w w':=by
 have X:=h.cE;have B:W.cell? ⟨A.E,0,O⟩=E (L (E ⟨A.P,0,O⟩)):=by simp only[cell?,X];rfl
 have H:=h.ceP 14 (L (E ⟨A.O,0,O⟩)) λ_=>rfl;have J:=AA (h.lift λo1 h1 j=>anh h1);clear h X
 cases Z:s.out with
 |nil=>
  have U:lc s.out=0:=by rw[Z];rfl
  rw[U]at J;have N:=AA Z;clear Z U;go_enter func160,ntmps160;go_upto_region 1 with(go_at_call 211;refine J.out.mono ?_;rintro e I ⟨rfl,Y⟩)
  have X:=Y.cE;have j0:I.frozen? ⟨A.E,1,O⟩=M:=by simp[frozen?,X]
  have j1:I.cell? ⟨A.E,1,O⟩=E (.int .u8 (s.eph:Int)):=by simp only[cell?,X];rfl
  have D:=AA (Y.setE 2);clear Y B H X;go_wp2
  go_end0
  refine⟨rfl,?_⟩;have V:Fr s={s with out:=[],eph:=2}:=by unfold Fr;rw[Lq (by rw[N.out];rfl),<-N.out]
  rw[V];exact D.out
 |cons b q=>
  have U:((lc s.out:Int)==0)=M:=by rw[Z];simp;omega
  have V:decide ((lc s.out:Int)=0)=M:=by rw[Z];simp;omega
  obtain⟨n,C⟩:∃n,lc s.out=n:=⟨_,rfl⟩;rw[C]at U V J;have N:=AA Z;clear Z C;go_enter func160,ntmps160
  go_wp2_with (go_at_call 211;refine J.out.mono ?_;rintro e I ⟨rfl,Y⟩;have v:=AA Y;clear Y)
  go_end0
  refine⟨rfl,?_⟩;have V:Fr s={s with out:=[]}:=by unfold Fr;rw[Lc (by rw[N.out];simp)]
  rw[V];exact v.out
theorem alY{w:Wa}{a:Option Addr}{m c:Nat}{h:AF}{t:List AF}(Z:SlK 2 w a m (AV (h::t)))(N:m<=c):SlK 2 w (if c=1 then a else a.map (·.add 2)) (m-1) (AV t)/\m=lc t+1:=by
 have X:m=lc t+1:=by have:=Z.1;rw[GF]at this;simp at this;omega
 refine⟨⟨by rw[GF];omega,?_⟩,X⟩
 by_cases h0:lc t=0
 ·exact .inl om
 ·obtain⟨b,o,rfl,U,Y⟩:=Z.2.resolve_left om;rw[Lc om];refine .inr ⟨b,o+2,by rw[Dw,Cf],U,λi u V=>?_⟩;have:=Y (i+2) u (by show(IH h++AV t)[i+2]?=E u;exact V);rw[show o+2+i=o+(i+2) by omega];exact this
theorem aeo{Z:Nat->Prop}{w:Wa}{a:Option Addr}{m:Nat}{h:AF}{t:List AF}(Y:SlD Z w a m (h::t)):∃g off,a=E ⟨g,off,O⟩/\Z g/\w.cell? ⟨g,off,O⟩=E (R K h.1)/\w.cell? ⟨g,off+1,O⟩=E (R K h.2):=by
 have V:m=lc t+1:=by have:=Y.1.1;rw[GF]at this;simp at this;omega
 obtain⟨b,o,rfl,U,X⟩:=Y.1.2.resolve_left om;exact⟨b,o,rfl,Y.2 om _ rfl,X 0 _ rfl,X 1 _ rfl⟩
theorem aeA{A:PAd}{c:CfM}{s:PlM}{o:Nat->Nat}(w W:Wa)(h:AE A c o s w W)(q:AF)(t:List AF)(hl:s.left=q::t)(ho:lc s.out<c.O)(he:s.ended=M) :Calls ZP 156 #[L (E ⟨A.M,0,O⟩)] W λe w'=>e=ra (ta #[])/\AE A c o (flushM s) w w':=by
 obtain⟨C,h1,z1,g1⟩:=h;obtain⟨a,m,B,hb,j,a6⟩:=h1.cM;rw[hl]at j;obtain⟨g,off,rfl,af,ag,au⟩:=aeo j;obtain⟨tv,hP⟩:=h1.cP;obtain⟨ai,hm⟩:=alY j.1 a6;have ak:=DO W _ ag;have ar:=(AD.1 hb).1;have aq:=(AD.1 hP).1;have aI:C A.M=9:=(h1.part 9 om).elim λa h=>h.elim λm h=>h.elim λB h=>h.2.1;have aH:C A.P=1:=(h1.part 1 om).elim λa h=>h.2.1;have H:Hid (∀V:Wa,(V.heap[A.M]?=W.heap[A.M]?/\V.heap[A.P]?=W.heap[A.P]?/\V.heap[g]?=W.heap[g]?)->V.cell? ⟨A.M,0,O⟩=E (L (E ⟨A.P,0,O⟩))/\V.cell? ⟨A.P,14,O⟩=E (L (E ⟨A.O,0,O⟩))/\V.cell? ⟨A.M,6,O⟩=E (T (E ⟨g,off,O⟩) m B)/\V.cell? ⟨g,off,O⟩=E (R K q.1)/\V.cell? ⟨g,off+1,O⟩=E (R K q.2)):=λV ⟨e1,e2,e3⟩=>by
  refine⟨?_,?_,?_,?_,?_⟩
  ·simp only[cell?,e1.trans hb];rfl
  ·simp only[cell?,e2.trans hP];rfl
  ·simp only[cell?,e1.trans hb];rfl
  ·rw[BC (a:=⟨g,off,O⟩) e3];exact ag
  ·rw[BC (a:=⟨g,off+1,O⟩) e3];exact au
 obtain⟨D,hD⟩:∃D,D=W.drew:=⟨_,rfl⟩;have a7:La W D:=by rw[hD];exact AN W 1
 obtain⟨U,hU⟩:∃U,U=D.alloc (i7 #[R K q.1,R K q.2] 116):=⟨_,rfl⟩;have X:La W U:=by rw[hU];exact a7.alloc a7.size _
 have ao:∀V,La W V->(V.heap[A.M]?=W.heap[A.M]?/\V.heap[A.P]?=W.heap[A.P]?/\V.heap[g]?=W.heap[g]?):=λV hV=>⟨hV.block _ ar,hV.block _ aq,hV.block _ ak⟩;have ac:SlK 2 U (E ⟨D.heap.size,0,O⟩) 1 [R K q.1,R K q.2]:=by rw[hU];exact On D q
 have aB:=h1.bel X;have ab:∀k,k<W.heap.size->EW C W.heap.size U.heap.size 0 k=C k:=λk hk=>FV hk;have HC:Hid (Calls ZP 206 #[L (E ⟨A.O,0,O⟩),T (E ⟨D.heap.size,0,O⟩) 1 1] U λe w'=>(∃v,e=ra v)/\(w'.heap[A.M]?=W.heap[A.M]?/\w'.heap[A.P]?=W.heap[A.P]?/\w'.heap[g]?=W.heap[g]?)/\AE A c C {s with out:=s.out++[q]} W w'/\SlK 2 w' (if B=1 then E ⟨g,off,O⟩ else(E (⟨g,off,O⟩:Addr)).map (·.add 2)) (m-1) (AV t)):=by
  refine(aoX aB q (E ⟨D.heap.size,0,O⟩) 1 ho he ac).mono ?_;rintro e w' ⟨hv,hg,hc⟩;have hk:∀k,k<W.heap.size->C k≠7->w'.heap[k]?=W.heap[k]?:=λk hk h7=>(hc.block k (Af hk X.size) (by rw[ab k hk];exact h7)).trans (X.block k hk);refine⟨hv,⟨hk _ ar om,hk _ aq om,hk _ ak (by have h9:C g=0:=af;omega)⟩,?_,?_⟩
  ·exact AE.comp (λk aK=>by
    by_cases aJ:k<W.heap.size
    ·rw[ab k aJ];exact aK
    ·have:=h1.out k om;omega) ⟨.of_same X,λk hk e=>(ab k hk).trans e⟩ hg
  ·have h9:ByD (λ_=>True) W O 0 []:=⟨⟨⟨rfl,.inl rfl⟩,λx hx=>by cases hx⟩,λh=>absurd rfl h⟩;refine⟨ai.1,?_⟩
   rcases ai.2 with h0|⟨b,o9,e9,aw,aG⟩
   ·exact .inl h0
   ·have aL:b=g:=by
     by_cases h1:B=1
     ·rw[Lq h1]at e9;cases e9;rfl
     ·rw[Lc h1,Dw,Cf]at e9;cases e9;rfl
    subst aL;refine .inr ⟨b,o9,e9,Af aw (AS X.size hc.size),λi u hi=>?_⟩;rw[BC (a:=⟨b,o9+i,O⟩) (hk b aw (by have h9:C b=0:=af;omega))];exact aG i u hi
 have aD:=AA (ao D a7);have aC:=AA (ao U X);have HU:=AA hU;have I:∀s' V,AE A c C s' W V->AE A c o s' w V:=λs' V hg=>AE.comp z1 g1 hg;have aF:=AA I;have HX:=AA (Va hl (Va hm (Va af a6)));have aQ:0<m:=by omega
 have aP:m<=B:=a6;clear h1 z1 g1 hb j ag au hP ai ak ar aq aI aH a7 X ao ac aB ab I hm hl ho he hU a6;go_enter func156,ntmps156;go_upto_region 0 with fail
 refine Ve ?_;refine Vd (S:=λV=>V.heap[A.M]?=W.heap[A.M]?/\V.heap[A.P]?=W.heap[A.P]?/\V.heap[g]?=W.heap[g]?) kr (by rw[<-hD];exact aD.out) (λhHeld=>?_);rw[<-hD]at hHeld⊢;clear hD;refine tkA 0 ?_;refine tkA 1 ?_;refine tkA 2 ?_;refine tkA 3 ?_;refine tkB 4 H.out ?_;refine tkA 5 ?_;refine tkA 6 ?_;refine tkB 7 H.out ?_;refine tkA 8 ?_;refine tkA 9 ?_;refine tkA 10 ?_;refine tkB 11 H.out ?_;refine tkA 12 ?_;refine tkB 13 H.out ?_;refine rdy 14 (λKB H=>?_);go_simp;rw[<-HU.out];refine H.out _ _ aC.out (λaN=>?_);clear H KB
 try simp only[pq]
 refine rdy 15 (λKB H=>?_);go_simp
 go_at_call 206
 refine HC.out.mono ?_;rintro e w2 ⟨⟨v5,rfl⟩,ap,Z,aj⟩;refine H.out _ _ ap (λaM=>?_);clear H KB
 try simp only[pq]
 refine Vg kr ?_ _;refine At ?_;obtain⟨-,-,r6,-,-⟩:=H.out w2 ap;obtain⟨a2,m2,c2,ay,_⟩:=Z.cM;have j6:w2.frozen? ⟨A.M,6,O⟩=M:=by simp[frozen?,ay]
 obtain⟨a8,aa⟩:∃x,(if B=1 then E (⟨g,off,O⟩:Addr) else(E (⟨g,off,O⟩:Addr)).map (·.add 2))=x:=⟨_,rfl⟩;rw[aa]at aj;have ae:=Z.setML t a8 (m-1) (B-1) (λo5 h5 z5=>⟨aj,λh0 q9 e=>by
  have h9:C g=0:=HX.out.2.2.1;have:q9.block=g:=by
   rw[<-aa]at e
   split at e
   ·cases e;rfl
   ·rw[Dw,Cf]at e;cases e;rfl
  rw[this];exact z5 g h9⟩) om
 have Y:=AA ae;clear ae aj Z ay aN aM hHeld aC aD HC ap;have av:flushM s={s with out:=s.out++[q],left:=t,mph:=if t.isEmpty then 1 else s.mph}:=by unfold flushM;rw[HX.out.1]
 have aE:=AA av;clear av;have a1:(0:Int)<=1:=by omega
 have aS:(1:Int)<=(m:Int):=by omega
 go_upto_region 1 with fail
 go_upto_region 2 with fail
 have az:(if B=1 then E (⟨g,off,O⟩:Addr) else E ⟨g,off+2,O⟩)=a8:=by rw[<-aa,Dw,Cf]
 rw[az];obtain⟨W3,am⟩:∃V,V=w2.setCell ⟨A.M,6,O⟩ (T a8 (m-1) (B-1)):=⟨_,rfl⟩;rw[<-am]at Y⊢;obtain⟨o4,h4,z4,g4⟩:=Y.out;have s6:W3.cell? ⟨A.M,6,O⟩=E (T a8 (m-1) (B-1)):=by rw[am];simp[World.cell?_setCell_same,r6]
 clear am az aa r6 j6 h4 z4 g4;obtain⟨a3,m3,c3,ax,_⟩:=Y.out.cM;have f6:W3.frozen? ⟨A.M,6,O⟩=M:=by simp[frozen?,ax]
 clear ax;have N:=HX.out.2.1
 cases ht:t with
 |nil=>
  have J:m-1=0:=by rw[ht]at N;simp at N;omega
  rw[J]at s6;have Z:=Y.out.setML [] O 0 0 (λo2 h2 z2=>ajA _ _) (AC _);have HT:=AA ht;clear N J ht;go_upto_region 4 with fail
  obtain⟨W4,aA⟩:∃V,V=W3.setCell ⟨A.M,6,O⟩ (T O 0 0):=⟨_,rfl⟩;rw[<-aA]at Z⊢;clear aA s6 f6;obtain⟨a4,m4,c4,al,_⟩:=Z.cM;have f1:W4.frozen? ⟨A.M,1,O⟩=M:=by simp[frozen?,al]
  have aR:W4.cell? ⟨A.M,1,O⟩=E (.int .u8 (s.mph:Int)):=by simp only[cell?,al];rfl
  have aO:=AA (Z.setM 1);clear Z al;go_wp2
  go_end0
  refine⟨rfl,?_⟩;rw[aE.out];have:=aO.out;have e:t=[]:=HT.out;rw[e];exact aF.out _ _ this
 |cons q2 t2=>
  obtain⟨m9,J⟩:∃k,m-1=k:=⟨_,rfl⟩;have h9:m9≠0:=by rw[ht]at N;simp at N;omega
  have d0:((m9:Int)==0)=M:=by simp;omega
  have d1:decide ((m9:Int)=0)=M:=by simp;omega
  have d2:decide (m9=0)=M:=by simp;omega
  rw[J]at s6;have HT:=AA ht;clear N J ht;go_wp2
  go_end0
  refine⟨rfl,?_⟩;rw[aE.out,Lc (by rw[HT.out];simp)];exact aF.out _ _ Y.out
theorem aiz{Z:Int}{rs:Lb}(h:0<=Z):((BR Z rs).length:Int)<=Z:=by
 unfold BR
 split
 ·simpa using h
 ·split
  ·simpa using h
  ·unfold Dg
   split
   ·assumption
   ·rw[Ag];omega
theorem ahU{c:CfM}{s:PlM}(Y:s.rs≠[])(Z:List Int)(U:s.ds[s.rd.buf]?=E Z):readR c s={s with rs:=EB ((c.K:Int)-s.rd.own) s.rs,told:=s.told+(BR ((c.K:Int)-s.rd.own) s.rs).length,ds:=s.ds.set s.rd.buf (Z++BR ((c.K:Int)-s.rd.own) s.rs),read:=s.read+(BR ((c.K:Int)-s.rd.own) s.rs).length,rd:={s.rd with own:=s.rd.own+(BR ((c.K:Int)-s.rd.own) s.rs).length,tail:=(s.rd.tail++BR ((c.K:Int)-s.rd.own) s.rs).drop ((s.rd.tail++BR ((c.K:Int)-s.rd.own) s.rs).length-c.wm),ph:=if s.rd.own+(BR ((c.K:Int)-s.rd.own) s.rs).length=c.K then 3 else s.rd.ph}}:=by
 have X:¬(s.rs.isEmpty=G):=by cases V:s.rs with|nil=>exact absurd V Y|cons _ _=>simp
 have N:s.ds.getD s.rd.buf []=Z:=by rw[DZ,U];rfl
 unfold readR;rw[Lc X,N]
theorem AI.drewS{A:PAd}{c:CfM}{s:PlM}{o:Nat->Nat}{w:Wa}(h:AI A c o s w):AI A c o s w.drew:=by have h1:=h.bel (AN w 1);have e:(w.drewN 1).heap.size=w.heap.size:=rfl;rw[e,h.tag_same]at h1;exact h1
theorem aef{A:PAd}{c:CfM}{s:PlM}{o:Nat->Nat}(w W:Wa)(h:AE A c o s w W)(x0:List Int)(av:s.rs≠[])(hk:c.K<=1000)(X:c.wm<=1000)(ak:s.rd.own<=c.K)(hu:s.us[s.rd.buf]?=E G)(hd:s.ds[s.rd.buf]?=E x0)(aF:lc x0+(c.K-s.rd.own)<=c.K+c.wm)
  (ht:s.told<=100000000) (hl:∀x∈s.rs,lc x<=1000000) (C:s.read<=100000000) (U:lc s.rd.tail<=1000) :
  Calls ZP 142 #[L (E ⟨A.R,0,O⟩)] W λe w'=>e=ra (ta #[])/\AE A c o (readR c s) w w':=by
 obtain⟨o1,h1,z1,g1⟩:=h;have k0:=h1.g.ceR 0 (L (E ⟨A.P,0,O⟩)) λ_=>rfl;obtain⟨K0,ay⟩:∃m,c.K=m:=⟨_,rfl⟩;obtain⟨ow,aw⟩:∃m,s.rd.own=m:=⟨_,rfl⟩;obtain⟨mo,aN⟩:∃m,(K0:Int)-(ow:Int)=m:=⟨_,rfl⟩;have bu:IntKind.i64.wrap ((K0:Int)-(ow:Int))=mo:=by rw[BK];omega
 obtain⟨bs,ae⟩:∃b,BR mo s.rs=b:=⟨_,rfl⟩;obtain⟨n,hn⟩:∃m,lc bs=m:=⟨_,rfl⟩;have al:(n:Int)<=mo:=by rw[<-hn,<-ae];exact aiz om
 have aU:s.rs.isEmpty=M:=by cases hh:s.rs with|nil=>exact absurd hh av|cons _ _=>rfl
 have hS:Hid (∀(s':PlM) V,AE A c o1 s' W V->s'.rd=s.rd->V.cell? ⟨A.P,9,O⟩=E (L (E ⟨A.S,0,O⟩))/\V.cell? ⟨A.P,2,O⟩=E (R K (K0:Int))/\V.cell? ⟨A.R,9,O⟩=E (R K (ow:Int))):=λs' V N hr=>⟨N.ceP 9 _ λ_=>rfl,N.ceP 2 _ λ_=>by rw[<-ay];rfl,N.ceR 9 _ λ_=>by rw[hr,<-aw];rfl⟩;obtain⟨D,hD⟩:∃D,D=W.drew:=⟨_,rfl⟩;have az:AI A c o1 s D:=by rw[hD];exact h1.drewS
 have aa:La W D:=by rw[hD];exact AN W 1
 have HC:=AA (amQ az mo hl om);rw[aU,ae,hn]at HC;have b3:=AA (hS.out s D (h1.g.bel aa) rfl);have HB:=AA (Va av (Va ay (Va aw (Va aN (Va ae hn)))));have HN:=AA (Va al (Va hk (Va X (Va ak (Va aF (Va C U))))));have aM:n<=1000/\ow<=1000/\s.read<=100000000/\lc s.rd.tail<=1000:=by omega
 have af:=AA aM;clear aM;have HU:=AA (Va hu hd);have HO:=AA (Va z1 (g1.same aa));have bA:=AA az;have bB:=AA aa;have bq:=AA (λ(s':PlM) V (N:AE A c o1 s' D V)=>AE.comp (w:=W) (w':=D) (o:=o1) (λ_ h=>h) ⟨.of_same aa,λ_ _ h=>h⟩ N);clear h1 z1 g1 av hk X ak hu hd aF ht hl C U ay aw aN ae hn al aU az aa;go_enter func142,ntmps142;go_upto_region 1 with fail
 clear k0;refine Ve ?_;refine Vd (S:=λV=>V.cell? ⟨A.P,9,O⟩=E (L (E ⟨A.S,0,O⟩))/\V.cell? ⟨A.P,2,O⟩=E (R K (K0:Int))/\V.cell? ⟨A.R,9,O⟩=E (R K (ow:Int))) kr (by rw[<-hD];exact b3.out) (λhHeld=>?_);rw[<-hD]at hHeld⊢;clear hD;refine tkA 0 ?_;refine tkA 1 ?_;refine tkA 2 ?_;refine tkW 3 (v:=?_) ?_ ?_;rotate_left
 ·intro V hV;obtain⟨q1,q2,q3⟩:=hV
  first|(go_simp;done)|(go_simp;with_reducible rfl)
 try simp only[pq]
 refine tkA 4 ?_;refine tkA 5 ?_;refine tkA 6 ?_;refine tkA 7 ?_;refine tkW 8 (v:=?_) ?_ ?_;rotate_left
 ·intro V hV;obtain⟨q1,q2,q3⟩:=hV
  first|(go_simp;done)|(go_simp;with_reducible rfl)
 try simp only[pq]
 refine tkA 9 ?_;refine tkA 10 ?_;refine tkA 11 ?_;refine tkW 12 (v:=?_) ?_ ?_;rotate_left
 ·intro V hV;obtain⟨q1,q2,q3⟩:=hV
  first|(go_simp;done)|(go_simp;with_reducible rfl)
 try simp only[pq]
 refine tkA 13 ?_;refine rdy 14 (λKB hK=>?_);go_simp
 go_at_call 192
 refine HC.out.mono ?_;rintro e w2 ⟨a2,c2,rfl,aW,o3,h3,z3,g3,n3⟩;have aS:AE A c o1 {s with rs:=EB mo s.rs,told:=s.told+n} D w2:=⟨o3,h3,z3,g3⟩;refine hK.out _ _ (hS.out _ _ (bq.out _ _ aS) rfl) (λbi=>?_);clear hK KB
 try simp only[pq]
 refine tkA 15 ?_;refine tkA 16 ?_;refine tkA 17 ?_;refine tkA 18 ?_;refine tkA 19 ?_;refine Vg kr ?_ _;refine At ?_;have aX:ByD (λk=>o3 k=0) w2 a2 n bs:=by exact aW.wide λk _ hk=>n3 k hk.1 hk.2
 have b8:=AA aX;have HZ:=AA (Va (λk hk=>z3 k (HO.out.1 k hk)) (HO.out.2.trans HO.out.1 g3));have r7:=h3.g.ceR 7 (R K (s.rd.buf:Int)) λ_=>rfl;have bb:=h3.g.ceP 11 (L (E ⟨A.Bb,0,O⟩)) λ_=>rfl;obtain⟨bf,a1⟩:∃m,s.rd.buf=m:=⟨_,rfl⟩;rw[a1]at r7;have bz:=AA h3;have bt:=AA a1;have aK:=λ(V:Wa)(hV:La w2 V)=>(h3.g.bel hV).lift λo4 h4 z4=>aod h4 bf n c2 a2 bs x0 (b8.out.1.below hV) (by have:=HU.out.1;rwa[a1]at this) (by have:=HU.out.2;rwa[a1]at this) (by have:=HN.out;have h9:=HB.out.2.1;have h8:=HB.out.2.2.1;have h7:=HB.out.2.2.2.1;omega) (by have:=HN.out;omega);have bp:=AA aK;clear bi hHeld HC b3 hS aW h3 z3 g3 n3 aS aX a1 aK;go_upto_region 5 with fail
 refine Hw 9 mixed kr ?_;dsimp only[List.take_succ_cons,List.take_zero,List.drop_succ_cons,List.drop_zero]
 repeat (go_big_quiet_step (fail))
 refine wpQuiet_nil ?_;rintro _ ⟨nq,rfl⟩;have b7:=AA (bp.out _ (AN w2 nq));clear r7 bb
 go_wp2_with fail
 refine b7.out.mono ?_;rintro e w3 ⟨rfl,N⟩;obtain⟨Z,aL⟩:∃m,ow+n=m:=⟨_,rfl⟩;obtain⟨re,C⟩:∃m,s.read=m:=⟨_,rfl⟩;obtain⟨Y,aj⟩:∃m,re+n=m:=⟨_,rfl⟩;have aI:IntKind.i64.wrap ((ow:Int)+(n:Int))=(Z:Int):=by have:=af.out;rw[BK];omega
 have aH:IntKind.i64.wrap ((re:Int)+(n:Int))=(Y:Int):=by have:=af.out;rw[BK];omega
 have ag:=AA (Va aL (Va C aj));have c9:=N.ceR 9 (R K (ow:Int)) λ_=>by rw[<-HB.out.2.2.1];rfl
 have f9:=N.frR 9;have ai:=AA (N.setR 9 (R K (Z:Int)) {s.rd with own:=Z} (λ_=>rfl) rfl);clear N b7 aL C aj;go_upto_region 7 with fail
 obtain⟨W4,b1⟩:∃V,V=w3.setCell ⟨A.R,9,O⟩ (R K (Z:Int)):=⟨_,rfl⟩;rw[<-b1]at ai⊢;clear b1 c9 f9 aI;have b9:=ai.out.ceP 17 (R K (re:Int)) λ_=>by rw[<-ag.out.2.1];rfl
 have bj:=ai.out.frP 17;have aD:=AA (ai.out.setP 17 (R K (Y:Int)) {s with rs:=EB mo s.rs,told:=s.told+n,ds:=s.ds.set bf (x0++bs),read:=Y,rd:={s.rd with own:=Z}} (λ_=>rfl) rfl (Ai.congr 1));go_upto_region 8 with fail
 obtain⟨W5,b0⟩:∃V,V=W4.setCell ⟨A.P,17,O⟩ (R K (Y:Int)):=⟨_,rfl⟩;rw[<-b0]at aD⊢;clear b0 b9 bj aH;have ao:=aD.out.byD b8.out;obtain⟨o5,h5,z5,g5⟩:=aD.out;obtain⟨tv,ar,I⟩:=h5.cR;have I:Cv (λk=>o5 k=8) W5 tv s.rd.tail:=I;obtain⟨bl,bk,rfl,aQ,_⟩:=I.shape;have aP:lc s.rd.tail+n<=1000000:=by have:=af.out;omega
 obtain⟨a6,c6,W6,ac,aJ,aT,ap⟩:=ac1 W5 I a2 n c2 bs ao.1 aP;obtain⟨q1,q2,q3⟩:=h5.tailApp ar bs aJ aT ap;have aE:W5.cell? ⟨A.R,11,O⟩=E (T bl (lc s.rd.tail) bk):=by simp only[cell?,ar];rfl
 obtain⟨tl,U⟩:∃m,lc s.rd.tail=m:=⟨_,rfl⟩;rw[U]at aE ac q1 q3;obtain⟨tn,au⟩:∃m,tl+n=m:=⟨_,rfl⟩;rw[au]at ac q1;have bo:=AA ac;have b4:=AA q1;have b2:=AA (Va z5 g5);have aB:=AA (Va U au);clear ao h5 z5 g5 ar I aQ aP ac aJ aT ap q1 U au;go_upto_region 9 with(at_builtin;refine aaf rfl (.tmp 69) (.tmp 70) 32 rfl rfl rfl bo.out ?_)
 obtain⟨W7,aZ⟩:∃V,V=W6.setCell ⟨A.R,11,O⟩ (T a6 tn c6):=⟨_,rfl⟩;rw[<-aZ]at b4⊢;clear aZ aE q2 q3;obtain⟨o7,h7,z7,g7⟩:=b4.out;obtain⟨a7,c7,aq,aV,B⟩:=h7.g.tail;have H:(s.rd.tail++bs).length=tn:=by rw[List.length_append,aB.out.1,HB.out.2.2.2.2.2];exact aB.out.2
 rw[show(({s with rs:=EB mo s.rs,told:=s.told+n,ds:=s.ds.set bf (x0++bs),read:=Y,rd:={s.rd with own:=Z,tail:=s.rd.tail++bs}}:PlM).rd.tail.length)=tn from H]at aq B;obtain⟨wm,X⟩:∃m,c.wm=m:=⟨_,rfl⟩;have n8:=h7.g.ceP 8 (R K (wm:Int)) λ_=>by rw[<-X];rfl
 obtain⟨kk,aR⟩:∃m,tn-wm=m:=⟨_,rfl⟩;obtain⟨dm,bh⟩:∃m:Int,(tn:Int)-(wm:Int)=m:=⟨_,rfl⟩;have be:tn<=3000/\wm<=1000:=by have:=af.out;have h9:=aB.out;have h8:=HN.out;omega
 have aG:IntKind.i64.wrap ((tn:Int)-(wm:Int))=dm:=by rw[BK];omega
 have aO:max (0:Int) dm=(kk:Int):=by omega
 have k9:kk<=tn:=by omega
 have bd:tn<=c7:=B;obtain⟨u1,nf⟩:=h7.tailCut aq kk k9;have j:∀s' V,AE A c o7 s' W7 V->AE A c o s' w V:=λs' V N=>AE.comp HZ.out.1 HZ.out.2 (AE.comp b2.out.1 b2.out.2 (AE.comp z7 g7 N));have aA:=AA (u1.bel (AN _ 1));have b6:=AA j;have bm:=AA (Va X (Va aR H));clear h7 z7 g7 aV B H X aR bh be u1 j
 go_region
 generalize (if c7=kk then a7 else Option.map (λx=>x.add kk) a7)=a8 at aA⊢
 obtain⟨W8,ax⟩:∃V,V=(W7.setCell ⟨A.R,11,O⟩ (T a8 (tn-kk) (c7-kk))).drew:=⟨_,rfl⟩;have ab:Hid (AE A c o7 {s with rs:=EB mo s.rs,told:=s.told+n,ds:=s.ds.set bf (x0++bs),read:=Y,rd:={s.rd with own:=Z,tail:=(s.rd.tail++bs).drop kk}} W7 W8):=by rw[ax];exact aA.out
 rw[<-ax];clear ax aq n8 nf aG aO k9 bd aA;have c9:=ab.out.ceR 9 (R K (Z:Int)) λ_=>rfl;have p2:=ab.out.ceP 2 (R K (K0:Int)) λ_=>by rw[<-HB.out.2.1];rfl
 have bx:=AA (ab.out.bel (AN W8 1));have am:∀ph,ph=(if s.rd.own+(BR ((c.K:Int)-s.rd.own) s.rs).length=c.K then 3 else s.rd.ph)->readR c s={s with rs:=EB mo s.rs,told:=s.told+n,ds:=s.ds.set bf (x0++bs),read:=Y,rd:={s.rd with own:=Z,tail:=(s.rd.tail++bs).drop kk,ph:=ph}}:=λph bg=>by obtain⟨e1,e2,e3,e4,e5,e6⟩:=HB.out;obtain⟨f1,f2,f3⟩:=ag.out;obtain⟨g1,g2,g3⟩:=bm.out;have g4:=bt.out;have hd:=HU.out.2;subst e2 e3 e4 e5 e6 f1 f2 f3 g1 g3 g2 g4;rw[ahU e1 x0 hd,bg]
 have b5:=AA am;clear am
 by_cases hd:Z=K0
 ·have d0:decide ((Z:Int)=(K0:Int))=G:=by simp;omega
  have d1:((Z:Int)==(K0:Int))=G:=by simp;omega
  have HD:=AA hd;clear hd;go_upto_region 10 with fail
  go_big_quiet (fail)
  have J:=ab.out.bel (AN W8 nq);obtain⟨W9,aY⟩:∃V,V=W8.drewN nq:=⟨_,rfl⟩;rw[<-aY]at J⊢;clear aY c9 p2;have bw:=J.ceR 1 (.int .u8 (s.rd.ph:Int)) λ_=>rfl;have bv:=J.frR 1;have aC:=AA (J.setR 1 (.int .u8 3) {s.rd with own:=Z,tail:=(s.rd.tail++bs).drop kk,ph:=3} (λ_=>rfl) rfl);clear J;go_wp2
  go_end0
  refine⟨rfl,?_⟩;rw[b5.out 3 (by obtain⟨e1,e2,e3,e4,e5,e6⟩:=HB.out;rw[e2,e3,e4,e5,e6,ag.out.1,Lq HD.out])];exact b6.out _ _ aC.out
 ·have d0:decide ((Z:Int)=(K0:Int))=M:=by simp;omega
  have d1:((Z:Int)==(K0:Int))=M:=by simp;omega
  have HD:=AA hd;clear hd;go_upto_region 10 with fail
  go_big_quiet (fail)
  have aC:=AA (ab.out.bel (AN W8 nq));go_wp2
  go_end0
  refine⟨rfl,?_⟩;rw[b5.out s.rd.ph (by obtain⟨e1,e2,e3,e4,e5,e6⟩:=HB.out;rw[e2,e3,e4,e5,e6,ag.out.1,Lc HD.out])];exact b6.out _ _ aC.out
theorem AI.tookApp{A:PAd}{c:CfM}{s:PlM}{o:Nat->Nat}{w:Wa}(h:AI A c o s w){I:Vk}(hb:w.heap[A.P]?=E (i7 (EK A c s I) 109 (0,0)))(q:AF){N:Option Addr}{X U:Nat}{Y:Wa}
  (hr:Y.ownsRow 0 116 2 (T N X U) (lc s.took+1) (AV s.took++[R K q.1,R K q.2])) (hg:w.grownBy Y I.ownBlock) (D:(T N X U).ownBlock=I.ownBlock∨(T N X U).ownBlock=E w.heap.size) :
  AE A c o {s with took:=s.took++[q]} w (Y.setCell ⟨A.P,18,O⟩ (T N X U))/\Y.frozen? ⟨A.P,18,O⟩=M/\Y.cell? ⟨A.P,18,O⟩=E I:=by
 obtain⟨J,C,k2,k4,k5⟩:MN A c s (λk=>o k=1) w:=h.part 1 om;have e0:J=I:=by
  rw[C]at hb;have j:=congrArg (λx=>x.bind λy=>match y with|Obj.cells cs _ _=>cs[18]?|_=>O) hb
  simpa[EK]using j
 subst e0;have v:=(AD.1 C).1;have V:Y.heap[A.P]?=E (i7 (EK A c s J) 109 (0,0)):=(hg.block _ v λe=>k5 e.symm).trans C;have H:(T N X U).ownBlock≠E A.P:=λe=>by
  rcases D with e2|e2
  ·exact k5 (e2.symm.trans e)
  ·rw[e2]at e;have:=AK e;omega
 have B:Chg (λk=>o k=1) w Y:=(Chg.refl _ w).grown hg λg e _=>k4.2 g e;have hc:Chg (λk=>o k=1) w (Y.setCell ⟨A.P,18,O⟩ (T N X U)):=B.set k2;refine⟨h.upG 1 om om hc ⟨T N X U,AJ (i:=18) V _,.inl k2,⟨?_,λg Z=>?_⟩,H⟩ (Ai.congr 1),by simp[frozen?,V],by simp only[cell?,V];rfl⟩
 ·show World.ownsRow _ _ _ _ _ (s.took++[q]).length (AV (s.took++[q]));have j:AV (s.took++[q])=AV s.took++[R K q.1,R K q.2]:=by simp[AV,IH]
  rw[j,List.length_append];exact Fu hr λg Z=>AQ Y ⟨A.P,18,O⟩ _ g λe=>H (by rw[Z,e])
 ·rcases D with e|e
  ·exact .inl (k4.2 g (e ▸ Z))
  ·rw[e]at Z;exact .inr (Gq (AK Z))
theorem aeZ{A:PAd}{c:CfM}{s:PlM}{o:Nat->Nat}(w W:Wa)(h:AE A c o s w W)(V:s.out=[]) :Calls ZP 159 #[L (E ⟨A.E,0,O⟩)] W λe w'=>e=ra (ta #[])/\AE A c o (offerE c s) w w':=by
 have Z:=h.cE;have H:W.cell? ⟨A.E,0,O⟩=E (L (E ⟨A.P,0,O⟩)):=by simp only[cell?,Z];rfl
 have X:=h.ceP 14 (L (E ⟨A.O,0,O⟩)) λ_=>rfl;have j:Hid (Calls ZP 208 #[L (E ⟨A.O,0,O⟩)] W λe w'=>∃a N,e=ra (T a 0 N)/\La W w'):=h.low λo1 h1=>(aop h1).mono λe w' ⟨v,h2,h3,h4⟩=>by obtain⟨a,N,rfl,_⟩:=Gy h3;rw[V]at h2;exact⟨a,N,h2,h4⟩
 have B:=AA h;have C:=AA V;clear h Z V;go_enter func159,ntmps159;go_upto_region 3 with(go_at_call 208;refine j.out.mono ?_;rintro e I ⟨a1,c1,rfl,Y⟩)
 have U:=B.out.bel Y;have Z:=U.cE;have j0:I.frozen? ⟨A.E,1,O⟩=M:=by simp[frozen?,Z]
 have j1:I.cell? ⟨A.E,1,O⟩=E (.int .u8 (s.eph:Int)):=by simp only[cell?,Z];rfl
 have J:=AA (U.setE 2);clear U H X Z Y;go_wp2;refine Vi (results_none rfl _ _ _) rfl ?_;refine⟨rfl,?_⟩;have D:offerE c s={s with eph:=2}:=by unfold offerE;rw[C.out]
 rw[D];exact J.out
theorem adq{A:PAd}{c:CfM}{s:PlM}{o:Nat->Nat}(w W:Wa)(h:AE A c o s w W)(q:AF)(t:List AF)(hq:s.out=q::t)(ho:s.off<=1000000)(hk:lc s.tk<=1000000)(ht:lc s.took<=1000000)(aL:lc s.out<=1000000) :Calls ZP 159 #[L (E ⟨A.E,0,O⟩)] W λe w'=>e=ra (ta #[])/\AE A c o (offerE c s) w w':=by
 have hb:=h.cE;have k0:W.cell? ⟨A.E,0,O⟩=E (L (E ⟨A.P,0,O⟩)):=by simp only[cell?,hb];rfl
 have aJ:=h.ceP 14 (L (E ⟨A.O,0,O⟩)) λ_=>rfl;obtain⟨n,hn⟩:∃n,lc s.out=n:=⟨_,rfl⟩;have aM:n≠0:=by rw[<-hn,hq];simp
 have d0:((n:Int)==0)=M:=by simp;omega
 have d1:decide ((n:Int)=0)=M:=by simp;omega
 have d2:decide (n=0)=M:=by simp;omega
 have HC:Hid (Calls ZP 208 #[L (E ⟨A.O,0,O⟩)] W λe w'=>∃a cc,e=ra (T a n cc)/\SlD (λk=>W.heap.size<=k/\k<w'.heap.size) w' a n (q::t)/\La W w'):=h.low λo1 h1=>(aop h1).mono λe w' ⟨v,h2,h3,h4⟩=>by obtain⟨a,cc,rfl,_,h5,h6⟩:=Gy h3;rw[hn]at h2 h5;rw[hq]at h5;exact⟨a,cc,h2,⟨h5,λ_ q e=>h6 q e⟩,h4⟩
 have HG:=AA h;have HX:=AA (Va hq (Va ho (Va hk (Va ht hn))));have i0:(0:Int)<(n:Int):=by omega
 have aS:0<n:=by omega
 clear h hb hq ho hk ht aL hn aM;go_enter func159,ntmps159;go_upto_region 4 with(go_at_call 208;refine HC.out.mono ?_;rintro e w1 ⟨a1,c1,rfl,au,aA⟩)
 obtain⟨o3,h3,z3,g3,n3⟩:=HG.out.belZ aA;obtain⟨g,off,rfl,a8,aa,aq⟩:=aeo (au.wide (Z':=λk=>o3 k=0) λk _ hk=>n3 k hk.1 hk.2);have ax:=DO w1 _ aa;have aw:g≠A.P:=λe=>by obtain⟨tv,_,k2,_⟩:=h3.part 1 om;have k2:o3 A.P=1:=k2;have h0:o3 g=0:=a8;rw[e]at h0;omega
 have aI:=h3.g.ceP 10 (L (E ⟨A.Kk,0,O⟩)) λ_=>rfl;have aG:=AA (λ(V:Wa)(hV:La w1 V)=>(h3.g.bel hV).lift λo5 h5 z5=>aoD h5 q HX.out.2.1 HX.out.2.2.1);have am:∀(s':PlM) V,AE A c o3 s' w1 V->V.cell? ⟨g,off,O⟩=E (R K q.1)/\V.cell? ⟨g,off+1,O⟩=E (R K q.2):=λs' V N=>by have:=N.weak g ax a8;exact⟨by rw[BC (a:=⟨g,off,O⟩) this];exact aa,by rw[BC (a:=⟨g,off+1,O⟩) this];exact aq⟩
 have ag:=AA am;have C:=AA (Va z3 g3);clear h3 z3 g3 n3 au ax a8 am aA k0 aJ HC HG;refine Hw 7 mixed kr ?_;dsimp only[List.take_succ_cons,List.take_zero,List.drop_succ_cons,List.drop_zero]
 repeat (go_big_quiet_step (fail))
 refine wpQuiet_nil ?_;rintro _ ⟨nq,rfl⟩;have aF:=AA (aG.out _ (AN w1 nq));clear aI aa aq aG
 go_wp2_with fail
 refine aF.out.mono ?_;rintro e w3 ⟨rfl,N⟩
 cases hy:EH c.ans s.off with
 |false=>
  rw[hy]at N;have aP:=AA N;have HY:=AA hy;clear N hy;go_wp2
  go_end0
  refine⟨rfl,?_⟩;have e1:offerE c s={s with off:=s.off+1}:=by unfold offerE;rw[HX.out.1];simp only[HY.out];rfl
  rw[e1];exact AE.comp C.out.1 C.out.2 aP.out
 |true=>
  rw[hy]at N;have aH:=N.ceP 14 (L (E ⟨A.O,0,O⟩)) λ_=>rfl;have aE:=AA (N.lift λo5 h5 z5=>ahy h5 q t HX.out.1);have HY:=AA hy;clear N hy aF;go_upto_region 6 with(go_at_call 210;refine aE.out.mono ?_;rintro e w4 ⟨⟨v4,rfl⟩,N⟩)
  obtain⟨o6,h6,z6,g6⟩:=N;obtain⟨D,hD⟩:∃D,D=w4.drew:=⟨_,rfl⟩;have X:=h6.drewS;rw[<-hD]at X;have H:La w4 D:=by rw[hD];exact AN w4 1
  have ae:=AE.comp z6 (g6.same H) X.g;obtain⟨U,hU⟩:∃U,U=D.alloc (i7 #[R K q.1,R K q.2] 116):=⟨_,rfl⟩;have J:La D U:=by rw[hU];exact AL _ _
  have ay:=ae.bel J;have af:=X.bel J;obtain⟨aQ,ai⟩:=X.cP;obtain⟨tv,k1,k2,k4,k5⟩:=af.part 1 om;have k4:CO (λk=>EW o6 D.heap.size U.heap.size 0 k=1) U 116 2 tv (lc s.took) (AV s.took):=k4;obtain⟨a4,c4,rfl,_,_,_⟩:=Gy k4.1;have a7:U.cell? ⟨A.P,18,O⟩=E (T a4 (lc s.took) c4):=by simp only[cell?,k1];rfl
  have aB:=(AD.1 ai).1;have aD:D.cell? ⟨A.P,18,O⟩=E (T a4 (lc s.took) c4):=by rw[<-BC (a:=⟨A.P,18,O⟩) (J.block A.P aB)];exact a7
  obtain⟨i1,av,al,ak,aj⟩:=Vh IG;have a2:SlK 2 U (E ⟨D.heap.size,0,O⟩) 1 [R K q.1,R K q.2]:=by rw[hU];exact On D q
  have aK:=HX.out.2.2.2.1;obtain⟨v1,W1,hr,ab,az,a6⟩:=Gu (P:=ZP) U 0 69 69 116 i1 (i8 #[.int .i64 0,.int .i64 0]) 2 16 underlying69 av al ak aj rfl (by decide) (.slice a4 (lc s.took) c4) (lc s.took) (AV s.took) k4.1 (E ⟨D.heap.size,0,O⟩) 1 1 [.int .i64 q.1,.int .i64 q.2] a2 (λu hu=>by simp at hu;rcases hu with rfl|rfl<;>rfl) (by unfold maxLen;omega) om (AR _);obtain⟨a5,c5,rfl,_,_,_⟩:=Gy ab;obtain⟨u1,u2,u3⟩:=af.tookApp k1 q ab az a6;have ac:=AE.comp (λk hk=>by
   have h0:=z6 k hk
   by_cases aN:k<D.heap.size
   ·show EW o6 _ _ 0 k=0;rw[FV aN];exact h0
   ·have:=X.out k om;omega) ⟨((g6.same H).same J).c,λk hk e=>(FV (Af hk (g6.same H).c.size)).trans (g6.f k hk e)⟩ u1
  have ap:=ag.out _ _ ae;have ao:=ag.out _ _ ay;have I:=ag.out _ _ ac;have B:W1.cell? ⟨g,off,O⟩=E (R K q.1)/\W1.cell? ⟨g,off+1,O⟩=E (R K q.2):=by have e:(W1.setCell ⟨A.P,18,O⟩ (T a5 (lc s.took+1) c5)).heap[g]?=W1.heap[g]?:=AQ W1 ⟨A.P,18,O⟩ _ g aw;rw[BC (a:=⟨g,off,O⟩) e,BC (a:=⟨g,off+1,O⟩) e]at I;exact I
  have aC:=u3;have HR:=AA hr;have HF:=AA ac;have Y:=AA (Va ao (Va B I));have HU:=AA hU;obtain⟨tn,ar⟩:∃k,lc s.took=k:=⟨_,rfl⟩;obtain⟨aR,j⟩:∃k,tn+1=k:=⟨_,rfl⟩;rw[ar]at a7 aD HR HF Y u3;rw[j]at HR HF Y;clear h6 z6 g6 X H ae J ay af ai k1 k2 k4 k5 aB av al ak aj a2 aK hr ab az a6 u1 ac ao B I aC hU ar j aE aH;refine Ve ?_;refine Vd (S:=λV=>V.cell? ⟨g,off,O⟩=E (R K q.1)/\V.cell? ⟨g,off+1,O⟩=E (R K q.2)) kr (by rw[<-hD];exact ap) (λhHeld=>?_);rw[<-hD]at hHeld⊢;clear hD ap;refine tkA 0 ?_;refine tkA 1 ?_;refine tkA 2 ?_;refine tkA 3 ?_;refine tkA 5 ?_;refine tkA 6 ?_;refine tkW 7 (v:=?_) ?_ ?_;rotate_left
  ·intro V hV;obtain⟨q1,q2⟩:=hV
   first|(go_simp;done)|(go_simp;with_reducible rfl)
  try simp only[pq]
  refine apE 4 8 (λKB Z=>?_) (λKB Z=>?_)
  focus
   go_simp;refine Z.out _ _ hHeld (λh4=>?_);clear Z KB
   try simp only[pq]
   refine rdy 8 (λKB Z=>?_);go_simp;rw[<-HU.out];refine Z.out _ _ Y.out.1 (λh8=>?_);clear Z KB h4 h8
   try simp only[pq]
  rotate_left
  focus
   go_simp;rw[<-HU.out];refine Z.out _ _ Y.out.1 (λh8=>?_);clear Z KB
   try simp only[pq]
   refine rdy 4 (λKB Z=>?_);go_simp;refine Z.out _ _ Y.out.1 (λh4=>?_);clear Z KB h4 h8
   try simp only[pq]
  all_goals
   refine rdy 9 (λKB Z=>?_);refine GU (.tmp 38) (.tmp 42) 69 rfl _ _ rfl rfl rfl HR.out ?_;refine Z.out _ _ Y.out.2.1 (λh9=>?_);clear Z KB
   try simp only[pq]
   refine tkA 10 ?_;refine tkA 11 ?_;refine rdy 12 (λKB Z=>?_);go_simp;refine Z.out _ _ Y.out.2.2 (λaO=>?_);clear Z KB h9 aO
   try simp only[pq]
   refine Vg kr ?_ _;refine At ?_;go_wp2
   go_end0
   refine⟨rfl,?_⟩;have e1:offerE c s={s with off:=s.off+1,tk:=s.tk++[q],out:=t,took:=s.took++[q]}:=by unfold offerE;rw[HX.out.1];simp only[HY.out,if_true]
   rw[e1];have h9:=AE.comp C.out.1 C.out.2 HF.out
   simpa using h9
section
variable {A:PAd}{c:CfM}{s s':PlM}{o:Nat->Nat}{w w':Wa}{i:Nat}{x:WkM}
theorem AE.cW(h:AE A c o s w w')(X:s.wk[i]?=E x)(V:i<900):∃p Y,w'.heap[A.Wk i]?=E (i7 (wkV A i x p Y) 249 (0,0))/\p.num=x.blk.num/\p.start=x.blk.start/\p.warm=x.blk.warm/\p.buf=x.blk.buf/\Bys w' p.a p.m x.blk.data:=h.low λN h1=>by obtain⟨p,Y,U,Z,_⟩:=h1.cW X V;exact⟨p,Y,U,Z.1,Z.2.1,Z.2.2.1,Z.2.2.2.1,Z.2.2.2.2.1⟩
theorem AE.setWk(h:AE A c o s w w')(I:s.wk[i]?=E x)(v:i<900)(V:WkM)(w'':Wa)(N:w''.heap.size=w'.heap.size)(H:∀k,k≠A.Wk i->w''.heap[k]?=w'.heap[k]?)(X:w''.os=w'.os/\w''.tape=w'.tape/\w''.output=w'.output)
  (C:∀Z p U,AI A c Z s w'->(∀k,o k=0->Z k=0)->w'.heap[A.Wk i]?=E (i7 (wkV A i x p U) 249 (0,0))->PcD (λk=>Z k=0) w' p x.blk->CO (λk=>Z k=i+11∨Z k=0) w' 116 2 U (lc x.hits) (AV x.hits)->U.ownBlock≠E (A.Wk i)->(x.ph≠3->∀g,U.ownBlock=E g->Z g=i+11)->
   ∃J Y,w''.heap[A.Wk i]?=E (i7 (wkV A i V J Y) 249 (0,0))/\PcD (λk=>Z k=0) w' J V.blk/\CO (λk=>Z k=i+11∨Z k=0) w' 116 2 Y (lc V.hits) (AV V.hits)/\Y.ownBlock≠E (A.Wk i)/\(V.ph≠3->∀g,Y.ownBlock=E g->Z g=i+11)) :
  AE A c o (setW s i λ_=>V) w w'':=h.then λZ h1 D=>by
 refine .of_same ?_ (h1.setWk I v V w'' N H X λp U=>C Z p U h1 D);have h0:CP A s (λk=>Z k=i+11) (λk=>Z k=0) w' i:=h1.part (i+11) om;unfold CP at h0;rw[I]at h0;obtain⟨p,U,g1,j,_⟩:=h0;refine⟨X.1,X.2.1,X.2.2,by omega,λk hk B=>H k λe=>B ?_⟩;unfold Oz;rw[e,show Z (A.Wk i)=i+11 from j];omega
theorem AE.setWph(h:AE A c o s w w')(Y:s.wk[i]?=E x)(V:i<900)(ph:Nat)(Z:ph≠3->x.ph≠3) :AE A c o (setW s i λ_=>{x with ph:=ph}) w (w'.setCell ⟨A.Wk i,1,O⟩ (.int .u8 (ph:Int))):=h.setWk Y V _ _ (by simp[World.setCell]) (λk hk=>AQ w' ⟨A.Wk i,1,O⟩ _ k hk) ⟨rfl,rfl,rfl⟩ λB p X h1 C D H I J N=>⟨p,X,AJ (i:=1) D _,H,I,J,λe g U=>N (Z e) g U⟩
def Gx(w:Wa)(Ta:Nat)(p:PcW):Wa:=((((w.setCell ⟨Ta,6,O⟩ (R K p.num)).setCell ⟨Ta,7,O⟩ (R K p.start)).setCell ⟨Ta,8,O⟩ (R K p.warm)).setCell ⟨Ta,9,O⟩ (T p.a p.m p.c)).setCell ⟨Ta,10,O⟩ (R K p.buf)
theorem agx{w:Wa}{A:PAd}{i:Nat}{x:WkM}{X:PcW}{Z:Vk}(h:w.heap[A.Wk i]?=E (i7 (wkV A i x X Z) 249 (0,0)))(p:PcW):(Gx w (A.Wk i) p).heap[A.Wk i]?=E (i7 (wkV A i x p Z) 249 (0,0)):=by
 obtain⟨I,B⟩:∃V,V=w.setCell ⟨A.Wk i,6,O⟩ (R K p.num):=⟨_,rfl⟩;have s6:I.heap[A.Wk i]?=E (i7 (wkV A i x {X with num:=p.num} Z) 249 (0,0)):=by rw[B];exact AJ (i:=6) h (R K p.num)
 obtain⟨J,C⟩:∃V,V=I.setCell ⟨A.Wk i,7,O⟩ (R K p.start):=⟨_,rfl⟩;have e:J.heap[A.Wk i]?=E (i7 (wkV A i x {X with num:=p.num,start:=p.start} Z) 249 (0,0)):=by rw[C];exact AJ (i:=7) s6 (R K p.start)
 obtain⟨N,D⟩:∃V,V=J.setCell ⟨A.Wk i,8,O⟩ (R K p.warm):=⟨_,rfl⟩;have j:N.heap[A.Wk i]?=E (i7 (wkV A i x {X with num:=p.num,start:=p.start,warm:=p.warm} Z) 249 (0,0)):=by rw[D];exact AJ (i:=8) e (R K p.warm)
 obtain⟨U,H⟩:∃V,V=N.setCell ⟨A.Wk i,9,O⟩ (T p.a p.m p.c):=⟨_,rfl⟩;have v:U.heap[A.Wk i]?=E (i7 (wkV A i x {p with buf:=X.buf} Z) 249 (0,0)):=by rw[H];exact AJ (i:=9) j (T p.a p.m p.c)
 have Y:(U.setCell ⟨A.Wk i,10,O⟩ (R K p.buf)).heap[A.Wk i]?=E (i7 (wkV A i x p Z) 249 (0,0)):=AJ (i:=10) v (R K p.buf);rw[H,D,C,B]at Y;exact Y
theorem ajy{w:Wa}{A:PAd}{i:Nat}{x:WkM}{Z:PcW}{X:Vk}(h:w.heap[A.Wk i]?=E (i7 (wkV A i x Z X) 249 (0,0))):((((w.setCell ⟨A.Wk i,11,O⟩ (R K 0)).setCell ⟨A.Wk i,12,O⟩ (R K 0)).setCell ⟨A.Wk i,13,O⟩ (T O 0 0)).setCell ⟨A.Wk i,1,O⟩ (.int .u8 1)).heap[A.Wk i]?=E (i7 (wkV A i {x with ph:=1,node:=0,done:=0} Z (T O 0 0)) 249 (0,0)):=by
 obtain⟨J,D⟩:∃V,V=w.setCell ⟨A.Wk i,11,O⟩ (R K 0):=⟨_,rfl⟩;have s6:J.heap[A.Wk i]?=E (i7 (wkV A i {x with node:=0} Z X) 249 (0,0)):=by rw[D];exact AJ (i:=11) h (R K 0)
 obtain⟨N,H⟩:∃V,V=J.setCell ⟨A.Wk i,12,O⟩ (R K 0):=⟨_,rfl⟩;have B:N.heap[A.Wk i]?=E (i7 (wkV A i {x with node:=0,done:=0} Z X) 249 (0,0)):=by rw[H];exact AJ (i:=12) s6 (R K 0)
 obtain⟨U,I⟩:∃V,V=N.setCell ⟨A.Wk i,13,O⟩ (T O 0 0):=⟨_,rfl⟩;have C:U.heap[A.Wk i]?=E (i7 (wkV A i {x with node:=0,done:=0} Z (T O 0 0)) 249 (0,0)):=by rw[I];exact AJ (i:=13) B (T O 0 0)
 have Y:(U.setCell ⟨A.Wk i,1,O⟩ (.int .u8 1)).heap[A.Wk i]?=E (i7 (wkV A i {x with ph:=1,node:=0,done:=0} Z (T O 0 0)) 249 (0,0)):=AJ (i:=1) C (.int .u8 1);rw[I,H,D]at Y;exact Y
theorem aeO(w:Wa)(Ta:Nat)(p:PcW)(k:Nat)(hk:k≠Ta):(Gx w Ta p).heap[k]?=w.heap[k]?:=by unfold Gx;rw[AQ _ ⟨Ta,10,O⟩ _ k hk,AQ _ ⟨Ta,9,O⟩ _ k hk,AQ _ ⟨Ta,8,O⟩ _ k hk,AQ _ ⟨Ta,7,O⟩ _ k hk,AQ _ ⟨Ta,6,O⟩ _ k hk]
def Ge(w:Wa)(Ta:Nat):Wa:=((((Gx w Ta ⟨0,0,0,O,0,0,0⟩).setCell ⟨Ta,11,O⟩ (R K 0)).setCell ⟨Ta,12,O⟩ (R K 0)).setCell ⟨Ta,13,O⟩ (T O 0 0)).setCell ⟨Ta,1,O⟩ (.int .u8 1)
theorem Oa(w:Wa)(a:Addr)(v:Vk):(w.setCell a v).heap.size=w.heap.size:=by simp[World.setCell]
theorem aaA(w:Wa)(Ta:Nat):Chg (λk=>k=Ta) w (Ge w Ta):=by unfold Ge Gx;exact(((((((((Chg.refl (λk=>k=Ta) w).set rfl).set rfl).set rfl).set rfl).set rfl).set rfl).set rfl).set rfl).set rfl
theorem aeN(w:Wa)(Ta:Nat):(Ge w Ta).heap.size=w.heap.size:=by unfold Ge Gx;simp only[Oa]
theorem ag7(w:Wa)(Ta:Nat)(k:Nat)(hk:k≠Ta):(Ge w Ta).heap[k]?=w.heap[k]?:=by unfold Ge;rw[AQ _ ⟨Ta,1,O⟩ _ k hk,AQ _ ⟨Ta,13,O⟩ _ k hk,AQ _ ⟨Ta,12,O⟩ _ k hk,AQ _ ⟨Ta,11,O⟩ _ k hk,aeO _ _ _ k hk]
theorem aij(w:Wa)(Ta:Nat):(Ge w Ta).os=w.os/\(Ge w Ta).tape=w.tape/\(Ge w Ta).output=w.output:=⟨(aaA w Ta).os,(aaA w Ta).tape,(aaA w Ta).output⟩
theorem ai9{w:Wa}{A:PAd}{i:Nat}{x:WkM}{Z:PcW}{Y:Vk}(h:w.heap[A.Wk i]?=E (i7 (wkV A i x Z Y) 249 (0,0))):(Ge w (A.Wk i)).heap[A.Wk i]?=E (i7 (wkV A i (wk0 1) ⟨0,0,0,O,0,0,0⟩ (T O 0 0)) 249 (0,0)):=ajy (agx h ⟨0,0,0,O,0,0,0⟩)
theorem apv(Z:Nat->Prop)(w:Wa):PcD Z w ⟨0,0,0,O,0,0,0⟩ ape:=⟨rfl,rfl,rfl,rfl,⟨⟨rfl,.inl rfl⟩,λx Y=>by cases Y⟩,λh=>absurd rfl h⟩
theorem AE.leaveW(h:AE A c o s w w')(Z:s.wk[i]?=E x)(Y:i<900):AE A c o (setW s i λ_=>wk0 1) w (Ge w' (A.Wk i)):=h.setWk Z Y _ _ (aeN _ _) (ag7 _ _) (aij _ _) λN p J h1 U V C D H I=>⟨⟨0,0,0,O,0,0,0⟩,T O 0 0,ai9 V,apv _ _,CO.nil _ _ _ _,(λe=>by cases e),λ_ g X=>by cases X⟩
end
theorem aab{A:PAd}{c:CfM}{s:PlM}{o:Nat->Nat}{i:Nat}{x:WkM}(w W:Wa)(h:AE A c o s w W)(B:s.wk[i]?=E x)(hi:i<900)(hl:lc s.fr<=100000) :Calls ZP 202 #[L (E ⟨A.Wk i,0,O⟩)] W λe w'=>e=ra (ta #[])/\AE A c o (leaveW s i) w w':=by
 obtain⟨p,hv,D,e1,e2,e3,e4,_⟩:=h.cW B hi;have a1:=h.ceP 11 (L (E ⟨A.Bb,0,O⟩)) λ_=>rfl;obtain⟨Ta,hT⟩:∃Ta,A.Wk i=Ta:=⟨_,rfl⟩;have Y:W.heap[Ta]?=E (i7 (wkV A i x p hv) 249 (0,0)):=by rw[<-hT];exact D
 have k0:W.cell? ⟨Ta,0,O⟩=E (L (E ⟨A.P,0,O⟩)):=by simp[cell?,Y,wkV,EO]
 obtain⟨bf,N⟩:∃b,x.blk.buf=b:=⟨_,rfl⟩;have a2:W.cell? ⟨Ta,10,O⟩=E (R K (bf:Int)):=by rw[<-N,<-e4];simp only[cell?,Y];rfl
 have hG:=λ(V:Wa)(hV:La W V)=>(h.bel hV).lift λo1 h1 z1=>aoc h1 bf hl;have H:leaveW s i=setW (Bv s bf) i λ_=>wk0 1:=by unfold leaveW;rw[B];simp only[N]
 have I:(Bv s bf).wk[i]?=E x:=B;have HG:=AA hG;have J:=AA (Va H (Va I (Va hi hT)));rw[hT];clear h N D Y e1 e2 e3 e4 hG H I hi hT B hl;go_enter func202,ntmps202;go_upto_region 0 with fail
 refine Hw 13 mixed kr ?_;dsimp only[List.take_succ_cons,List.take_zero,List.drop_succ_cons,List.drop_zero]
 repeat (go_big_quiet_step (fail))
 refine wpQuiet_nil ?_;rintro _ ⟨nq,rfl⟩;have a7:=AA (HG.out _ (AN W nq));clear k0 a2 a1
 go_wp2_with fail
 refine a7.out.mono ?_;rintro e X ⟨⟨v,rfl⟩,hg⟩;obtain⟨p1,a6,Z,_⟩:=hg.cW J.out.2.1 J.out.2.2.1;have C:=AA (hg.leaveW J.out.2.1 J.out.2.2.1);rw[J.out.2.2.2]at Z C;have U:∀j,X.frozen? ⟨Ta,j,O⟩=M:=λj=>by simp[frozen?,Z]
 have f1:=U 1;have f6:=U 6;have f7:=U 7;have f8:=U 8;have f9:=U 9;have ac:=U 10;have ab:=U 11;have aa:=U 12;have a8:=U 13;have aj:X.cell? ⟨Ta,1,O⟩=E (.int .u8 (x.ph:Int)):=by simp only[cell?,Z];rfl
 have c6:X.cell? ⟨Ta,6,O⟩=E (R K p1.num):=by simp only[cell?,Z];rfl
 have c7:X.cell? ⟨Ta,7,O⟩=E (R K p1.start):=by simp only[cell?,Z];rfl
 have c8:X.cell? ⟨Ta,8,O⟩=E (R K p1.warm):=by simp only[cell?,Z];rfl
 have c9:X.cell? ⟨Ta,9,O⟩=E (T p1.a p1.m p1.c):=by simp only[cell?,Z];rfl
 have ai:X.cell? ⟨Ta,10,O⟩=E (R K p1.buf):=by simp only[cell?,Z];rfl
 have ag:X.cell? ⟨Ta,11,O⟩=E (R K (x.node:Int)):=by simp only[cell?,Z];rfl
 have af:X.cell? ⟨Ta,12,O⟩=E (R K (x.done:Int)):=by simp only[cell?,Z];rfl
 have ae:X.cell? ⟨Ta,13,O⟩=E a6:=by simp only[cell?,Z];rfl
 clear Z hg U;go_wp2
 go_end0
 refine⟨rfl,?_⟩;rw[J.out.1];exact C.out
theorem LX{s:PlM}{i:Nat}{x:WkM}(Y:s.wk[i]?=E x)(f:WkM->WkM):setW s i f=setW s i λ_=>f x:=by
 unfold setW;have e:s.wk.modify i f=s.wk.modify i λ_=>f x:=by
  refine Hn λj=>?_;rw[GS,GS]
  by_cases Z:i=j
  ·subst Z;rw[Y];simp
  ·simp[Z]
 rw[e]
theorem AE.freezeW{A:PAd}{c:CfM}{s:PlM}{o:Nat->Nat}{w w':Wa}{i:Nat}{x:WkM}(h:AE A c o s w w')(C:s.wk[i]?=E x)(hi:i<900)(N:x.ph=3) :∃U,AI A c U s w'/\(∀k,o k=0->U k=0)/\PB o U w w'/\∃p a Z,w'.heap[A.Wk i]?=E (i7 (wkV A i x p (T a (lc x.hits) Z)) 249 (0,0))/\SlD (λk=>U k=0) w' a (lc x.hits) x.hits/\p.num=x.blk.num/\lc x.hits<=Z:=by
 obtain⟨X,h1,v,B⟩:=h;have h0:CP A s (λk=>X k=i+11) (λk=>X k=0) w' i:=h1.part (i+11) om;have Y:=h0;unfold CP at Y;rw[C]at Y;obtain⟨p,hv,D,k2,H,V,I,k6⟩:=Y;obtain⟨a,Z,rfl,q1,j,q3⟩:=Gy V.1;refine⟨_,h1.freeze (s':=s) (i+11) (T a (lc x.hits) Z).ownBlock (λk hk=>⟨V.lt k hk,V.2 k hk⟩) om ?_ λ_ _ _ _ _ h=>h,λk hk=>?_,⟨B.c,λk hk e=>?_⟩,p,a,Z,D,⟨j,λh0 q e=>?_⟩,H.1,q1⟩
 ·show CP A s (λk=>X k=i+11/\(T a (lc x.hits) Z).ownBlock≠E k) (λk=>X k=0∨(T a (lc x.hits) Z).ownBlock=E k) w' i;unfold CP;rw[C];refine⟨p,_,D,⟨k2,I⟩,H.wide λk _ hk=>.inl hk,⟨V.1,λg hg=>.inr (.inr hg)⟩,I,λh=>absurd N h⟩
 ·unfold Hq
  split
  ·rfl
  ·exact v k hk
 ·have e2:=B.f k hk e;unfold Hq
  split
  ·rename_i e3
   rcases V.2 k e3 with J|J<;>(have J:X k=_:=J;omega)
  ·exact e2
 ·have e2:(T a (lc x.hits) Z).ownBlock=E q.block:=by rw[e];rfl
  show Hq X _ q.block=0;unfold Hq;rw[Lq e2]
theorem ah5{A:PAd}{c:CfM}{s:PlM}{o:Nat->Nat}{i:Nat}{x:WkM}(w W:Wa)(h:AE A c o s w W)(hx:s.wk[i]?=E x)(hi:i<900)(B:x.ph=3)(hl:lc s.fr<=100000)(hn:x.blk.num<=1000000000)(j:s.next<=1000000000)(h1:s.next<=x.blk.num)(h2:x.blk.num-s.next<c.R)(X:s.rg[x.blk.num-s.next]?=E O) :Calls ZP 150 #[L (E ⟨A.Wk i,0,O⟩)] W λe w'=>e=ra (ta #[])/\AE A c o (putWM s i) w w':=by
 obtain⟨o2,hS,z2,g2,p,a,cc,Z,N,J,H⟩:=h.freezeW hx hi B;have a2:=hS.g.ceP 13 (L (E ⟨A.G,0,O⟩)) λ_=>rfl;obtain⟨Ta,hT⟩:∃Ta,A.Wk i=Ta:=⟨_,rfl⟩;rw[hT]at Z;have k0:W.cell? ⟨Ta,0,O⟩=E (L (E ⟨A.P,0,O⟩)):=by simp[cell?,Z,wkV,EO]
 obtain⟨nu,I⟩:∃b,x.blk.num=b:=⟨_,rfl⟩;obtain⟨m,hm⟩:∃b,lc x.hits=b:=⟨_,rfl⟩;rw[I]at hn h1 h2 X J;rw[hm]at Z N H;have k6:W.cell? ⟨Ta,6,O⟩=E (R K (nu:Int)):=by rw[<-J];simp only[cell?,Z];rfl
 have D:W.cell? ⟨Ta,13,O⟩=E (T a m cc):=by simp only[cell?,Z];rfl
 have hC:=λ(V:Wa)(hV:La W V)=>(hS.g.bel hV).lift λo3 h3 z3=>ap1 h3 nu m cc a x.hits hn j h1 h2 X ((N.keep (Y:=λ_=>False) (.of_same hV) λ_ _ _ h=>h).wide λk _ hk=>z3 k hk) H;have U:∀s' V,AE A c o2 s' W V->AE A c o s' w V:=λs' V X=>AE.comp z2 g2 X;have C:putWM s i=leaveW {s with rg:=s.rg.set (nu-s.next) (E x.hits)} i:=by unfold putWM;rw[hx];simp only[I]
 have HC:=AA hC;have a7:=AA U;have HX:=AA (Va hx (Va hi (Va hl (Va hT C))));rw[hT];clear h hx hi B hl hn j h1 h2 X hS z2 g2 Z N J hT I hm hC U C H;go_enter func150,ntmps150;go_upto_region 0 with fail
 refine Hw 18 mixed kr ?_;dsimp only[List.take_succ_cons,List.take_zero,List.drop_succ_cons,List.drop_zero]
 repeat (go_big_quiet_step (fail))
 refine wpQuiet_nil ?_;rintro _ ⟨nq,rfl⟩;have a8:=AA (HC.out _ (AN W nq));clear k0 k6 a2 D
 go_wp2_with fail
 refine a8.out.mono ?_;rintro e w1 ⟨⟨v,rfl⟩,X⟩;have a1:=AA (aab w w1 (a7.out _ _ X) HX.out.1 HX.out.2.1 HX.out.2.2.1);rw[HX.out.2.2.2.1]at a1;clear X
 go_wp2_with (go_at_call 202;refine a1.out.mono ?_;rintro e w2 ⟨rfl,X⟩;have a6:=AA X;clear X)
 go_end0
 refine⟨rfl,?_⟩;rw[HX.out.2.2.2.2];exact a6.out
theorem aeH{A:PAd}{c:CfM}{s:PlM}{o:Nat->Nat}{i:Nat}{x:WkM}(w W:Wa)(h:AE A c o s w W)(D:s.wk[i]?=E x)(B:i<900)(N:x.ph=1)(C:s.q=[]) :Calls ZP 148 #[L (E ⟨A.Wk i,0,O⟩)] W λe w'=>e=ra (ta #[])/\AE A c o (takeW s i) w w':=by
 obtain⟨p,hv,J,_⟩:=h.cW D B;have H:=h.ceP 12 (L (E ⟨A.Q,0,O⟩)) λ_=>rfl;obtain⟨Ta,I⟩:∃Ta,A.Wk i=Ta:=⟨_,rfl⟩;have k0:W.cell? ⟨Ta,0,O⟩=E (L (E ⟨A.P,0,O⟩)):=by rw[<-I];simp[cell?,J,wkV,EO]
 have HC:=AA (h.lift λo1 h1 z1=>ahj h1 C);have Y:=AA (Va D (Va B (Va N (Va I C))));rw[I];clear h D B N I J C;go_enter func148,ntmps148;go_upto_region 2 with(go_at_call 199;refine HC.out.mono ?_;rintro e w1 ⟨rfl,j⟩)
 obtain⟨v,U⟩:∃V,V=w1.alloc (i7 #[R K 0,R K 0,R K 0,T O 0 0,R K 0] 126):=⟨_,rfl⟩;have X:=j.bel (w'':=v) (by rw[U];exact AL _ _);rw[<-U];clear U k0 H j;obtain⟨p1,a1,Z,_⟩:=X.cW Y.out.1 Y.out.2.1;have HG:=AA (X.setWph Y.out.1 Y.out.2.1 4 (λ_=>by rw[Y.out.2.2.1];decide));rw[Y.out.2.2.2.1]at Z HG;have f1:v.frozen? ⟨Ta,1,O⟩=M:=by simp[frozen?,Z]
 have a2:v.cell? ⟨Ta,1,O⟩=E (.int .u8 (x.ph:Int)):=by simp only[cell?,Z];rfl
 clear Z X;go_wp2;refine Vi (results_none rfl _ _ _) rfl ?_;refine⟨rfl,?_⟩;have e1:takeW s i=setW s i λ_=>{x with ph:=4}:=by unfold takeW;rw[Y.out.2.2.2.2];exact LX Y.out.1 _
 rw[e1];exact HG.out
theorem adM{A:PAd}{c:CfM}{s:PlM}{o:Nat->Nat}{i:Nat}{x:WkM}(w W:Wa)(h:AE A c o s w W)(hx:s.wk[i]?=E x)(hi:i<900)(a2:x.ph=1)(b:Bc)(q:List Bc)(hq:s.q=b::q) :Calls ZP 148 #[L (E ⟨A.Wk i,0,O⟩)] W λe w'=>e=ra (ta #[])/\AE A c o (takeW s i) w w':=by
 obtain⟨o1,h1,z1,g1⟩:=h;obtain⟨p,hv,a7,_⟩:=h1.cW hx hi;have a8:=h1.g.ceP 12 (L (E ⟨A.Q,0,O⟩)) λ_=>rfl;obtain⟨Ta,hT⟩:∃Ta,A.Wk i=Ta:=⟨_,rfl⟩;have k0:W.cell? ⟨Ta,0,O⟩=E (L (E ⟨A.P,0,O⟩)):=by rw[<-hT];simp[cell?,a7,wkV,EO]
 have HC:=AA (ahd h1 b q hq);have HX:=AA (Va hx (Va hi (Va a2 (Va hT hq))));have J:∀s' V,AE A c o1 s' W V->AE A c o s' w V:=λs' V hg=>AE.comp z1 g1 hg;have aa:=AA J;rw[hT];clear h1 z1 g1 hx hi a2 hT a7 hq J;go_enter func148,ntmps148;go_upto_region 3 with(go_at_call 199;refine HC.out.mono ?_;rintro e w1 ⟨Z,rfl,a6,hg⟩)
 obtain⟨U,I⟩:∃V,V=w1.alloc (i7 #[R K Z.num,R K Z.start,R K Z.warm,T Z.a Z.m Z.c,R K Z.buf] 126):=⟨_,rfl⟩;have a1:La w1 U:=by rw[I];exact AL _ _
 have N:U.heap[w1.heap.size]?=E (i7 #[R K Z.num,R K Z.start,R K Z.warm,T Z.a Z.m Z.c,R K Z.buf] 126 (0,0)):=by rw[I];exact AT _ _
 obtain⟨B,hB⟩:∃B,w1.heap.size=B:=⟨_,rfl⟩;rw[<-I];rw[hB]at N⊢;have v:=hg.bel a1;have C:({s with q:=q}:PlM).wk[i]?=E x:=HX.out.1;obtain⟨p1,ab,X,_⟩:=v.cW C HX.out.2.1;have H:AE A c o1 (setW {s with q:=q} i λ_=>{x with ph:=2,blk:=b}) W ((Gx U (A.Wk i) Z).setCell ⟨A.Wk i,1,O⟩ (.int .u8 2)):=by
  refine v.setWk C HX.out.2.1 _ _ (by unfold Gx;simp only[Oa]) (λk hk=>?_) ?_ λo3 p hv h3 z3 f1 f2 f3 f4 f5=>⟨Z,hv,?_,(a6.keep (Y:=λ_=>False) (.of_same a1) λ_ _ _ h=>h).wide λk _ hk=>z3 k hk,f3,f4,λ_ g hg=>f5 (by rw[HX.out.2.2.1];decide) g hg⟩
  ·rw[AQ _ ⟨A.Wk i,1,O⟩ _ k hk,aeO _ _ _ k hk]
  ·have hc:Chg (λ_=>True) U ((Gx U (A.Wk i) Z).setCell ⟨A.Wk i,1,O⟩ (.int .u8 2)):=by unfold Gx;exact((((((Chg.refl _ U).set trivial).set trivial).set trivial).set trivial).set trivial).set trivial
   exact⟨hc.os,hc.tape,hc.output⟩
  ·exact AJ (i:=1) (agx f1 Z) (.int .u8 2)
 have D:=AA H;rw[HX.out.2.2.2.1]at X D;have x0:U.cell? ⟨B,0,O⟩=E (R K Z.num):=by simp[cell?,N]
 have x1:U.cell? ⟨B,1,O⟩=E (R K Z.start):=by simp[cell?,N]
 have x2:U.cell? ⟨B,2,O⟩=E (R K Z.warm):=by simp[cell?,N]
 have x3:U.cell? ⟨B,3,O⟩=E (T Z.a Z.m Z.c):=by simp[cell?,N]
 have x4:U.cell? ⟨B,4,O⟩=E (R K Z.buf):=by simp[cell?,N]
 have fz:∀j,U.frozen? ⟨Ta,j,O⟩=M:=λj=>by simp[frozen?,X]
 have f1:=fz 1;have f6:=fz 6;have f7:=fz 7;have f8:=fz 8;have f9:=fz 9;have ac:=fz 10;have af:U.cell? ⟨Ta,1,O⟩=E (.int .u8 (x.ph:Int)):=by simp only[cell?,X];rfl
 have c6:U.cell? ⟨Ta,6,O⟩=E (R K p1.num):=by simp only[cell?,X];rfl
 have c7:U.cell? ⟨Ta,7,O⟩=E (R K p1.start):=by simp only[cell?,X];rfl
 have c8:U.cell? ⟨Ta,8,O⟩=E (R K p1.warm):=by simp only[cell?,X];rfl
 have c9:U.cell? ⟨Ta,9,O⟩=E (T p1.a p1.m p1.c):=by simp only[cell?,X];rfl
 have ae:U.cell? ⟨Ta,10,O⟩=E (R K p1.buf):=by simp only[cell?,X];rfl
 clear X fz v hg a6 N a1 I k0 a8 C H hB;go_wp2
 go_end0
 refine⟨rfl,?_⟩;have e1:takeW s i=setW {s with q:=q} i λ_=>{x with ph:=2,blk:=b}:=by unfold takeW;rw[HX.out.2.2.2.2];exact(LX (s:={s with q:=q}) HX.out.1 _)
 rw[e1];exact aa.out _ _ D.out
theorem abD{A:PAd}{c:CfM}{s:PlM}{o:Nat->Nat}{i:Nat}{x:WkM}(w W:Wa)(h:AE A c o s w W)(Y:s.wk[i]?=E x)(V:i<900)(Z:x.ph=1) :Calls ZP 148 #[L (E ⟨A.Wk i,0,O⟩)] W λe w'=>e=ra (ta #[])/\AE A c o (takeW s i) w w':=by
 cases X:s.q with
 |nil=>exact aeH w W h Y V Z X
 |cons b q=>exact adM w W h Y V Z b q X
theorem IZ{s:PlM}{i:Nat}{x:WkM}(Z:s.wk[i]?=E x):phW s i=x.ph:=by unfold phW;rw[Z]
theorem LY{s:PlM}{i:Nat}{x:WkM}(Z:s.wk[i]?=E x)(y:WkM):(setW s i λ_=>y).wk[i]?=E y:=by show(s.wk.modify i λ_=>y)[i]?=E y;rw[GS,Z];simp
theorem akW{s:PlM}{i:Nat}{x:WkM}(Z:s.wk[i]?=E x):∃y,(takeW s i).wk[i]?=E y/\(y.ph=4∨y.ph=2)/\(takeW s i).fr=s.fr:=by
 cases Y:s.q with
 |nil=>
  have e:takeW s i=setW s i λ_=>{x with ph:=4}:=by unfold takeW;rw[Y];exact LX Z _
  rw[e];exact⟨_,LY Z _,.inl rfl,rfl⟩
 |cons b q=>
  have e:takeW s i=setW {s with q:=q} i λ_=>{x with ph:=2,blk:=b}:=by unfold takeW;rw[Y];exact LX (s:={s with q:=q}) Z _
  rw[e];exact⟨_,LY (s:={s with q:=q}) Z _,.inr rfl,rfl⟩
theorem Of{s:PlM}{i:Nat}{x:WkM}(Z:s.wk[i]?=E x):stopW s i=if x.ph=1 then(if phW (takeW s i) i=4 then takeW s i else leaveW (takeW s i) i) else if x.ph=4 then s else leaveW s i:=by
 unfold stopW;rw[IZ Z]
 by_cases h:x.ph=1
 ·simp[h]
 ·simp[h,IZ Z]
theorem afZ{A:PAd}{c:CfM}{s:PlM}{o:Nat->Nat}{i:Nat}{x:WkM}(w W:Wa)(h:AE A c o s w W)(X:s.wk[i]?=E x)(I:i<900)(B:lc s.fr<=100000) :Calls ZP 152 #[L (E ⟨A.Wk i,0,O⟩)] W λe w'=>e=ra (ta #[])/\AE A c o (stopW s i) w w':=by
 obtain⟨p,hv,V,_⟩:=h.cW X I;obtain⟨Ta,U⟩:∃Ta,A.Wk i=Ta:=⟨_,rfl⟩;have k1:W.cell? ⟨Ta,1,O⟩=E (.int .u8 (x.ph:Int)):=by rw[<-U];simp only[cell?,V];rfl
 by_cases h1:x.ph=1
 ·have HT:=AA (abD w W h X I h1);obtain⟨y,hy,a1,C⟩:=akW X;have N:=AA (Va X (Va I (Va B (Va U h1))));rw[h1]at k1;rw[U]at HT⊢;have j:=AA (Va hy C);clear h V U X I B h1 hy C;go_enter func152,ntmps152;go_upto_region 2 with(go_at_call 148;refine HT.out.mono ?_;rintro e w1 ⟨rfl,Z⟩)
  obtain⟨p1,a2,H,_⟩:=Z.cW j.out.1 N.out.2.1;rw[N.out.2.2.2.1]at H;have v:w1.cell? ⟨Ta,1,O⟩=E (.int .u8 (y.ph:Int)):=by simp only[cell?,H];rfl
  clear H k1
  rcases a1 with h4|h2
  ·rw[h4]at v;have HG:=AA Z;have H4:=AA h4;clear Z h4;go_wp2
   go_end0
   refine⟨rfl,?_⟩;rw[Of N.out.1,Lq N.out.2.2.2.2,Lq (by rw[IZ j.out.1];exact H4.out)];exact HG.out
  ·rw[h2]at v;have Y:=AA (aab w w1 Z j.out.1 N.out.2.1 (by rw[j.out.2];exact N.out.2.2.1));rw[N.out.2.2.2.1]at Y;have H4:=AA h2;clear Z h2
   go_wp2_with (go_at_call 202;refine Y.out.mono ?_;rintro e w2 ⟨rfl,Z⟩;have D:=AA Z;clear Z)
   go_end0
   refine⟨rfl,?_⟩;rw[Of N.out.1,Lq N.out.2.2.2.2,Lc (by rw[IZ j.out.1,H4.out];decide)];exact D.out
 ·have e1:((x.ph:Int)==1)=M:=by simp;omega
  have e2:decide ((x.ph:Int)=1)=M:=by simp;omega
  have J:stopW s i=if x.ph=4 then s else leaveW s i:=by rw[Of X,Lc h1]
  obtain⟨m,hm⟩:∃m,x.ph=m:=⟨_,rfl⟩;rw[hm]at e1 e2 k1 J
  by_cases h4:m=4
  ·subst h4;rw[Lq rfl]at J;have HG:=AA h;have HS:=AA J;rw[U];clear h V U X I B h1 J hm;go_enter func152,ntmps152;go_wp2
   go_end0
   refine⟨rfl,?_⟩;rw[HS.out];exact HG.out
  ·rw[Lc h4]at J;have e3:((m:Int) != 4)=G:=by simp;omega
   have e4:decide ((m:Int)≠4)=G:=by simp;omega
   have e5:((m:Int)==4)=M:=by simp;omega
   have e6:decide ((m:Int)=4)=M:=by simp;omega
   have Y:=AA (aab w W h X I B);rw[U]at Y;have HS:=AA J;rw[U];clear h V U X I B h1 J hm h4;go_enter func152,ntmps152
   go_wp2_with (go_at_call 202;refine Y.out.mono ?_;rintro e w2 ⟨rfl,Z⟩;have D:=AA Z;clear Z)
   go_end0
   refine⟨rfl,?_⟩;rw[HS.out];exact D.out
end Go.Proofs.YtaamacoicojhnaaGreat
