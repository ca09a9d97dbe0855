/- Proofs over the given program, part 13. -/
import Derived.Test.YtaamacoicojhnaaGreatZR12
set_option linter.unusedVariables false
set_option linter.unusedSimpArgs false
set_option maxRecDepth 100000
set_option maxHeartbeats 16000000
open Go.Proofs.Tryz
open Go.Proofs.Tryz renaming prog→ZP
open Go.World(cell? frozen?)
open Go.Value(int slice pointer bool)
open Go.IntKind(i64)
namespace Go.Proofs.YtaamacoicojhnaaGreat
open Go.RowKit Go.Sort
section
attribute[local go_sem] Oper.semAt_some
attribute[local simp] Ak Al
attribute[local go_sem] Ak Al
def qlH(Z:List AF)(first many:Nat):List AF:=(List.range many).map λi=>Z.getD ((first+i) % Z.length) (0,0)
theorem alB{Z:List AF}{first many j:Nat}(h:j<many):(qlH Z first many).take (j+1)=(qlH Z first many).take j++[Z.getD ((first+j) % Z.length) (0,0)]:=by
 have Y:(qlH Z first many)[j]?=some (Z.getD ((first+j) % Z.length) (0,0)):=by
  unfold qlH;rw[BU,It h]
  rfl
 exact As Y
theorem aeV{X:Nat->Prop}(p Q B first many:Nat)(closed:Bool)(D:List AF)(N m:Nat)(w:World)(hp:w.heap[p]?=some (.cells #[pointer (some ⟨Q,0,none⟩)] 370 (0,0)))(z:AY X Q B first many closed D w)(ac:p<N)(af:Q<N)(ag:B<N)(hB:N<=w.heap.size) :Hi Fence.wide m ZP 275 #[pointer (some ⟨p,0,none⟩)] Ki (KpB N) (λ_ _ _=>False) (λxs _=>xs=qlH D first many) (λ_=>True) 1000001 w:=by
 intro lo J Jx W hW hJ al hY h0;have base:Hid (∀V,(w.heap.size<=V.heap.size/\∀k,k<N->V.heap[k]?=w.heap[k]?)->V.cell? ⟨p,0,none⟩=some (pointer (some ⟨Q,0,none⟩))/\AY X Q B first many closed D V):=λV hV=>by have e1:=(hV.2 p ac).trans hp;exact⟨by simp[cell?,e1],(hV.2 Q af).trans z.box,(hV.2 B ag).trans z.places,z.inX,z.ne,z.room⟩
 have a2:Hid (w.heap.size<=W.heap.size/\∀k,k<N->W.heap[k]?=w.heap[k]?):=⟨hW.size,λk hk=>hW.block k om⟩;have aa:=AA hB;obtain⟨r1,r2,r3,r4⟩:=z.room;obtain⟨L,hL⟩:∃L,D.length=L:=⟨_,rfl⟩;have HL:=AA hL;rw[hL]at r1 r2 r3 r4;clear hp z hL;obtain⟨c1,C⟩:=base.out W a2.out;have c2:W.cell? ⟨Q,2,none⟩=some (int i64 (many:Int)):=by simp[cell?,C.box]
 clear C;refine callsIn_of_wp func275 rfl trivial ?_ rfl;simp only[ntmps275,Cw,Ao,Bw,Nat.reduceAdd,Nat.reduceSub,Dd,Dc,DX,Da,Av,CT]
 gi_wp2
 clear c1 c2
 gi_loopw[8] (λi wr=>∃(j:Nat)(pre:List AF),j<=many/\i=int i64 j/\Hid (pre=(qlH D first many).take j)/\J pre wr/\Hid (w.heap.size<=wr.heap.size/\∀k,k<N->wr.heap[k]?=w.heap[k]?)) (λi _=>many-(intOf i).toNat)
 case atStart=>exact⟨0,[],AR _,rfl,rfl,h0,a2⟩
 case round=>
  obtain⟨j,pre,hk,rfl,HP,hj,H⟩:=hrel
  by_cases I:j<many
  ·have ad:decide ((j:Int)<(many:Int))=true:=by simp;omega
   have ak:decide (j<many)=true:=by simp;omega
   obtain⟨b1,C⟩:=base.out wr H.out;have hl:=HL.out;have b2:wr.cell? ⟨Q,0,none⟩=some (slice (some ⟨B,0,none⟩) L L):=by simp[cell?,C.box,hl]
   have b3:wr.cell? ⟨Q,1,none⟩=some (int i64 (first:Int)):=by simp[cell?,C.box]
   have e1:IntKind.i64.wrap ((first:Int)+(j:Int))=((first+j:Nat):Int):=by rw[BK];omega
   have e2:((first+j:Nat):Int).tmod (L:Int)=(((first+j) % L:Nat):Int):=by rw[Jq om];simp
   have A:(first+j) % L<L:=Ek _ om;obtain⟨x,hx⟩:∃x,D[(first+j) % L]?=some x:=⟨_,Ar om⟩;obtain⟨y0,y1⟩:=NO hx;have HS:Hid (pre++[x]=(qlH D first many).take (j+1)):=by rw[Hid,HP.out,alB I,hl,DZ,hx];rfl
   have Z:pre.length<1000001:=by rw[HP.out,Ag];omega
   obtain⟨s,hs⟩:∃s,first+j=s:=⟨_,rfl⟩;rw[hs]at e1 e2 A y0 y1;obtain⟨i,hi⟩:∃i,s % L=i:=⟨_,rfl⟩;rw[hi]at e2 A y0 y1;have x0:wr.cell? ⟨B,i*2,none⟩=some (int i64 x.1):=by simp[cell?,C.places];exact y0
   have x1:wr.cell? ⟨B,i*2+1,none⟩=some (int i64 x.2):=by simp[cell?,C.places];exact y1
   have i1:(0:Int)<=(i:Int):=by omega
   have i2:(i:Int)<(L:Int):=by omega
   have z0:¬(L:Int)=0:=by omega
   have z1:¬L=0:=by omega
   have ai:=AA hj;have ah:=AA Z;have a8:=AA I;clear hx y0 y1 C hl hs hi hj Z I
   gi_wp2
   refine Ld (FL _ _) 19 mixed kr kr ?_;dsimp only[List.take_succ_cons,List.take_zero,List.drop_succ_cons,List.drop_zero]
   repeat (go_big_quiet_step (fail))
   refine wpQuiet_nil ?_;rintro _ ⟨y,rfl⟩;have U:Bt wr (wr.drewN y):=⟨rfl,rfl,rfl,AC _,λ_ _=>rfl⟩;obtain⟨W4,a7⟩:∃X,X=wr.drewN y:=⟨_,rfl⟩;rw[<-a7]at U⊢;clear a7;have a6:=Jf hJ ai.out U;have Y:Hid (w.heap.size<=W4.heap.size/\∀k,k<N->W4.heap[k]?=w.heap[k]?):=
    ⟨AS H.out.1 U.size,λk hk=>(U.block k (by have:=H.out.1;have:=aa.out;omega)).trans (H.out.2 k hk)⟩
   obtain⟨fn,tmps,assign,body,ab,ae⟩:=hY pre x W4 a6 ah.out;dsimp only[Ki]at ab;clear b1 b2 b3 x0 x1 U a6
   gi_wp2
   refine ae.mono ?_;rintro e W5 (⟨rfl,hJ4,hk4⟩|⟨rfl,hJx4⟩)
   ·have a1:Hid (w.heap.size<=W5.heap.size/\∀k,k<N->W5.heap[k]?=w.heap[k]?):=⟨AS Y.out.1 hk4.1,λk hk=>(hk4.2 k hk (by have:=Y.out.1;have:=aa.out;omega)).trans (Y.out.2 k hk)⟩;have aj:=AA hJ4;clear hk4 hJ4
    gi_wp2
    go_roundw
    case rel=>exact⟨j+1,_,a8.out,by go_num,HS,aj.out,a1⟩
    case measure=>
     have:=a8.out;simp[intOf];omega
   ·gi_wp2
    refine Vf (results_none rfl _ _ _) rfl ?_;exact⟨⟨_,rfl⟩,.inr ⟨_,trivial,hJx4⟩⟩
  ·obtain rfl:j=many:=by omega
   have ad:decide ((j:Int)<(j:Int))=false:=by simp
   have HF:Hid (pre=qlH D first j):=by
    have h:=HP.out
    rwa[Ap (by unfold qlH;simp)]at h
   clear I
   gi_wp2
   go_end0
   exact⟨⟨_,rfl⟩,.inl ⟨pre,HF.out,hj⟩⟩
end
theorem aib(Q:Nat)(w:World) :Calls ZP 249 #[pointer (some ⟨Q,0,none⟩)] w λe w'=>e=.returned (.func (.func 275) #[] #[pointer (some ⟨w.heap.size,0,none⟩)])/\w'=w.alloc (.cells #[pointer (some ⟨Q,0,none⟩)] 370):=by go_enter func249,ntmps249;go_wp2;go_ret;exact⟨rfl,rfl⟩
theorem ai0{X:Nat->Prop}{Q B first many:Nat}{closed:Bool}{U:List AF}(w:World)(h:AY X Q B first many closed U w) :Calls ZP 208 #[pointer (some ⟨Q,0,none⟩)] w λe w'=>∃v,e=.returned v/\Ax w' w.heap.size v (qlH U first many)/\Bt w w':=by
 have D:=AA (aib Q w);obtain⟨W,hW⟩:∃W,W=w.alloc (.cells #[pointer (some ⟨Q,0,none⟩)] 370):=⟨_,rfl⟩;rw[<-hW]at D;have hB:Bt w W:=by rw[hW];exact AL _ _
 have N:W.heap[w.heap.size]?=some (.cells #[pointer (some ⟨Q,0,none⟩)] 370 (0,0)):=by rw[hW];exact AT _ _
 have Y:=h.below hB;have Z:=aeV (X:=X) w.heap.size Q B first many closed U W.heap.size 8 W N Y (AD.1 N).1 (AD.1 Y.box).1 (AD.1 Y.places).1 (AC _);have C:=h.room;have z:=AA (aee W (Vg func275 kr rfl) Z (AC _) (λ_ _ _ h=>h.elim) (λ_ _ _ _ _ _ _ _ h=>h) (AC _) (λ_ _ _ h=>h.elim) om (λxs V h=>by rw[h];unfold qlH;simp;omega));have I:=AA hB;clear h hW hB N Y Z C;go_enter func208,ntmps208
 go_wp2_with fail
 refine D.out.mono ?_;rintro e x ⟨rfl,rfl⟩
 go_wp2_with fail
 refine z.out.mono ?_;rintro e y ⟨v,xs,V,rfl,rfl,_,ho,H⟩;have A:=AA ho;have J:=AA H;clear ho H;go_wp2;go_ret;exact⟨v,rfl,NC A.out I.out.size,I.out.trans (J.out.mono I.out.size)⟩
section
attribute[local go_sem] Oper.semAt_some
attribute[local simp] Ak Al
attribute[local go_sem] Ak Al
def FR(w:World)(base:Nat)(v:Value)(l:List Int):Prop:=w.ownsRow base 3 1 v l.length (l.map (int i64))
def amT(b base:Nat)(l:List Int)(W:World):Prop:=∃v,Boxed W b 30 v/\FR W base v l
theorem afQ{α:Type}{B b base:Nat}{Pb:Nat->World->World->Prop}(D:base<=b)(N:∀r W J,Pb r W J->r<base)(f:α->List Int):BT B Pb (λs W=>amT b base (f s) W):=by
 rintro s W J row ⟨v,Z,ho⟩ U V;have X:∀{k:Nat}{cs:Array Value}{t:TypeId},W.heap[k]?=some (.cells cs t (0,0))->base<=k->row≠some k:=λ{k cs t} hk I e=>by
  rcases V k e with⟨_,o,h1,h2⟩|h
  ·rw[hk]at h1;cases h1;cases h2
  ·have:=N k _ _ h;omega
 refine⟨v,(U.block b Z.lt (λe=>X Z D e.symm)).trans Z,ho.kept U ?_⟩
 rcases ho.2 with⟨rfl,_⟩|⟨g,cap,A,rfl,H,Y,_⟩
 ·exact .inl rfl
 ·refine .inr λe=>?_;have C:row=some g:=by rw[<-e];rfl
  rcases V g C with⟨_,o,h1,h2⟩|h
  ·rw[Y]at h1;cases h1;cases h2
  ·have:=N g _ _ h;omega
theorem alE(V:World)(x:Int):SlK 1 (V.alloc (.cells #[int i64 x] 3)) (some ⟨V.heap.size,0,none⟩) 1 [int i64 x]:=by
 refine⟨rfl,.inr ⟨V.heap.size,0,rfl,by simp,λi u Z=>?_⟩⟩;have:=GI (w:=V) #[int i64 x] 3 rfl i u (by simpa using Z)
 rwa[Cf]at this
def Kg(h:Int):Array Value:=#[int i64 h]
theorem ac9{gf:Nat}{lb:Array Value}{B:Nat}{Pb:Nat->World->World->Prop}{S:List Int->World->Prop}{Sp:List Int->Prop}{N n₀:Nat}(w:World)
  (eg:∀args w,(callFunc gf args).run ZP w=.ok (.enter gf args) w)
  (a2:Hi Fence.wide 8 ZP gf lb Kg (KpB B) Pb S Sp N w) (hB:B<=w.heap.size) (C:∀r W W',Pb r W W'->r<w.heap.size) (hSk:∀(xs:List Int)(W:World)(l:Nat)(o o':Obj),w.heap.size<=l->W.heap[l]?=some o->o.isCells=false->S xs W->S xs (W.putObj l o'))
  (a6:n₀<=w.heap.size) (ah:∀r W W',Pb r W W'->n₀<=r) (hN:N<=1000000000) (ag:∀xs W,S xs W->xs.length<=1000000000) :
  Calls ZP 168 #[slice none 0 0,.func (.func gf) #[] lb] w λe w'=>∃v xs W,e=.returned v/\S xs W/\(∃D,w.heap.size<=D/\w'=W.putObj D (.deferred none))/\FR w' w.heap.size v xs/\Below n₀ w w':=by
 obtain⟨i0,hi,ab,aa,a8⟩:=Ve adY;obtain⟨W1,hW⟩:∃W,W=w.alloc (.cells #[slice none 0 0] 30):=⟨_,rfl⟩;have X:Below w.heap.size w W1:=by rw[hW];exact AL _ _
 have bS:Boxed W1 w.heap.size 30 (slice none 0 0):=by rw[hW];exact Boxed.new _ _ _
 have ae:W1.heap.size=w.heap.size+1:=by rw[hW];simp
 have a1:Hi Fence.wide 8 ZP gf lb Kg (KpB B) Pb S Sp N W1:=λl J Jx W hb=>a2 l J Jx W (X.trans (hb.mono X.size));refine Hc func168 rfl ?_;simp only[ntmps168,Cw,Ao,Bw,Nat.reduceAdd,Nat.reduceSub,Dd,Dc,DX,Da,Av,CT];go_upto_region 1 with fail
 rw[<-hW];clear hW a2;go_wp2;obtain⟨g,hg⟩:∃g,w.heap.size=g:=⟨_,rfl⟩;rw[hg]at bS ae X hB C hSk a6⊢;have HG:=AA hg
 apply NL rfl eg a1 (λr W W' hr=>by have:=C r W W' hr;omega) (λxs W l o o' hl=>hSk xs W l o o' om) KpB.t ?hKb (λ_=>rfl)
  (λU V=>amT g g U V/\Below n₀ w V/\W1.heap.size<=V.heap.size)
  (λ_ _ _=>False)
 case hKb=>exact λW l o o' hl _ _ _=>⟨by simp[World.putObj],λk h1 _=>Cm om⟩
 case wA=>exact λx W=>W
 case hwA=>exact λx W=>AH _ _
 case hKg=>exact λx W hW=>KpB.of_below (AH _ _)
 case hI=>exact BT.and (afQ (AC _) C id) (BT.and (BT.below om om ah) (BT.size _ _ _))
 case hIx=>exact λ_ _ _ _ _ hs _ _=>hs
 case h0=>exact⟨⟨_,bS,BN _ _ _ _⟩,X.mono a6,AC _⟩
 case hassign=>
  intro l x W K hK;unfold Kg
  gi_wp2
  exact hK
 case hbody=>
  rintro l U x Wb V ao ⟨⟨v,y,Z⟩,A,s⟩ ai
  try dsimp only
  obtain⟨m,I⟩:∃m,U.length=m:=⟨_,rfl⟩;have ak:m<=1000000001:=by omega
  unfold FR at Z;rw[I]at Z;have z:=AA I;clear I;obtain⟨av,cv,rfl,af,ad⟩:=SlK.own Z;have c2:=y.cell;have al:=y.lt
  gi_wp2_with (gi_at_builtin;refine aa2 _ rfl _ _ 30 rfl g 3 i0 (.int .i64 0) 1 8 underlying30 hi ab aa a8 rfl (by decide) _ _ _ rfl (Z.alloc _) (some ⟨V.heap.size,0,none⟩) 1 1 [.int .i64 x] rfl (alE V x) (by simp[Value.oneCell']) (by unfold maxLen;omega) om (by simp;omega) ?_;intro v' w5 Y H am;obtain⟨g',aj,rfl⟩:=ownsRow_succ Y;obtain⟨b1,b2,b3,b4,b5⟩:=y.appended (Lj kr) Z om (AC _) Y H;have d1:=b1.cell;have d2:=b1.frozen;have d3:=b1.lt)
  refine⟨b4.from _,?_,⟨_,b2,?_⟩,A.trans (b5.mono om),AS s (by have:=b5.size;simpa using this)⟩
  ·exact KpB.of_below (b5.mono om)
  ·unfold FR;rw[List.length_append,z.out,Aj];exact b3
 case hstop=>exact λ_ _ _ _ _ _ h _=>h.elim
 case hdone=>
  rintro D xs V hD hS ⟨⟨v,y,Z⟩,A,s⟩ a7;have ac:=ag xs V hS;obtain⟨m,I⟩:∃m,xs.length=m:=⟨_,rfl⟩;unfold FR at Z;rw[I]at Z ac;have z:=AA I;clear I;obtain⟨av,cv,rfl,af,ad⟩:=SlK.own Z;have c2:=y.cell;have j:=ownsRow_putObj Z (.deferred none) a7 rfl;have HS:=AA hS;clear Z hS;go_wp2;refine Gg rfl a7 (results_tmp rfl _ _ _) ⟨_,xs,V,rfl,HS.out,⟨D,by omega,rfl⟩,?_,FZ A om om _⟩;unfold FR;rw[z.out,HG.out];exact j
theorem aex{U:Nat}{C:Array Value}{B:Nat}{Pb:Nat->World->World->Prop}{S:List Int->World->Prop}{h:List Int->Prop}{N J:Nat}(w:World)
  (j:∀args w,(callFunc U args).run ZP w=.ok (.enter U args) w)
  (Z:Hi Fence.wide 8 ZP U C Kg (KpB B) Pb S h N w) (hB:B<=w.heap.size) (V:∀r W H,Pb r W H->r<w.heap.size) (hSk:∀(xs:List Int)(W:World)(l:Nat)(o o':Obj),w.heap.size<=l->W.heap[l]?=some o->o.isCells=false->S xs W->S xs (W.putObj l o'))
  (I:J<=w.heap.size) (X:∀r W H,Pb r W H->J<=r) (x:N<=1000000000) (Y:∀xs W,S xs W->xs.length<=1000000000) :
  Calls ZP 116 #[.func (.func U) #[] C] w λe w'=>∃v xs W,e=.returned v/\S xs W/\(∃D,w.heap.size<=D/\w'=W.putObj D (.deferred none))/\FR w' w.heap.size v xs/\Below J w w':=by
 have HC:=AA (ac9 w j Z hB V hSk I X x Y);clear Z V hSk X Y;go_enter func116,ntmps116
 go_wp2_with fail
 refine HC.out.mono ?_;rintro e w1 ⟨v,xs,W,rfl,y,s,A,z⟩;go_wp2;go_ret;exact⟨v,xs,W,rfl,y,s,A,z⟩
end
section
attribute[local go_sem] Oper.semAt_some
attribute[local simp] Ak Al
attribute[local go_sem] Ak Al
def GZ(Z:List PlW)(next:Nat):Nat->List Int
 |0=>[]
 |j+1=>GZ Z next j++(if(Z.getD ((next+j) % Z.length) ((none,0,0),false)).2 then [((next+j:Nat):Int)] else [])
theorem acZ(Z:List PlW)(next:Nat):∀j,(GZ Z next j).length<=j
 |0=>AC _
 |j+1=>by
  have:=acZ Z next j;unfold GZ;rw[List.length_append]
  split<;>simp<;>omega
theorem adv{X:Nat->Prop}(p1 p2 Q B next:Nat)(U:List PlW)(H m:Nat)(w:World)(a7:w.heap[p1]?=some (.cells #[pointer (some ⟨Q,0,none⟩)] 262 (0,0)))(a6:w.heap[p2]?=some (.cells #[int i64 (next:Int)] 3 (0,0)))(hS:BZ X Q B next U w)(hx:next<=1000000000)(al:p1<H)(ak:p2<H)(ai:Q<H)(aj:B<H)(hB:H<=w.heap.size) :Hi Fence.wide m ZP 169 #[pointer (some ⟨p1,0,none⟩),pointer (some ⟨p2,0,none⟩)] Kg (KpB H) (λ_ _ _=>False) (λxs _=>xs=GZ U next U.length) (λ_=>True) 1000001 w:=by
 intro lo J Jx W hW hJ ar hY h0;have base:Hid (∀V,(w.heap.size<=V.heap.size/\∀k,k<H->V.heap[k]?=w.heap[k]?)->V.cell? ⟨p1,0,none⟩=some (pointer (some ⟨Q,0,none⟩))/\V.cell? ⟨p2,0,none⟩=some (int i64 (next:Int))/\BZ X Q B next U V):=λV hV=>by have e1:=(hV.2 p1 al).trans a7;have e2:=(hV.2 p2 ak).trans a6;exact⟨by simp[cell?,e1],by simp[cell?,e2],(hV.2 Q ai).trans hS.box,(hV.2 B aj).trans hS.places,hS.inX,hS.ne,hS.room⟩
 have ab:Hid (w.heap.size<=W.heap.size/\∀k,k<H->W.heap[k]?=w.heap[k]?):=⟨hW.size,λk hk=>hW.block k om⟩;have ae:=AA hB;obtain⟨r1,r2⟩:=hS.room;obtain⟨L,hL⟩:∃L,U.length=L:=⟨_,rfl⟩;have HL:=AA hL;rw[hL]at r1 r2⊢;clear a7 a6 hS;obtain⟨c1,c2,y⟩:=base.out W ab.out;have c3:W.cell? ⟨Q,0,none⟩=some (slice (some ⟨B,0,none⟩) L L):=by simp[cell?,y.box,hL]
 clear y hL;refine callsIn_of_wp func169 rfl trivial ?_ rfl;simp only[ntmps169,Cw,Ao,Bw,Nat.reduceAdd,Nat.reduceSub,Dd,Dc,DX,Da,Av,CT]
 gi_wp2
 clear c1 c2 c3
 gi_loopw[10] (λi wr=>∃(j:Nat)(pre:List Int),j<=L/\i=int i64 j/\Hid (pre=GZ U next j)/\J pre wr/\Hid (w.heap.size<=wr.heap.size/\∀k,k<H->wr.heap[k]?=w.heap[k]?)) (λi _=>L-(intOf i).toNat)
 case atStart=>exact⟨0,[],AR _,rfl,rfl,h0,ab⟩
 case round=>
  obtain⟨j,pre,hk,rfl,HP,hj,D⟩:=hrel
  by_cases h:j<L
  ·have ag:decide ((j:Int)<(L:Int))=true:=by simp;omega
   have aq:decide (j<L)=true:=by simp;omega
   obtain⟨b1,b2,y⟩:=base.out wr D.out;have hl:=HL.out;have e1:IntKind.i64.wrap ((next:Int)+(j:Int))=((next+j:Nat):Int):=by rw[BK];omega
   have z:=AA (abP (next+j) wr y om);have a8:(next+j) % L<L:=Ek _ om;obtain⟨⟨q,Y⟩,hx⟩:∃x,U[(next+j) % L]?=some x:=⟨_,Ar om⟩;have N:GZ U next (j+1)=GZ U next j++(if Y then [((next+j:Nat):Int)] else []):=by
    show GZ U next j++_=_;rw[hl,DZ,hx]
    rfl
   have I:pre.length<1000001:=by rw[HP.out];have:=acZ U next j;omega
   rw[hl]at z;have a1:=AA hx;have a2:=AA N;have am:=AA I;have A:=AA h;have ao:=AA hj;obtain⟨s,hs⟩:∃s,next+j=s:=⟨_,rfl⟩;rw[hs]at e1 z a1 a2;obtain⟨i,hi⟩:∃i,s % L=i:=⟨_,rfl⟩;rw[hi]at z a1;clear y hl hx N I h hj hs hi a8
   gi_wp2_with fail
   refine(callsIn_wide.2 z.out).mono ?_;rintro e w2 ⟨rfl,C⟩;have Z:Hid (w.heap.size<=w2.heap.size/\∀k,k<H->w2.heap[k]?=w.heap[k]?):=⟨AS D.out.1 C.size,λk hk=>(C.block k (by have:=D.out.1;have:=ae.out;omega)).trans (D.out.2 k hk)⟩;have ac:=Jf hJ ao.out C;obtain⟨b1,b2,y⟩:=base.out w2 Z.out;have x1:w2.cell? ⟨B,i*2+1,none⟩=some (bool Y):=by have:=(Hz a1.out).2;simp[cell?,y.places];exact this
   have ad:=AA ac;clear y C ac
   cases Y with
   |false=>
    gi_wp2
    go_roundw
    case rel=>exact⟨j+1,pre,A.out,by go_num,by rw[Hid,a2.out,HP.out];simp,ad.out,Z⟩
    case measure=>
     have:=A.out;simp[intOf];omega
   |true=>
    obtain⟨fn,tmps,assign,body,af,ah⟩:=hY pre (s:Int) w2 ad.out am.out;dsimp only[Kg]at af
    gi_wp2
    refine ah.mono ?_;rintro e W5 (⟨rfl,hJ4,hk4⟩|⟨rfl,hJx4⟩)
    ·have aa:Hid (w.heap.size<=W5.heap.size/\∀k,k<H->W5.heap[k]?=w.heap[k]?):=⟨AS Z.out.1 hk4.1,λk hk=>(hk4.2 k hk (by have:=Z.out.1;have:=ae.out;omega)).trans (Z.out.2 k hk)⟩;have ap:=AA hJ4;clear hk4 hJ4
     gi_wp2
     go_roundw
     case rel=>exact⟨j+1,_,A.out,by go_num,by rw[Hid,a2.out,HP.out];simp,ap.out,aa⟩
     case measure=>
      have:=A.out;simp[intOf];omega
    ·gi_wp2
     refine Vf (results_none rfl _ _ _) rfl ?_;exact⟨⟨_,rfl⟩,.inr ⟨_,trivial,hJx4⟩⟩
  ·obtain rfl:j=L:=by omega
   have ag:decide ((j:Int)<(j:Int))=false:=by simp
   clear h
   gi_wp2
   go_end0
   exact⟨⟨_,rfl⟩,.inl ⟨pre,HP.out,hj⟩⟩
end
theorem ac5(Q next:Nat)(w:World) :Calls ZP 117 #[pointer (some ⟨Q,0,none⟩),int i64 (next:Int)] w λe w'=>e=.returned (.func (.func 169) #[] #[pointer (some ⟨w.heap.size,0,none⟩),pointer (some ⟨w.heap.size+1,0,none⟩)])/\w'=(w.alloc (.cells #[pointer (some ⟨Q,0,none⟩)] 262)).alloc (.cells #[int i64 (next:Int)] 3):=by go_enter func117,ntmps117;go_wp2;go_ret;exact⟨rfl,rfl⟩
theorem aaI{X:Nat->Prop}{Q B next:Nat}{C:List PlW}(w:World)(h:BZ X Q B next C w)(hx:next<=1000000000) :Calls ZP 67 #[pointer (some ⟨Q,0,none⟩)] w λe w'=>∃v,e=.returned v/\FR w' w.heap.size v (GZ C next C.length)/\Bt w w':=by
 have c1:w.cell? ⟨Q,1,none⟩=some (int i64 (next:Int)):=by simp[cell?,h.box]
 obtain⟨D,hD⟩:∃D,D=w.drew:=⟨_,rfl⟩;have U:Bt w D:=by rw[hD];exact AN w 1
 have z:=h.keep (Y:=λ_=>False) (.of_same U) λ_ _ _ h=>h;have HN:=AA (ac5 Q next D);obtain⟨W,hW⟩:∃W,W=(D.alloc (.cells #[pointer (some ⟨Q,0,none⟩)] 262)).alloc (.cells #[int i64 (next:Int)] 3):=⟨_,rfl⟩;rw[<-hW]at HN;have I:Bt D W:=by rw[hW];exact(AL _ _).alloc sm _
 have hO:Bx D.heap.size [.cells #[pointer (some ⟨Q,0,none⟩)] 262,.cells #[int i64 (next:Int)] 3] W:=by rw[hW];exact((Bx.nil _ D).snoc _ rfl).snoc _ sm
 have J:W.heap[D.heap.size]?=some (.cells #[pointer (some ⟨Q,0,none⟩)] 262 (0,0)):=by have:=hO 0 _ rfl;rwa[DQ]at this
 have N:W.heap[D.heap.size+1]?=some (.cells #[int i64 (next:Int)] 3 (0,0)):=hO 1 _ rfl;have Z:=z.keep (Y:=λ_=>False) (.of_same I) λ_ _ _ h=>h;have A:=adv (X:=X) D.heap.size (D.heap.size+1) Q B next C W.heap.size 8 W J N Z hx (AD.1 J).1 (AD.1 N).1 (AD.1 Z.box).1 (AD.1 Z.places).1 (AC _);have hr:=h.room;have HC:=AA (aex W (Vg func169 kr rfl) A (AC _) (λ_ _ _ h=>h.elim) (λ_ _ _ _ _ _ _ _ h=>h) (AC _) (λ_ _ _ h=>h.elim) om (λxs V h=>by rw[h];have:=acZ C next C.length;omega));have H:W.cell? ⟨Q,1,none⟩=some (int i64 (next:Int)):=by simp[cell?,Z.box]
 have a6:=AA H;have a2:Hid (∀V,Bt W V->V.cell? ⟨Q,1,none⟩=some (int i64 (next:Int))):=λV s=>(s.cell (p:=⟨Q,1,none⟩) (AD.1 Z.box).1).trans H;have HB:=AA (U.trans (I.mono U.size));have aa:=AA U.size;clear h U z hW I hO J N Z A hr H;go_enter func67,ntmps67;go_upto_region 3 with fail
 refine Vb ?_;refine Va (S:=λY=>Y.cell? ⟨Q,1,none⟩=some (int i64 (next:Int))) kr c1 (λhHeld=>?_);rw[<-hD]at hHeld⊢;clear hD c1;refine tkA 0 ?_;refine tkA 1 ?_;refine tkA 2 ?_;refine tkA 3 ?_;refine tkA 4 ?_;refine tkA 5 ?_;refine tkW 6 (v:=?_) ?_ ?_;rotate_left
 ·intro V s;have q0:V.cell? ⟨Q,1,none⟩=some (int i64 (next:Int)):=s
  first|(go_simp;done)|(go_simp;with_reducible rfl)
 try simp only[pq]
 refine rdy 7 (λK y=>?_);go_simp
 go_at_call 117;refine(HN.out).mono ?_;rintro e w5 ⟨rfl,rfl⟩
 refine y.out _ _ (a6.out) (λj=>?_);clear y K
 try simp only[pq]
 refine rdy 8 (λK y=>?_);go_simp
 go_at_call 116;refine(HC.out).mono ?_;rintro e w6 ⟨v,xs,V,rfl,rfl,a1,ho,x⟩
 refine y.out _ _ ((a2.out _ x)) (λa8=>?_);clear y K
 try simp only[pq]
 have HO:=AA ho;have a7:=AA x;clear a1 ho x j hHeld;refine tkA 9 ?_;refine Vd kr ?_ _;refine At ?_;go_wp2;go_ret;exact⟨_,rfl,NC HO.out HB.out.size,HB.out.trans (a7.out.mono HB.out.size)⟩
theorem aob:∀m:Nat,m<=16->(Builtin.zeroCells #[int i64 0,int i64 0] m).toList=CJ (List.replicate m (0,0))
 |0,_=>by kernel_rfl
 |1,_=>by kernel_rfl
 |2,_=>by kernel_rfl
 |3,_=>by kernel_rfl
 |4,_=>by kernel_rfl
 |5,_=>by kernel_rfl
 |6,_=>by kernel_rfl
 |7,_=>by kernel_rfl
 |8,_=>by kernel_rfl
 |9,_=>by kernel_rfl
 |10,_=>by kernel_rfl
 |11,_=>by kernel_rfl
 |12,_=>by kernel_rfl
 |13,_=>by kernel_rfl
 |14,_=>by kernel_rfl
 |15,_=>by kernel_rfl
 |16,_=>by kernel_rfl
 |m+17,h=>absurd h om
theorem acU(W:World)(B L:Nat)(X:List AF)(h:W.heap[B]?=some (.cells (CJ X).toArray 116 (0,0)))(j:X.length=L)(h1:1<=L)(h2:L<=16) :∃D,(∀ty,(Builtin.clear_ #[69] ty #[slice (some ⟨B,0,none⟩) L L]).run ZP W=.ok (.tuple #[]) D)/\D.heap[B]?=some (.cells (CJ (List.replicate L (0,0))).toArray 116 (0,0))/\W.grownBy D (some B):=by
 obtain⟨i0,H,N,z,A⟩:=Ve IG;have y:ZP.underlying 69=some (.slice 116):=underlying69;have C:=aob L h2;have V:(CJ (List.replicate L (0,0))).length=L*2:=by rw[agi,CS]
 have U:(CJ X).length=L*2:=by rw[agi,j]
 have Z:=run_storeCells_at (P:=ZP) B 0 116 (CJ (List.replicate L (0,0))) 0 (CJ X).toArray W h (by simp[V,U]) (λv Y=>by unfold CJ at Y;obtain⟨p,x,Y⟩:=Ir.1 Y;rw[(List.mem_replicate.1 x).2]at Y;simp[NM]at Y;rw[Y];simp[Value.oneCell'])
 have e:((CJ X).toArray.toList.take (0+0)++CJ (List.replicate L (0,0))++(CJ X).toArray.toList.drop (0+0+(CJ (List.replicate L (0,0))).length)).toArray=(CJ (List.replicate L (0,0))).toArray:=by congr 1;rw[V,DQ,DD,List.take_zero,Av,List.drop_of_length_le (by simp[U]),Cx]
 rw[e]at Z;refine⟨W.setRow B (CJ (List.replicate L (0,0))).toArray,λty=>?_,?_,?_⟩
 ·obtain⟨m,s⟩:∃m,L=m+1:=⟨L-1,by omega⟩;rw[<-C]at Z;rw[<-C];rw[s]at Z⊢;have Y:∀w,(zeroValue 116).run ZP w=.ok (.agg #[int i64 0,int i64 0]) w:=λw=>by simp[zeroValue,typeInfo,H,N]
  have J:(Value.agg #[.int .i64 0,.int .i64 0]).cells=#[.int .i64 0,.int .i64 0]:=rfl;simp[Builtin.clear_,run_underlying y,Y,J,Z]
 ·simp[World.setRow,Js,h]
 ·refine⟨rfl,rfl,rfl,by simp[World.setRow],λk _ I=>?_⟩;have hk:¬B=k:=λe=>I (by rw[e]);simp[World.setRow,Js,hk]
theorem aeC{X:Nat->Prop}{Q B first many:Nat}{closed:Bool}{z:List AF}(w:World)(h:AY X Q B first many closed z w) :Calls ZP 211 #[pointer (some ⟨Q,0,none⟩)] w λe w'=>e=.returned (int i64 (many:Int))/\AY X Q B 0 0 closed (List.replicate z.length (0,0)) w'/\Chg X w w':=by
 obtain⟨L,H⟩:∃L,z.length=L:=⟨_,rfl⟩;obtain⟨r1,r2,r3,r4⟩:=h.room;have c0:w.cell? ⟨Q,0,none⟩=some (slice (some ⟨B,0,none⟩) L L):=by simp[cell?,h.box,H]
 have c2:w.cell? ⟨Q,2,none⟩=some (int i64 (many:Int)):=by simp[cell?,h.box]
 obtain⟨I,a1,D,J⟩:=acU w B L z h.places H om om;have A:=(AD.1 h.box).1;have Z:I.heap[Q]?=some (.cells #[slice (some ⟨B,0,none⟩) L L,int i64 (first:Int),int i64 (many:Int),bool closed] 205 (0,0)):=by rw[J.block Q A (λe=>h.ne (AK e)),<-H];exact h.box
 have Y:(List.replicate L ((0:Int),(0:Int))).length=L:=CS;have C:AY X Q B first many closed (List.replicate L (0,0)) I:=⟨by rw[Y];exact Z,D,h.inX,h.ne,by rw[Y,<-H];exact h.room⟩;obtain⟨j,s⟩:=C.setF 0 (by rw[Y];omega);obtain⟨x,y⟩:=j.setM 0 (AR _);have K1:=AA x;have K2:=AA ((((Chg.refl X w).grown J λg e _=>by cases e;exact h.inX.2).then s).then y);have f1:I.frozen? ⟨Q,1,none⟩=false:=by simp[frozen?,Z]
 have d1:I.cell? ⟨Q,1,none⟩=some (int i64 (first:Int)):=by simp[cell?,Z]
 obtain⟨W2,N⟩:∃V,V=I.setCell ⟨Q,1,none⟩ (int i64 0):=⟨_,rfl⟩;have U:=AJ (i:=1) Z (int i64 0);rw[<-N]at U;have f2:(I.setCell ⟨Q,1,none⟩ (int i64 0)).frozen? ⟨Q,2,none⟩=false:=by rw[<-N];simp[frozen?,U]
 have d2:(I.setCell ⟨Q,1,none⟩ (int i64 0)).cell? ⟨Q,2,none⟩=some (int i64 (many:Int)):=by rw[<-N];simp[cell?,U]
 rw[H];clear h r1 r2 r3 r4 D J A Z Y C j s x y N U H;go_enter func211,ntmps211;go_wp2;go_ret;exact⟨rfl,K1.out,K2.out⟩
theorem ap9:∀m:Nat,m<=16->madeCells (Value.agg #[slice none 0 0,bool false]).cells (m*2)=(plC (List.replicate m ((none,0,0),false))).toArray
 |0,_=>by kernel_rfl
 |1,_=>by kernel_rfl
 |2,_=>by kernel_rfl
 |3,_=>by kernel_rfl
 |4,_=>by kernel_rfl
 |5,_=>by kernel_rfl
 |6,_=>by kernel_rfl
 |7,_=>by kernel_rfl
 |8,_=>by kernel_rfl
 |9,_=>by kernel_rfl
 |10,_=>by kernel_rfl
 |11,_=>by kernel_rfl
 |12,_=>by kernel_rfl
 |13,_=>by kernel_rfl
 |14,_=>by kernel_rfl
 |15,_=>by kernel_rfl
 |16,_=>by kernel_rfl
 |m+17,h=>absurd h om
theorem aj8:∃i,ZP.info? 264=some i/\i.zero=some (.agg #[slice none 0 0,bool false])/\i.size=2/\i.bytes<=100:=by
 have h:((ZP.info? 264).map λi=>(i.zero,i.size,decide (i.bytes<=100)))=some (some (.agg #[slice none 0 0,bool false]),2,true):=by kernel_rfl
 cases e:ZP.info? 264 with
 |none=>rw[e]at h;cases h
 |some i=>
  rw[e]at h;have h:=AK h
  injection h with h1 h2
  injection h2 with h2 h3
  exact⟨i,rfl,h1,h2,Lj h3⟩
theorem akT(m:Nat)(w:World)(h1:1<=m)(h2:m<=16) :Calls ZP 98 #[int i64 (m:Int)] w λe w'=>∃Q B,e=.returned (.tuple #[pointer (some ⟨Q,0,none⟩),int i64 0])/\BZ (λk=>w.heap.size<=k) Q B 0 (List.replicate m ((none,0,0),false)) w'/\Bt w w':=by
 have a2:∀V:World,(Instr.makeSlice 195 (int i64 m) (int i64 m)).run ZP V=.ok (slice (some ⟨V.heap.size,0,none⟩) m m) (V.alloc (.cells (plC (List.replicate m ((none,0,0),false))).toArray 264)):=λV=>by
  obtain⟨H,hi,C,N,D⟩:=aj8;have a6:H.bytes*m<=100*16:=GR D h2;have x:(H.bytes:Int)*(m:Int)<=281474976710656:=by rw[<-Iy];omega
  have h:=run_makeSlice (P:=ZP) (w:=V) 195 264 H (.agg #[.slice none 0 0,.bool false]) underlying195 hi C .i64 .i64 (m:Int) (m:Int) om om (by rw[N];omega) x om;rw[N,Aa,ap9 m h2]at h;exact h
 have d0:decide ((m:Int)<1)=false:=by simp;omega
 have d1:decide ((m:Int) > 16)=false:=by simp;omega
 have a7:decide ((16:Int)<(m:Int))=false:=by simp;omega
 have d2:decide (m<1)=false:=by simp;omega
 have d3:decide (16<m)=false:=by simp;omega
 have d4:decide (m=0)=false:=by simp;omega
 have a1:=AA (Lq h1 h2);clear h1 h2;go_enter func98,ntmps98;go_wp2;go_ret2;obtain⟨h1,h2⟩:=a1.out;have U:(List.replicate m ((none,0,0),false):List PlW).length=m:=CS;obtain⟨X,Z⟩:∃V,V=w.alloc (.cells (plC (List.replicate m ((none,0,0),false))).toArray 264):=⟨_,rfl⟩;obtain⟨j,Y⟩:∃V,V=X.alloc (.cells #[slice (some ⟨w.heap.size,0,none⟩) m m,int i64 0] 199):=⟨_,rfl⟩;have z:X.heap[w.heap.size]?=some (.cells (plC (List.replicate m ((none,0,0),false))).toArray 264 (0,0)):=by rw[Z];exact AT _ _
 have y:X.heap.size=w.heap.size+1:=by rw[Z];simp
 have A:j.heap[X.heap.size]?=some (.cells #[slice (some ⟨w.heap.size,0,none⟩) m m,int i64 0] 199 (0,0)):=by rw[Y];exact AT _ _
 have I:Bt w X:=by rw[Z];exact AL _ _
 have J:Bt X j:=by rw[Y];exact AL _ _
 have s:BZ (λk=>w.heap.size<=k) X.heap.size w.heap.size 0 (List.replicate m ((none,0,0),false)) j:=⟨by rw[U];exact A,(J.block w.heap.size om).trans z,⟨by show w.heap.size<=X.heap.size;omega,AC _⟩,by omega,by rw[U];omega⟩;have hB:=I.trans (J.mono I.size);rw[y]at s;refine⟨w.heap.size+1,w.heap.size,rfl,?_,?_⟩
 ·rw[Y,Z]at s;exact s
 ·rw[Y,Z]at hB;exact hB
theorem aoj:∀m:Nat,m<=16->(Builtin.zeroCells #[slice none 0 0,bool false] m).toList=plC (List.replicate m ((none,0,0),false))
 |0,_=>by kernel_rfl
 |1,_=>by kernel_rfl
 |2,_=>by kernel_rfl
 |3,_=>by kernel_rfl
 |4,_=>by kernel_rfl
 |5,_=>by kernel_rfl
 |6,_=>by kernel_rfl
 |7,_=>by kernel_rfl
 |8,_=>by kernel_rfl
 |9,_=>by kernel_rfl
 |10,_=>by kernel_rfl
 |11,_=>by kernel_rfl
 |12,_=>by kernel_rfl
 |13,_=>by kernel_rfl
 |14,_=>by kernel_rfl
 |15,_=>by kernel_rfl
 |16,_=>by kernel_rfl
 |m+17,h=>absurd h om
theorem aeE(W:World)(B L:Nat)(X:List PlW)(h:W.heap[B]?=some (.cells (plC X).toArray 264 (0,0)))(j:X.length=L)(h1:1<=L)(h2:L<=16) :∃D,(∀ty,(Builtin.clear_ #[195] ty #[slice (some ⟨B,0,none⟩) L L]).run ZP W=.ok (.tuple #[]) D)/\D.heap[B]?=some (.cells (plC (List.replicate L ((none,0,0),false))).toArray 264 (0,0))/\W.grownBy D (some B):=by
 obtain⟨i0,H,N,z,A⟩:=aj8;have y:ZP.underlying 195=some (.slice 264):=underlying195;have C:=aoj L h2;have V:(plC (List.replicate L ((none,0,0),false))).length=L*2:=by rw[air,CS]
 have U:(plC X).length=L*2:=by rw[air,j]
 have Z:=run_storeCells_at (P:=ZP) B 0 264 (plC (List.replicate L ((none,0,0),false))) 0 (plC X).toArray W h (by simp[V,U]) (λv Y=>by
  unfold plC at Y;obtain⟨p,x,Y⟩:=Ir.1 Y;rw[(List.mem_replicate.1 x).2]at Y;simp[plE]at Y
  rcases Y with rfl|rfl<;>simp[Value.oneCell'])
 have e:((plC X).toArray.toList.take (0+0)++plC (List.replicate L ((none,0,0),false))++(plC X).toArray.toList.drop (0+0+(plC (List.replicate L ((none,0,0),false))).length)).toArray=(plC (List.replicate L ((none,0,0),false))).toArray:=by congr 1;rw[V,DQ,DD,List.take_zero,Av,List.drop_of_length_le (by simp[U]),Cx]
 rw[e]at Z;refine⟨W.setRow B (plC (List.replicate L ((none,0,0),false))).toArray,λty=>?_,?_,?_⟩
 ·obtain⟨m,s⟩:∃m,L=m+1:=⟨L-1,by omega⟩;rw[<-C]at Z;rw[<-C];rw[s]at Z⊢;have Y:∀w,(zeroValue 264).run ZP w=.ok (.agg #[slice none 0 0,bool false]) w:=λw=>by simp[zeroValue,typeInfo,H,N]
  have J:(Value.agg #[.slice none 0 0,.bool false]).cells=#[.slice none 0 0,.bool false]:=rfl;simp[Builtin.clear_,run_underlying y,Y,J,Z]
 ·simp[World.setRow,Js,h]
 ·refine⟨rfl,rfl,rfl,by simp[World.setRow],λk _ I=>?_⟩;have hk:¬B=k:=λe=>I (by rw[e]);simp[World.setRow,Js,hk]
theorem adD{X:Nat->Prop}{Q B next:Nat}{H:List PlW}(w:World)(h:BZ X Q B next H w)(hx:next<=1000000000) :Calls ZP 207 #[pointer (some ⟨Q,0,none⟩)] w λe w'=>(∃v,e=.returned v)/\BZ X Q B next (List.replicate H.length ((none,0,0),false)) w'/\Chg X w w':=by
 have j:=AA (aaI w h hx);have HH:=AA h;obtain⟨L,C⟩:∃L,H.length=L:=⟨_,rfl⟩;obtain⟨z,A⟩:=h.room;have HL:=AA C;rw[C]at z A;rw[C]at j⊢;clear h C;go_enter func207,ntmps207
 go_wp2_with fail
 refine j.out.mono ?_;rintro e s ⟨v,rfl,ho,y⟩;obtain⟨a1,c1,rfl,_,_⟩:=SlK.own ho;have Z:=HH.out.keep (Y:=λ_=>False) (.of_same y) λ_ _ _ h=>h;have D:=HL.out;have c0:s.cell? ⟨Q,0,none⟩=some (slice (some ⟨B,0,none⟩) L L):=by simp[cell?,Z.box,D]
 obtain⟨x,a2,N,U⟩:=aeE s B L H Z.places D z A;have I:=(AD.1 Z.box).1;have J:x.heap[Q]?=some (.cells #[slice (some ⟨B,0,none⟩) L L,int i64 (next:Int)] 199 (0,0)):=by rw[U.block Q I (λe=>Z.ne (AK e)),<-D];exact Z.box
 have V:(List.replicate L ((((none:Option Addr),(0:Nat),(0:Nat)),false):PlW)).length=L:=CS;have K1:Hid (BZ X Q B next (List.replicate L ((none,0,0),false)) x):=⟨by rw[V];exact J,N,Z.inX,Z.ne,by rw[V];exact⟨z,A⟩⟩;have K2:Hid (Chg X w x):=(Chg.of_same y).grown U λg e _=>by cases e;exact Z.inX.2
 clear ho y Z D N U I J V;go_wp2;go_ret;exact⟨⟨_,rfl⟩,K1.out,K2.out⟩
theorem KV{a n i j:Nat}(h:i<n)(X:j<n)(Y:i≠j):(a+i) % n≠(a+j) % n:=λe=>by
 have h1:=Nat.div_add_mod (a+i) n;have h2:=Nat.div_add_mod (a+j) n;rw[e]at h1;have h3:n*((a+i) / n)+j=n*((a+j) / n)+i:=by omega
 rcases Nat.lt_trichotomy ((a+i) / n) ((a+j) / n)with Z|Z|Z
 ·have:=Nat.mul_le_mul_left n (Nat.succ_le_of_lt Z);rw[Nat.mul_succ]at this;omega
 ·rw[Z]at h3;omega
 ·have:=Nat.mul_le_mul_left n (Nat.succ_le_of_lt Z);rw[Nat.mul_succ]at this;omega
theorem agC(a i n:Nat):((a+1) % n+i) % n=(a+(i+1)) % n:=by rw[Nat.mod_add_mod];congr 1;omega
section
variable {A:PAd}{c:CfM}{s s' s'':PlM}{o:Nat->Nat}{w w' w'':World}
theorem AE.weak(h:AE A c o s' w w'):∀k,k<w.heap.size->o k=0->w'.heap[k]?=w.heap[k]?:=λk hk h0=>by obtain⟨o',_,_,h3⟩:=h;exact h3.c.block k hk λe=>e.1 h0
theorem AE.lift(h:AE A c o s w w'){f:FuncId}{args:Array Value}{R:Ending->World->Prop}(k:∀o',AI A c o' s w'->(∀k,o k=0->o' k=0)->Calls ZP f args w' λe w''=>R e w''/\AE A c o' s' w' w'') :Calls ZP f args w' λe w''=>R e w''/\AE A c o s' w w'':=by obtain⟨Y,h1,h2,h3⟩:=h;refine(k Y h1 h2).mono ?_;rintro e J ⟨X,Z,N,U,V⟩;exact⟨X,Z,N,λk hk=>U k (h2 k hk),h3.trans h2 V⟩
theorem AE.bel(h:AE A c o s w w')(Z:Bt w' w''):AE A c o s w w'':=h.then λY h1 _=>h1.gr Z
theorem AE.low(h:AE A c o s w w'){R:Prop}(k:∀o',AI A c o' s w'->R):R:=let⟨o1,h1,_⟩:=h;k o1 h1
theorem AE.setR(h:AE A c o s w w')(i:Nat)(v:Value)(Z:RdM)(X:∀Y,(rdV A s.rd Y).setIfInBounds i v=rdV A Z Y)(V:Z.tail=s.rd.tail) :AE A c o {s with rd:=Z} w (w'.setCell ⟨A.R,i,none⟩ v):=h.then λU h1 _=>.of_same (h1.chgR i v) (h1.setR i v Z X V).1
theorem AE.setP(h:AE A c o s w w')(i:Nat)(v:Value)(s':PlM)(U:∀Y,(EK A c s Y).setIfInBounds i v=EK A c s' Y)(N:s'.took=s.took)(J:∀u X Z V,u≠1->Ai A c s X Z V u->Ai A c s' X Z V u) :AE A c o s' w (w'.setCell ⟨A.P,i,none⟩ v):=h.then λI h1 _=>.of_same (h1.chgP i v) (h1.setP i v s' U N J).1
theorem AE.setM(h:AE A c o s w w')(ph:Nat):AE A c o {s with mph:=ph} w (w'.setCell ⟨A.M,1,none⟩ (.int .u8 (ph:Int))):=h.then λZ h1 _=>.of_same (h1.chgM 1 _) (h1.setM ph).1
theorem AE.setE(h:AE A c o s w w')(ph:Nat):AE A c o {s with eph:=ph} w (w'.setCell ⟨A.E,1,none⟩ (.int .u8 (ph:Int))):=h.then λZ h1 _=>.of_same (h1.chgE 1 _) (h1.setE ph).1
theorem AE.frR(h:AE A c o s w w')(i:Nat):w'.frozen? ⟨A.R,i,none⟩=false:=h.low λY h1=>by obtain⟨Z,h2,_⟩:=h1.cR;simp[frozen?,h2]
theorem AE.frP(h:AE A c o s w w')(i:Nat):w'.frozen? ⟨A.P,i,none⟩=false:=h.low λY h1=>by obtain⟨Z,h2⟩:=h1.cP;simp[frozen?,h2]
theorem AE.ceP(h:AE A c o s w w')(i:Nat)(v:Value)(Y:∀Z,(EK A c s Z)[i]?=some v):w'.cell? ⟨A.P,i,none⟩=some v:=h.low λX h1=>by obtain⟨Z,h2⟩:=h1.cP;simp only[cell?,h2];exact Y Z
theorem AE.ceR(h:AE A c o s w w')(i:Nat)(v:Value)(Y:∀Z,(rdV A s.rd Z)[i]?=some v):w'.cell? ⟨A.R,i,none⟩=some v:=h.low λX h1=>by obtain⟨Z,h2,_⟩:=h1.cR;simp only[cell?,h2];exact Y Z
theorem AE.tail(h:AE A c o s w w'):∃a Z,w'.cell? ⟨A.R,11,none⟩=some (slice a s.rd.tail.length Z)/\Bys w' a s.rd.tail.length s.rd.tail/\s.rd.tail.length<=Z:=h.low λX h1=>by obtain⟨Y,h2,h3⟩:=h1.cR;obtain⟨a,Z,rfl,h4,h5⟩:=h3.shape;exact⟨a,Z,by simp only[cell?,h2];rfl,h5,h4⟩
theorem AE.neRP(h:AE A c o s w w'):A.R≠A.P:=h.low λZ h1 e=>by obtain⟨Y,_,h2,_⟩:=h1.part 8 om;obtain⟨Y,_,h3,_⟩:=h1.part 1 om;have h2:Z A.R=8:=h2;have h3:Z A.P=1:=h3;rw[e,h3]at h2;exact absurd h2 (by decide)
theorem AE.belZ(h:AE A c o s w w')(Y:Bt w' w''):∃o',AI A c o' s w''/\(∀k,o k=0->o' k=0)/\PB o o' w w''/\∀k,w'.heap.size<=k->k<w''.heap.size->o' k=0:=by
 obtain⟨V,h1,h2,h3⟩:=h;refine⟨_,h1.grow 0 om Y,λk hk=>?_,⟨h3.c.same Y,λk hk e=>(FV (Af hk h3.c.size)).trans (h3.f k hk e)⟩,λk hk Z=>Mq hk Z⟩
 by_cases X:k<w'.heap.size
 ·rw[FV X];exact h2 k hk
 ·have:=h1.out k om;have:=h2 k hk;omega
theorem AE.comp{Z:Nat->Nat}(Y:∀k,o k=0->Z k=0)(V:PB o Z w w')(h:AE A c Z s' w' w''):AE A c o s' w w'':=by obtain⟨X,h1,h2,h3⟩:=h;exact⟨X,h1,λk hk=>h2 k (Y k hk),V.trans Y h3⟩
/- The queue of blocks. -/
theorem aoN(h:AI A c o s w):Calls ZP 194 #[pointer (some ⟨A.Q,0,none⟩)] w λe w'=>e=.returned (int i64 ((c.Q-s.q.length:Nat):Int))/\Bt w w':=by
 obtain⟨first,Z,h1,h2,h3⟩:Gm A c s (λk=>o k=5) (λk=>o k=0) w:=h.part 5 om;have:=aiC w h1
 rwa[h2]at this
theorem apa(h:AI A c o s w):Calls ZP 198 #[pointer (some ⟨A.Q,0,none⟩)] w λe w'=>e=.returned (int i64 (s.q.length:Int))/\Bt w w':=by obtain⟨first,Z,h1,h2,h3⟩:Gm A c s (λk=>o k=5) (λk=>o k=0) w:=h.part 5 om;exact amG w h1
theorem alC(h:AI A c o s w):Calls ZP 71 #[pointer (some ⟨A.Q,0,none⟩)] w λe w'=>e=.returned (bool s.shut)/\Bt w w':=by obtain⟨first,Z,h1,h2,h3⟩:Gm A c s (λk=>o k=5) (λk=>o k=0) w:=h.part 5 om;exact afj w h1
theorem anD(h:AI A c o s w):Calls ZP 197 #[pointer (some ⟨A.Q,0,none⟩)] w λe w'=>(∃v,e=.returned v)/\AE A c o {s with shut:=true} w w':=by obtain⟨first,X,h1,h2,h3⟩:Gm A c s (λk=>o k=5) (λk=>o k=0) w:=h.part 5 om;refine(ahs w h1).mono ?_;rintro e w' ⟨rfl,I,Z⟩;refine⟨⟨_,rfl⟩,h.upG 5 om om Z ⟨first,X,I.wide λ_ _ N=>.inl N,h2,λi b J=>?_⟩ (Ai.congr 5)⟩;obtain⟨p,U,V⟩:=h3 i b J;exact⟨p,U,V.keep Z λk _ H Y=>by rw[H]at Y;exact absurd Y (by decide)⟩
theorem ahj(h:AI A c o s w)(J:s.q=[]):Calls ZP 199 #[pointer (some ⟨A.Q,0,none⟩)] w λe w'=>e=.returned (.tuple #[.agg #[int i64 0,int i64 0,int i64 0,slice none 0 0,int i64 0],bool false])/\AE A c o s w w':=by obtain⟨first,X,h1,h2,h3⟩:Gm A c s (λk=>o k=5) (λk=>o k=0) w:=h.part 5 om;refine(ak0 w h1 (by rw[J];rfl)).mono ?_;rintro e w' ⟨rfl,H,Z⟩;refine⟨rfl,h.upG 5 om om Z ⟨first,X,H.wide λ_ _ N=>.inl N,h2,λi b I=>?_⟩ (Ai.congr 5)⟩;obtain⟨p,U,V⟩:=h3 i b I;exact⟨p,U,V.keep Z λk _ D Y=>by rw[D]at Y;exact absurd Y (by decide)⟩
theorem ahd(h:AI A c o s w)(b:Bc)(q:List Bc)(Y:s.q=b::q):Calls ZP 199 #[pointer (some ⟨A.Q,0,none⟩)] w λe w'=>∃p:PcW,e=.returned (.tuple #[.agg #[int i64 p.num,int i64 p.start,int i64 p.warm,slice p.a p.m p.c,int i64 p.buf],bool true])/\PcD (λk=>o k=0) w' p b/\AE A c o {s with q:=q} w w':=by
 obtain⟨first,ps,h1,h2,h3⟩:Gm A c s (λk=>o k=5) (λk=>o k=0) w:=h.part 5 om;have hr:=h1.room;have Z:s.q.length=q.length+1:=by rw[Y];rfl
 obtain⟨p,N,X⟩:=h3 0 b (by rw[Y];rfl);rw[DQ,Nat.mod_eq_of_lt om]at N;refine(akk p w h1 om N).mono ?_;rintro e w' ⟨rfl,I,V⟩;have U:∀k,k<w.heap.size->o k=0->¬o k=5:=λk _ x H=>by rw[x]at H;exact absurd H (by decide)
 refine⟨p,rfl,X.keep V U,h.upG 5 om om V ?_ (Ai.congr 5)⟩;rw[Z,Jl,h2]at I;refine⟨_,_,I.wide λ_ _ z=>.inl z,by rw[BG];exact h2,λi b' J=>?_⟩;have y:i<q.length:=(AP.1 J).1;obtain⟨D,B,C⟩:=h3 (i+1) b' (by rw[Y];exact J);refine⟨D,?_,C.keep V U⟩;rw[agC,FH]
 ·exact B
 ·have:=KV (a:=first) (n:=c.Q) (i:=0) (j:=i+1) om om om
  rwa[DQ,Nat.mod_eq_of_lt om]at this
theorem ap7(h:AI A c o s w)(b:Bc)(p:PcW)(a:Option Addr)(D:Nat)(hq:s.q.length<c.Q)(I:s.shut=false)(X:PcD (λk=>o k=0) w p b)(x:SlK 5 w a 1 [int i64 p.num,int i64 p.start,int i64 p.warm,slice p.a p.m p.c,int i64 p.buf]) :Calls ZP 196 #[pointer (some ⟨A.Q,0,none⟩),slice a 1 D] w λe w'=>(∃v,e=.returned v)/\AE A c o {s with q:=s.q++[b]} w w':=by
 obtain⟨first,N,h1,h2,h3⟩:Gm A c s (λk=>o k=5) (λk=>o k=0) w:=h.part 5 om;rw[I]at h1;refine(ama p a D w h1 om x).mono ?_;rintro e w' ⟨rfl,g1,U⟩;have J:∀k,k<w.heap.size->o k=0->¬o k=5:=λk _ Y H=>by rw[Y]at H;exact absurd H (by decide)
 refine⟨⟨_,rfl⟩,h.upG 5 om om U ?_ (Ai.congr 5)⟩;have Y:(s.q++[b]).length=s.q.length+1:=by simp
 refine⟨first,N.set ((first+s.q.length) % N.length) p,?_,by rw[BG];exact h2,λi b' Z=>?_⟩
 ·show Ab _ _ _ _ (s.q++[b]).length s.shut _ _;rw[Y,I];exact g1.wide λ_ _ y=>.inl y
 ·have V:i<(s.q++[b]).length:=(AP.1 Z).1;have hr:=h1.room;rw[Y]at V;have Z:(s.q++[b])[i]?=some b':=Z
  by_cases j:i<s.q.length
  ·rw[By j]at Z;obtain⟨C,z,B⟩:=h3 i b' Z;refine⟨C,?_,B.keep U J⟩;rw[h2,FH (λe=>KV (a:=first) (n:=c.Q) om om om e)];exact z
  ·have:i=s.q.length:=by omega
   subst this;rw[MX]at Z
   cases AK Z
   refine⟨p,?_,X.keep U J⟩;rw[h2,FU (by rw[h2];exact Ek _ om)]
/- The queue of hits. -/
theorem aoq(h:AI A c o s w):Calls ZP 205 #[pointer (some ⟨A.O,0,none⟩)] w λe w'=>e=.returned (int i64 ((c.O-s.out.length:Nat):Int))/\Bt w w':=by
 obtain⟨first,Z,h1,h2,h3⟩:GN A c s (λk=>o k=7) w:=h.part 7 om;have:=ajo w h1
 rwa[h2]at this
theorem ap6(h:AI A c o s w):Calls ZP 68 #[pointer (some ⟨A.O,0,none⟩)] w λe w'=>e=.returned (int i64 (s.out.length:Int))/\Bt w w':=by obtain⟨first,Z,h1,h2,h3⟩:GN A c s (λk=>o k=7) w:=h.part 7 om;exact aml w h1
theorem akY(h:AI A c o s w):Calls ZP 72 #[pointer (some ⟨A.O,0,none⟩)] w λe w'=>e=.returned (bool s.ended)/\Bt w w':=by obtain⟨first,Z,h1,h2,h3⟩:GN A c s (λk=>o k=7) w:=h.part 7 om;exact ag5 w h1
theorem an3(h:AI A c o s w):Calls ZP 245 #[pointer (some ⟨A.O,0,none⟩)] w λe w'=>(∃v,e=.returned v)/\AE A c o {s with ended:=true} w w':=by obtain⟨first,Z,h1,h2,h3⟩:GN A c s (λk=>o k=7) w:=h.part 7 om;refine(ahp w h1).mono ?_;rintro e w' ⟨rfl,V,X⟩;exact⟨⟨_,rfl⟩,h.upG 7 om om X ⟨first,Z,V.wide λ_ _ Y=>.inl Y,h2,h3⟩ (Ai.congr 7)⟩
theorem anh(h:AI A c o s w):Calls ZP 211 #[pointer (some ⟨A.O,0,none⟩)] w λe w'=>e=.returned (int i64 (s.out.length:Int))/\AE A c o {s with out:=[]} w w':=by obtain⟨first,U,h1,h2,h3⟩:GN A c s (λk=>o k=7) w:=h.part 7 om;refine(aeC w h1).mono ?_;rintro e w' ⟨rfl,V,X⟩;exact⟨rfl,h.upG 7 om om X ⟨0,_,V.wide λ_ _ Z=>.inl Z,by rw[CS];exact h2,λi b Y=>by cases Y⟩ (Ai.congr 7)⟩
theorem aop(h:AI A c o s w):Calls ZP 208 #[pointer (some ⟨A.O,0,none⟩)] w λe w'=>∃v,e=.returned v/\Ax w' w.heap.size v s.out/\Bt w w':=by
 obtain⟨first,Y,h1,h2,h3⟩:GN A c s (λk=>o k=7) w:=h.part 7 om;have X:qlH Y first s.out.length=s.out:=by
  refine Hn λi=>?_;unfold qlH;rw[BU]
  by_cases Z:i<s.out.length
  ·rw[It Z,Dw,h2,DZ,h3 i _ (Ar Z),Ar Z]
   rfl
  ·rw[GT (by simp;omega),GT om]
   rfl
 have:=ai0 w h1
 rwa[X]at this
theorem ahy(h:AI A c o s w)(b:AF)(q:List AF)(Y:s.out=b::q):Calls ZP 210 #[pointer (some ⟨A.O,0,none⟩)] w λe w'=>(∃v,e=.returned v)/\AE A c o {s with out:=q} w w':=by
 obtain⟨first,D,h1,h2,h3⟩:GN A c s (λk=>o k=7) w:=h.part 7 om;have C:=h1.room;have Z:s.out.length=q.length+1:=by rw[Y];rfl
 have X:=h3 0 b (by rw[Y];rfl);rw[DQ,Nat.mod_eq_of_lt om]at X;refine(aiy b w h1 om X).mono ?_;rintro e w' ⟨rfl,U,H⟩;refine⟨⟨_,rfl⟩,h.upG 7 om om H ?_ (Ai.congr 7)⟩;rw[Z,Jl,h2]at U;refine⟨_,_,U.wide λ_ _ J=>.inl J,by rw[BG];exact h2,λi b' V=>?_⟩;have I:i<q.length:=(AP.1 V).1;have N:=h3 (i+1) b' (by rw[Y];exact V);rw[agC,FH]
 ·exact N
 ·have:=KV (a:=first) (n:=c.O) (i:=0) (j:=i+1) om om om
  rwa[DQ,Nat.mod_eq_of_lt om]at this
theorem aoX(h:AI A c o s w)(b:AF)(a:Option Addr)(J:Nat)(y:s.out.length<c.O)(V:s.ended=false)(D:SlK 2 w a 1 [int i64 b.1,int i64 b.2]) :Calls ZP 206 #[pointer (some ⟨A.O,0,none⟩),slice a 1 J] w λe w'=>(∃v,e=.returned v)/\AE A c o {s with out:=s.out++[b]} w w'/\Chg (λk=>o k=7) w w':=by
 obtain⟨first,X,h1,h2,h3⟩:GN A c s (λk=>o k=7) w:=h.part 7 om;rw[V]at h1;refine(al6 b a J w h1 om D).mono ?_;rintro e w' ⟨rfl,B,U⟩;refine⟨⟨_,rfl⟩,h.upG 7 om om U ?_ (Ai.congr 7),U⟩;have N:(s.out++[b]).length=s.out.length+1:=by simp
 refine⟨first,X.set ((first+s.out.length) % X.length) b,?_,by rw[BG];exact h2,λi b' Z=>?_⟩
 ·show AY _ _ _ _ (s.out++[b]).length s.ended _ _;rw[N,V];exact B.wide λ_ _ H=>.inl H
 ·have Y:i<(s.out++[b]).length:=(AP.1 Z).1;have z:=h1.room;rw[N]at Y;have Z:(s.out++[b])[i]?=some b':=Z
  by_cases C:i<s.out.length
  ·rw[By C]at Z;have I:=h3 i b' Z;rw[h2,FH (λe=>KV (a:=first) (n:=c.O) om om om e)];exact I
  ·have:i=s.out.length:=by omega
   subst this;rw[MX]at Z
   cases AK Z
   rw[h2,FU (by rw[h2];exact Ek _ om)]
/- The sink. -/
theorem aoD(h:AI A c o s w)(b:AF)(ho:s.off<=1000000)(Y:s.tk.length<=1000000) :Calls ZP 209 #[pointer (some ⟨A.Kk,0,none⟩),.agg #[int i64 b.1,int i64 b.2]] w λe w'=>e=.returned (bool (EH c.ans s.off))/\AE A c o {s with off:=s.off+1,tk:=if EH c.ans s.off then s.tk++[b] else s.tk} w w':=by obtain⟨a,n,U,N,h1⟩:LB A c s (λk=>o k=3) w:=h.part 3 om;refine(aed b w h1 ho Y).mono ?_;rintro e w' ⟨rfl,⟨Z,V⟩,X⟩;exact⟨rfl,h.upG 3 om om X ⟨a,n,U,Z,V⟩ (Ai.congr 3)⟩
/- The ring. -/
theorem aoh(h:AI A c o s w):Calls ZP 66 #[pointer (some ⟨A.G,0,none⟩)] w λe w'=>e=.returned (int i64 (s.next:Int))/\w'=w:=by obtain⟨Z,h1,h2,_⟩:Gl A c s (λk=>o k=6) (λk=>o k=0) w:=h.part 6 om;exact ah6 w h1
def Ga(next:Nat)(rg:List (Option (List AF))):Nat->List Nat
 |0=>[]
 |j+1=>Ga next rg j++(match rg[j]? with|some (some _)=>[next+j]|_=>[])
theorem akt{Z:Nat->Prop}{V:World}{X:List PlW}{next n:Nat}{rg:List (Option (List AF))}(J:X.length=n)(U:rg.length=n)(h3:∀i x,rg[i]?=some x->∃p,X[(next+i) % n]?=some p/\RgD Z V p x):∀j,j<=n->GZ X next j=(Ga next rg j).map λx:Nat=>(x:Int)
 |0,_=>rfl
 |j+1,hj=>by
  have I:=akt J U h3 j om;unfold GZ Ga;rw[Aj,I];congr 1;obtain⟨x,N⟩:∃x,rg[j]?=some x:=⟨_,Ar om⟩;obtain⟨p,H,Y⟩:=h3 j x N;rw[J,DZ,H,N]
  cases x with
  |none=>
   have Y:p.2=false:=Y;simp[Y]
  |some l=>
   have Y:p.2=true:=Y.1;simp[Y]
theorem ap0(h:AI A c o s w)(Z:s.next<=1000000000):Calls ZP 67 #[pointer (some ⟨A.G,0,none⟩)] w λe w'=>∃v,e=.returned v/\FR w' w.heap.size v ((Ga s.next s.rg c.R).map λx:Nat=>(x:Int))/\Bt w w':=by
 obtain⟨Y,h1,h2,h0,h3⟩:Gl A c s (λk=>o k=6) (λk=>o k=0) w:=h.part 6 om;have:=aaI w h1 Z
 rwa[h2,akt h2 h0 h3 c.R (AC _)]at this
theorem ang(h:AI A c o s w)(Y:s.next<=1000000000):Calls ZP 207 #[pointer (some ⟨A.G,0,none⟩)] w λe w'=>(∃v,e=.returned v)/\AE A c o {s with rg:=List.replicate s.rg.length none} w w':=by
 obtain⟨N,h1,h2,h0,h3⟩:Gl A c s (λk=>o k=6) (λk=>o k=0) w:=h.part 6 om;refine(adD w h1 Y).mono ?_;rintro e w' ⟨X,U,V⟩;refine⟨X,h.upG 6 om om V ⟨_,U.wide λ_ _ Y=>.inl Y,by rw[CS];exact h2,by show(List.replicate _ _).length=_;rw[CS];exact h0,λi x Z=>?_⟩ (Ai.congr 6)⟩;have Z:(List.replicate s.rg.length (none:Option (List AF)))[i]?=some x:=Z;rw[Jo]at Z
 split at Z
 ·cases AK Z
  have J:=h1.room;refine⟨((none,0,0),false),?_,rfl⟩;rw[Jo,Lc (by rw[h2];exact Ek _ om)]
 ·cases Z
theorem ap1(h:AI A c o s w)(n m U:Nat)(a:Option Addr)(l:List AF)(hn:n<=1000000000)(N:s.next<=1000000000)(h1:s.next<=n)(h2:n-s.next<c.R)(hg:s.rg[n-s.next]?=some none)(hs:SlD (λk=>o k=0) w a m l)(I:m<=U) :Calls ZP 201 #[pointer (some ⟨A.G,0,none⟩),int i64 (n:Int),slice a m U] w λe w'=>(∃v,e=.returned v)/\AE A c o {s with rg:=s.rg.set (n-s.next) (some l)} w w':=by
 obtain⟨V,k1,X,k0,C⟩:Gl A c s (λk=>o k=6) (λk=>o k=0) w:=h.part 6 om;obtain⟨p,z,H⟩:=C _ _ hg;obtain⟨q0,b0⟩:=p;have H:b0=false:=H;subst H;rw[show s.next+(n-s.next)=n by omega]at z;refine(ai7 n m U a q0 w k1 hn N (by unfold Du;rw[X];simp;omega) (by rw[X];exact z)).mono ?_;rintro e w' ⟨rfl,f1,D⟩;have B:∀k,k<w.heap.size->o k=0->¬o k=6:=λk _ e1 y=>by rw[e1]at y;exact absurd y (by decide)
 refine⟨⟨_,rfl⟩,h.upG 6 om om D ⟨_,f1.wide λ_ _ N=>.inl N,by rw[BG];exact X,by show(s.rg.set _ _).length=_;rw[BG];exact k0,λi x Y=>?_⟩ (Ai.congr 6)⟩;have Y:(s.rg.set (n-s.next) (some l))[i]?=some x:=Y;have J:i<s.rg.length:=by have:=(AP.1 Y).1;rwa[BG]at this
 by_cases Z:i=n-s.next
 ·subst Z;rw[FU J]at Y
  cases AK Y
  refine⟨((a,m,U),true),?_,rfl,hs.keep D B,I⟩;show(V.set (n % V.length) _)[(s.next+(n-s.next)) % c.R]?=_;rw[show s.next+(n-s.next)=n by omega,X,FU (by rw[X];exact Ek _ om)]
 ·rw[FH (λe=>Z e.symm)]at Y;obtain⟨p',j1,j2⟩:=C i x Y;refine⟨p',?_,j2.keep D B⟩;show(V.set (n % V.length) _)[(s.next+i) % c.R]?=_;rw[X,FH]
  ·exact j1
  ·have:=KV (a:=s.next) (n:=c.R) (i:=n-s.next) (j:=i) om om (λe=>Z e.symm)
   rwa[show s.next+(n-s.next)=n by omega]at this
theorem afI(h:AI A c o s w)(Z:s.next<=1000000000)(hg:s.rg[0]?=some none) :Calls ZP 203 #[pointer (some ⟨A.G,0,none⟩)] w λe w'=>e=.returned (.tuple #[slice none 0 0,bool false])/\AE A c o s w w':=by
 obtain⟨H,C,V,B,X⟩:Gl A c s (λk=>o k=6) (λk=>o k=0) w:=h.part 6 om;obtain⟨p,U,Y⟩:=X _ _ hg;obtain⟨I,b0⟩:=p;have Y:b0=false:=Y;subst Y;rw[DQ]at U;refine(abY I false w C Z (by rw[V];exact U)).mono ?_;rintro e w' ⟨rfl,f1,N⟩;have j:∀k,k<w.heap.size->o k=0->¬o k=6:=λk _ e1 J=>by rw[e1]at J;exact absurd J (by decide)
 refine⟨rfl,h.upG 6 om om N ⟨H,f1.wide λ_ _ Z=>.inl Z,V,B,λi x hi=>?_⟩ (Ai.congr 6)⟩;obtain⟨D,y,z⟩:=X i x hi;exact⟨D,y,z.keep N j⟩
theorem afS(h:AI A c o s w)(N:s.next<=1000000000)(l:List AF)(r:List (Option (List AF)))(I:s.rg=some l::r) :Calls ZP 203 #[pointer (some ⟨A.G,0,none⟩)] w λe w'=>∃a Y,e=.returned (.tuple #[slice a l.length Y,bool true])/\SlD (λk=>o k=0) w' a l.length l/\l.length<=Y/\AE A c o {s with rg:=r++[none],next:=s.next+1} w w':=by
 obtain⟨U,B,V,z,C⟩:Gl A c s (λk=>o k=6) (λk=>o k=0) w:=h.part 6 om;obtain⟨p,g1,X⟩:=C 0 (some l) (by rw[I];rfl);obtain⟨⟨a,m,Y⟩,b0⟩:=p;obtain⟨X,g4,H⟩:=X;have H:m<=Y:=H;have X:b0=true:=X;subst X;have hm:l.length=m:=by have:=g4.1.1;rw[GF]at this;have h2:l.length*2=m*2:=this;omega
 have hr:=B.room;have J:r.length+1=c.R:=by rw[I]at z;exact z
 rw[DQ]at g1;refine(abY (a,m,Y) true w B N (by rw[V];exact g1)).mono ?_;rintro e w' ⟨rfl,f1,D⟩;have y:∀k,k<w.heap.size->o k=0->¬o k=6:=λk _ e1 e2=>by rw[e1]at e2;exact absurd e2 (by decide)
 rw[hm];refine⟨a,Y,rfl,g4.keep D y,H,h.upG 6 om om D ⟨_,f1.wide λ_ _ N=>.inl N,by rw[Lc rfl,BG];exact V,by show(r++[none]).length=_;rw[List.length_append];exact J,λi x Z=>?_⟩ (Ai.congr 6)⟩;have Z:(r++[none])[i]?=some x:=Z;have a1:i<r.length+1:=by have:=(AP.1 Z).1;simpa using this
 show ∃p,(if true=true then U.set (s.next % U.length) ((none,0,0),false) else U)[(s.next+1+i) % c.R]?=some p/\_;rw[Lc rfl,V]
 by_cases hl:i<r.length
 ·rw[By hl]at Z;obtain⟨p',j1,j2⟩:=C (i+1) x (by rw[I];exact Z);refine⟨p',?_,j2.keep D y⟩;rw[show s.next+1+i=s.next+(i+1) by omega,FH]
  ·exact j1
  ·have:=KV (a:=s.next) (n:=c.R) (i:=0) (j:=i+1) om om om
   rwa[DQ]at this
 ·have:i=r.length:=by omega
  subst this;rw[MX]at Z
  cases AK Z
  refine⟨((none,0,0),false),?_,rfl⟩;rw[show s.next+1+r.length=s.next+c.R by omega,Nat.add_mod_right,FU (by rw[V];exact Ek _ om)]
end
theorem NS(T:Nat)(a l:Int)(w:World)(h:w.cell? ⟨T,1,none⟩=some (.int .u8 a))(h2:w.cell? ⟨T,2,none⟩=some (.int .u8 l)) :Calls ZP 319 #[pointer (some ⟨T,0,none⟩)] w λe w'=>e=.returned (bool (decide (a=l)))/\Bt w w':=by
 have Z:=AA (λq=>AN w q);have Y:(a==l)=decide (a=l):=by rw[Db];simp
 go_enter func319,ntmps319;go_upto_region 1 with fail
 go_big_quiet (fail)
 go_wp2;go_ret;refine⟨?_,Z.out _⟩
 first|rfl|simp
theorem acV(w:World):Calls ZP 141 #[] w λe w'=>e=.returned (bool true)/\w'=w:=by go_enter func141,ntmps141;go_wp2;go_ret;exact⟨rfl,rfl⟩
section
attribute[local go_sem] IW
theorem agH{w:World}{r:Nat}{f:Nat->Option Value}(h:ES w r f)(k:Nat)(v:Value)(hk:f k=some v) :Sem.run ZP (Instr.lookup 239 (.map (some r)) (.int .u8 (k:Int)) true) w=.ok (.tuple #[v,bool true]) w:=by obtain⟨es,Y,h1,h2⟩:=h;obtain⟨i,Z⟩:=h2 k v hk;simp[Instr.lookup,run_underlying underlying239,MapKept.run_getObj_map h1,MapKept.run_checkKey (k:=.int .u8 (k:Int)) underlying5 (by simp[MapKept.IsKey]),MapKept.run_findKey underlying5 Z,Result.andThen]
structure GL(P T:Nat)(at_ last mp:Nat)(cc cd:Value)(w:World):Prop where
 c0:w.cell? ⟨T,0,none⟩=some (pointer (some ⟨P,0,none⟩))
 c1:w.cell? ⟨T,1,none⟩=some (.int .u8 (at_:Int))
 c2:w.cell? ⟨T,2,none⟩=some (.int .u8 (last:Int))
 c3:w.cell? ⟨T,3,none⟩=some (.map (some mp))
 c4:w.cell? ⟨T,4,none⟩=some cc
 c5:w.cell? ⟨T,5,none⟩=some cd
theorem GL.below{P T at_ Z mp:Nat}{U V:Value}{w w':World}(h:GL P T at_ Z mp U V w)(N:Bt w w'):GL P T at_ Z mp U V w':=by have Y:∀i v,w.cell? ⟨T,i,none⟩=some v->w'.cell? ⟨T,i,none⟩=some v:=λi v X=>(N.cell (p:=⟨T,i,none⟩) (DO w _ X)).trans X;exact⟨Y _ _ h.c0,Y _ _ h.c1,Y _ _ h.c2,Y _ _ h.c3,Y _ _ h.c4,Y _ _ h.c5⟩
theorem aat{fn:Func}{p u:Tmp}{tmps:Array Value}{W:World}{B:Nat}(h:fn.results=#[.cell p 241,.tmp u])(X:tmps.getD p undef=pointer (some ⟨B,0,none⟩)){r0 Z:Value}(hB:W.heap[B]?=some (.cells #[r0,Z] 241 (0,0))) :(results fn tmps).run ZP W=.ok (.tuple #[.agg #[r0,Z],tmps.getD u undef]) W:=by
 have V:(loadVar 241 ⟨B,0,none⟩).run ZP W=.ok (.agg #[r0,Z]) W:=run_loadVar_row W B 241 241 #[r0,Z] (0,0) _ hB underlying241 rfl kr;have Y:tmps[p]?.getD undef=.pointer (some ⟨B,0,none⟩):=by simpa using X
 simp[results,h,Y,asAddr];rw[V];simp[Result.andThen]
def Fl(n:Nat)(a b:Value)(w:World):Prop:=w.heap[n]?=some (.cells #[a,b] 241 (0,0))
theorem Fl.cells{n:Nat}{a b:Value}{w:World}(h:Fl n a b w):w.cell? ⟨n,0,none⟩=some a/\w.cell? ⟨n,1,none⟩=some b/\w.frozen? ⟨n,0,none⟩=false/\w.frozen? ⟨n,1,none⟩=false:=by have h:w.heap[n]?=some (.cells #[a,b] 241 (0,0)):=h;exact⟨by simp[cell?,h],by simp[cell?,h],by simp[frozen?,h],by simp[frozen?,h]⟩
theorem Fl.put{n:Nat}{a b:Value}{w:World}(h:Fl n a b w)(x y:Value):Fl n x y ((w.setCell ⟨n,0,none⟩ x).setCell ⟨n,1,none⟩ y):=AJ (i:=1) (AJ (i:=0) h x) y
theorem Fl.below{n:Nat}{a b:Value}{w w':World}(h:Fl n a b w)(Z:Bt w w'):Fl n a b w':=(Z.block n (AD.1 h).1).trans h
theorem Kx(w:World)(a b:Value):Fl w.heap.size a b (w.alloc (.cells #[a,b] 241)):=AT _ _
theorem abj{P T at_ X mp:Nat}{sc sd:Value}{cn:Bool}{f:Nat->Option Value}{N U:Nat}{bc J:Array Value}(w:World)(hT:GL P T at_ X mp sc sd w)(hP:w.cell? ⟨P,19,none⟩=some (bool cn))(hl:at_≠X)(hm:ES w mp f)(hf:cn=false->f at_=some (.agg #[(.func (.func N) bc #[]),(.func (.func U) J #[])]))(hs:cn=true->sc=(.func (.func N) bc #[])/\sd=(.func (.func U) J #[])) :Calls ZP 323 #[pointer (some ⟨T,0,none⟩)] w λe w'=>e=.returned (.tuple #[.agg #[(.func (.func N) bc #[]),(.func (.func U) J #[])],bool true])/\Bt w w':=by
 obtain⟨W,hW⟩:∃W,W=w.alloc (.cells #[Value.nilFunc,Value.nilFunc] 241):=⟨_,rfl⟩;have hB:Bt w W:=by rw[hW];exact AL _ _
 have hx:Fl w.heap.size .nilFunc .nilFunc W:=by rw[hW];exact Kx _ _ _
 have a6:=NS T at_ X W (hT.below hB).c1 (hT.below hB).c2;have e0:decide ((at_:Int)=(X:Int))=false:=by simp;omega
 rw[e0]at a6;have HO:=AA a6;have HB:=AA hB;have HX:=AA hx;have HT:=AA hT;have HP:=AA hP;have HM:=AA hm;have HF:=AA hf;have HS:=AA hs;clear hm hT hP hB hx a6 e0 hl hf hs;go_enter func323,ntmps323;go_upto_region 1 with fail
 rw[<-hW];clear hW;go_upto_region 3 with(go_at_call 319;refine HO.out.mono ?_;rintro e Z ⟨rfl,a2⟩)
 have z:Bt w Z:=HB.out.trans (a2.mono HB.out.size);have ac:=HT.out.below z;obtain⟨c0,c1,c2,c3,c4,c5⟩:=ac;have a1:=HX.out.below a2;obtain⟨x0,x1,u0,u1⟩:=a1.cells;have cP:Z.cell? ⟨P,19,none⟩=some (bool cn):=(z.cell (p:=⟨P,19,none⟩) (DO w _ HP.out)).trans HP.out;have I:=AA z;have aa:=AA a1;clear a2 z a1
 cases cn with
 |true=>
  obtain⟨rfl,rfl⟩:=HS.out rfl;have HR:=AA (aa.out.put (.func (.func N) bc #[]) (.func (.func U) J #[]));have y:Hid (Bt w ((Z.setCell ⟨w.heap.size,0,none⟩ (.func (.func N) bc #[])).setCell ⟨w.heap.size,1,none⟩ (.func (.func U) J #[]))):=(I.out.setCell (AC _) _).setCell (AC _) _;go_wp2;refine Vf (aat (B:=w.heap.size) rfl rfl HR.out) rfl ?_;exact⟨rfl,y.out⟩
 |false=>
  have ab:=agH (HM.out) at_ _ (HF.out rfl);have ad:Hid (∀V,Bt Z V->ES V mp f):=λV H=>HM.out.keep (Y:=λ_=>False) (.of_same (I.out.trans (H.mono I.out.size))) λh=>h;have ae:=AA (HF.out rfl);have hk:Hid (∀V,Bt Z V->V.cell? ⟨T,3,none⟩=some (.map (some mp))/\V.cell? ⟨T,1,none⟩=some (.int .u8 (at_:Int))):=λV H=>⟨(H.cell (p:=⟨T,3,none⟩) (DO Z _ c3)).trans c3,(H.cell (p:=⟨T,1,none⟩) (DO Z _ c1)).trans c1⟩;clear ab;go_upto_region 5 with fail
  obtain⟨D,hD⟩:∃D,D=Z.drew:=⟨_,rfl⟩;have A:Bt Z D:=by rw[hD];exact AN Z 1
  have s:=Kx D Value.nilFunc Value.nilFunc;obtain⟨y0,y1,z0,z1⟩:=s.cells;have x:=Kx D (Value.func (.func N) bc #[]) (Value.func (.func U) J #[]);obtain⟨p0,p1,_,_⟩:=x.cells;have a7:Bt Z (D.alloc (.cells #[Value.nilFunc,Value.nilFunc] 241)):=A.alloc A.size _;have C:Bt Z (D.alloc (.cells #[Value.func (.func N) bc #[],Value.func (.func U) J #[]] 241)):=A.alloc A.size _;have j:=aa.out.below C;obtain⟨q0,q1,v0,v1⟩:=j.cells;have HR:=AA (j.put (.func (.func N) bc #[]) (.func (.func U) J #[]));have y:Hid (Bt w ((D.alloc (.cells #[Value.func (.func N) bc #[],Value.func (.func U) J #[]] 241)).setCell ⟨w.heap.size,0,none⟩ (.func (.func N) bc #[]) |>.setCell ⟨w.heap.size,1,none⟩ (.func (.func U) J #[]))):=((I.out.trans (C.mono I.out.size)).setCell (AC _) _).setCell (AC _) _;have ag:=AA a7;have af:=AA C;clear s x a7 C j;refine Vb ?_;refine Va (S:=λV=>Bt Z V) kr (AN Z 1) (λhHeld=>?_);rw[<-hD]at hHeld⊢;clear hD;refine tkA 0 ?_;refine tkA 1 ?_;refine tkA 2 ?_;refine tkW 3 (v:=?_) ?_ ?_;rotate_left
  ·intro V H;have q9:=(hk.out V H).1
   first|(go_simp;done)|(go_simp;with_reducible rfl)
  try simp only[pq]
  refine tkA 4 ?_;refine tkA 5 ?_;refine tkA 6 ?_;refine tkW 7 (v:=?_) ?_ ?_;rotate_left
  ·intro V H;have q9:=(hk.out V H).2
   first|(go_simp;done)|(go_simp;with_reducible rfl)
  try simp only[pq]
  refine tkW 8 (v:=?_) ?_ ?_;rotate_left
  ·intro V H;have q9:=agH (ad.out V H) at_ _ ae.out
   first|(go_simp;done)|(go_simp;with_reducible rfl)
  try simp only[pq]
  refine tkA 9 ?_;refine tkA 10 ?_;refine tkA 11 ?_;refine rdy 12 (λK hK=>?_);go_simp;refine hK.out _ _ ag.out (λai=>?_);clear hK K
  try simp only[pq]
  refine rdy 13 (λK hK=>?_);go_simp;refine hK.out _ _ af.out (λah=>?_);clear hK K
  try simp only[pq]
  refine tkA 14 ?_;refine Vd kr ?_ _;refine At ?_;obtain⟨V2,a8⟩:∃V,V=(D.alloc (.cells #[Value.func (.func N) bc #[],Value.func (.func U) J #[]] 241)):=⟨_,rfl⟩;rw[<-a8]at p0 p1 q0 q1 v0 v1 HR y⊢;clear a8 y0 y1 z0 z1;go_wp2;refine Vf (aat (B:=w.heap.size) rfl rfl HR.out) rfl ?_;exact⟨rfl,y.out⟩
end
section
attribute[local go_sem] IW
theorem adH{T X J:Nat}{bc I:Array Value}{b:Bool}(w:World)(A:Calls ZP 323 #[pointer (some ⟨T,0,none⟩)] w λe w'=>e=.returned (.tuple #[.agg #[.func (.func X) bc #[],.func (.func J) I #[]],bool true])/\Bt w w')
  (eg:∀args w,(callFunc X args).run ZP w=.ok (.enter X args) w) (z:∀V,Bt w V->Calls ZP X bc V λe w'=>e=.returned (bool b)/\Bt V w') :
  Calls ZP 321 #[pointer (some ⟨T,0,none⟩)] w λe w'=>e=.returned (bool b)/\Bt w w':=by
 have y:=AA A;have x:=AA z;clear A z;go_enter func321,ntmps321;go_upto_region 2 with(go_at_call 323;refine y.out.mono ?_;rintro e C ⟨rfl,Y⟩)
 obtain⟨W,hW⟩:∃W,W=C.alloc (.cells #[Value.func (.func X) bc #[],Value.func (.func J) I #[]] 241):=⟨_,rfl⟩;have Z:Bt w W:=by rw[hW];exact Y.alloc Y.size _
 have B:Fl C.heap.size (.func (.func X) bc #[]) (.func (.func J) I #[]) W:=by rw[hW];exact Kx _ _ _
 obtain⟨j,s,_,_⟩:=B.cells;have H:=AA (x.out W Z);have N:=AA Z;rw[<-hW];clear hW Y Z B
 go_wp2_with fail
 refine H.out.mono ?_;rintro e h ⟨rfl,U⟩;have D:=AA (N.out.trans (U.mono N.out.size));clear U;go_wp2;go_ret;exact⟨rfl,D.out⟩
theorem afd{T N X:Nat}{bc U:Array Value}{Q:World->Prop}(w:World)(C:Calls ZP 323 #[pointer (some ⟨T,0,none⟩)] w λe w'=>e=.returned (.tuple #[.agg #[.func (.func N) bc #[],.func (.func X) U #[]],bool true])/\Bt w w')
  (eg:∀args w,(callFunc X args).run ZP w=.ok (.enter X args) w) (B:∀V,Bt w V->Calls ZP X U V λe w'=>e=.returned (.tuple #[])/\Q w') :
  Calls ZP 322 #[pointer (some ⟨T,0,none⟩)] w λe w'=>e=.returned (.tuple #[])/\Q w':=by
 have z:=AA C;have y:=AA B;clear C B;go_enter func322,ntmps322;go_upto_region 2 with(go_at_call 323;refine z.out.mono ?_;rintro e I ⟨rfl,Y⟩)
 obtain⟨W,hW⟩:∃W,W=I.alloc (.cells #[Value.func (.func N) bc #[],Value.func (.func X) U #[]] 241):=⟨_,rfl⟩;have Z:Bt w W:=by rw[hW];exact Y.alloc Y.size _
 have H:Fl I.heap.size (.func (.func N) bc #[]) (.func (.func X) U #[]) W:=by rw[hW];exact Kx _ _ _
 obtain⟨j,s,_,_⟩:=H.cells;have J:=AA (y.out W Z);have x:=AA Z;rw[<-hW];clear hW Y Z H
 go_wp2_with fail
 refine J.out.mono ?_;rintro e h ⟨rfl,D⟩;have A:=AA D;clear D;go_wp2
 go_end0
 exact⟨rfl,A.out⟩
end
section
variable {A:PAd}{c:CfM}{s:PlM}{o:Nat->Nat}{w:World}
theorem AI.cW(h:AI A c o s w){i:Nat}{x:WkM}(Y:s.wk[i]?=some x)(X:i<900):∃p Z,w.heap[A.Wk i]?=some (.cells (wkV A i x p Z) 249 (0,0))/\PcD (λk=>o k=0) w p x.blk/\CO (λk=>o k=i+11∨o k=0) w 116 2 Z x.hits.length (AV x.hits):=by have h0:CP A s (λk=>o k=i+11) (λk=>o k=0) w i:=h.part (i+11) om;unfold CP at h0;rw[Y]at h0;obtain⟨p,Z,h1,h2,h3,h4,h5,h6⟩:=h0;exact⟨p,Z,h1,h3,h4⟩
theorem AI.cM(h:AI A c o s w):∃a m Z,w.heap[A.M]?=some (.cells (mgV A s.mph (slice a m Z)) 251 (0,0))/\SlD (λk=>o k=0) w a m s.left/\m<=Z:=let⟨a,m,Z,h1,_,h3,h4⟩:=h.part 9 om;⟨a,m,Z,h1,h3,h4⟩
theorem AI.cE(h:AI A c o s w):w.heap[A.E]?=some (.cells (emV A s.eph) 253 (0,0)):=(h.part 10 om).1
theorem AI.bel(h:AI A c o s w){w':World}(Z:Bt w w'):AI A c (EW o w.heap.size w'.heap.size 0) s w':=h.grow 0 om Z
end
theorem abw{A:PAd}{c:CfM}{s:PlM}{o:Nat->Nat}(w:World)(h:AI A c o s w)(U:s.number<=1000000000)(V:s.next<=1000000000) :Calls ZP 139 #[pointer (some ⟨A.R,0,none⟩)] w λe w'=>e=.returned (bool (Du s.next c.R s.number))/\Bt w w':=by
 obtain⟨C,X⟩:=h.cP;obtain⟨B,N,_⟩:=h.cR;have D:∀d os,Calls ZP 189 #[pointer (some ⟨A.G,0,none⟩),int i64 (s.number:Int)] (grow (redrawn w d) os) λe w'=>e=.returned (bool (Du s.next c.R s.number))/\RowKit.Below (grow (redrawn w d) os).heap.size (grow (redrawn w d) os) w':=λd os=>apu (h.bel (Kf w d os)) s.number U V;have z:∀d os,(grow (redrawn w d) os).cell? ⟨A.R,0,none⟩=some (pointer (some ⟨A.P,0,none⟩)):=Vc (by simp[cell?,N,rdV,EO]);have I:∀d os,(grow (redrawn w d) os).cell? ⟨A.P,13,none⟩=some (pointer (some ⟨A.G,0,none⟩)):=Vc (by simp[cell?,X,EK]);have J:∀d os,(grow (redrawn w d) os).cell? ⟨A.P,16,none⟩=some (int i64 (s.number:Int)):=Vc (by simp[cell?,X,EK]);clear h X N U V;go_enter func139,ntmps139;go_upto_region 1 with fail
 refine wp_region_quiet_below mixed kr ?_
 repeat (go_big_quiet_step (exact Eu (D _ _)))
 refine wpQuiet_nil ?_;rintro _ ⟨⟨H,Z⟩,rfl⟩;have Y:=AA (Kf w H Z);go_wp2;go_ret;exact⟨rfl,Y.out⟩
theorem afJ{A:PAd}{c:CfM}{s:PlM}{o:Nat->Nat}(w:World)(h:AI A c o s w) :Calls ZP 143 #[pointer (some ⟨A.R,0,none⟩)] w λe w'=>e=.returned (bool (decide (s.q.length<c.Q)))/\Bt w w':=by
 obtain⟨D,V⟩:=h.cP;obtain⟨C,X,_⟩:=h.cR;have N:=AA (aoN h);have B:w.cell? ⟨A.R,0,none⟩=some (pointer (some ⟨A.P,0,none⟩)):=by simp[cell?,X,rdV,EO]
 have J:w.cell? ⟨A.P,12,none⟩=some (pointer (some ⟨A.Q,0,none⟩)):=by simp[cell?,V,EK]
 have U:decide (s.q.length<c.Q)=decide (((c.Q-s.q.length:Nat):Int) > 0):=by rw[Db];simp;omega
 rw[U];obtain⟨m,Z⟩:∃m,c.Q-s.q.length=m:=⟨_,rfl⟩;rw[Z]at N⊢;clear h V X U Z;go_enter func143,ntmps143
 go_wp2_with (go_at_call 194;refine N.out.mono ?_;rintro e H ⟨rfl,Y⟩;have I:=AA Y;clear Y)
 go_ret;refine⟨?_,I.out⟩
 first|rfl|(simp;done)
theorem aam{A:PAd}{c:CfM}{s:PlM}{o:Nat->Nat}{i:Nat}{x:WkM}(w:World)(h:AI A c o s w)(z:s.wk[i]?=some x)(hi:i<900) :Calls ZP 147 #[pointer (some ⟨A.Wk i,0,none⟩)] w λe w'=>e=.returned (bool (Ep s))/\Bt w w':=by
 obtain⟨tv,H⟩:=h.cP;obtain⟨p,hv,hW,_⟩:=h.cW z hi;obtain⟨T,y⟩:∃T,A.Wk i=T:=⟨_,rfl⟩;rw[y]at hW⊢;have D:=AA (apa h);have HC:Hid (∀V,Bt w V->Calls ZP 71 #[pointer (some ⟨A.Q,0,none⟩)] V λe w'=>e=.returned (bool s.shut)/\Bt V w'):=λV I=>alC (h.bel I);have hk:∀V,Bt w V->V.cell? ⟨T,0,none⟩=some (pointer (some ⟨A.P,0,none⟩))/\V.cell? ⟨A.P,12,none⟩=some (pointer (some ⟨A.Q,0,none⟩)):=λV I=>by have X:=(I.block T (AD.1 hW).1).trans hW;have U:=(I.block A.P (AD.1 H).1).trans H;exact⟨by simp[cell?,X,wkV,EO],by simp[cell?,U,EK]⟩
 obtain⟨k0,a1⟩:=hk w (AH _ _);have HK:=AA hk
 cases Y:s.q with
 |nil=>
  have X:Ep s=s.shut:=by unfold Ep;rw[Y];rfl
  have U:s.q.length=0:=by rw[Y];rfl
  rw[X];rw[U]at D;obtain⟨b,Z⟩:∃b,s.shut=b:=⟨_,rfl⟩;rw[Z]at HC⊢;clear h H hW X U Z Y hk y z;go_enter func147,ntmps147
  go_wp2_with (first|(go_at_call 198;refine D.out.mono ?_;rintro e C ⟨rfl,Z⟩;have J:=AA Z;obtain⟨j0,B⟩:=HK.out C Z;clear Z)|(go_at_call 71;refine(HC.out _ J.out).mono ?_;rintro e w2 ⟨rfl,N⟩;have j:=AA N;clear N))
  go_ret;exact⟨rfl,J.out.trans (j.out.mono J.out.size)⟩
 |cons b q=>
  have X:Ep s=true:=by unfold Ep;rw[Y];rfl
  have U:decide ((s.q.length:Int) > 0)=true:=by rw[Y];simp
  have e3:decide (0<s.q.length)=true:=by rw[Y];simp
  rw[X];obtain⟨m,hm⟩:∃m,s.q.length=m:=⟨_,rfl⟩;rw[hm]at D U e3;clear h H hW X hm Y hk y z;go_enter func147,ntmps147
  go_wp2_with (first|(go_at_call 198;refine D.out.mono ?_;rintro e C ⟨rfl,Z⟩;have J:=AA Z;obtain⟨j0,B⟩:=HK.out C Z;clear Z))
  go_ret;exact⟨rfl,J.out⟩
theorem ae8{A:PAd}{c:CfM}{s:PlM}{o:Nat->Nat}{i:Nat}{x:WkM}(w:World)(h:AI A c o s w)(Y:s.wk[i]?=some x)(J:i<900) :Calls ZP 151 #[pointer (some ⟨A.Wk i,0,none⟩)] w λe w'=>e=.returned (bool (if x.ph=1 then Ep s else true))/\Bt w w':=by
 have V:=AA (aam w h Y J);obtain⟨p,y,hW,_⟩:=h.cW Y J;obtain⟨T,X⟩:∃T,A.Wk i=T:=⟨_,rfl⟩;rw[X]at hW V⊢;have U:w.cell? ⟨T,1,none⟩=some (.int .u8 (x.ph:Int)):=by simp[cell?,hW,wkV,EO]
 by_cases h1:x.ph=1
 ·rw[Lc h1];rw[h1]at U;obtain⟨b,Z⟩:∃b,Ep s=b:=⟨_,rfl⟩;rw[Z]at V⊢;clear h hW Z X Y h1;go_enter func151,ntmps151
  go_wp2_with (go_at_call 147;refine V.out.mono ?_;rintro e z ⟨rfl,Z⟩;have B:=AA Z;clear Z)
  go_ret;exact⟨rfl,B.out⟩
 ·rw[Lb h1];have C:((x.ph:Int) != 1)=true:=by simp;omega
  have D:decide ((x.ph:Int)≠1)=true:=by simp;omega
  have H:((x.ph:Int)==1)=false:=by simp;omega
  have I:decide ((x.ph:Int)=1)=false:=by simp;omega
  obtain⟨m,N⟩:∃m,x.ph=m:=⟨_,rfl⟩;rw[N]at U C D H I;clear h hW X Y h1 N;go_enter func151,ntmps151;go_wp2;go_ret;exact⟨rfl,AH _ _⟩
theorem aej{A:PAd}{c:CfM}{s:PlM}{o:Nat->Nat}(w:World)(h:AI A c o s w) :Calls ZP 155 #[pointer (some ⟨A.M,0,none⟩)] w λe w'=>e=.returned (bool (decide (s.out.length<c.O)))/\Bt w w':=by
 obtain⟨D,V⟩:=h.cP;obtain⟨a0,C,c0,X,_⟩:=h.cM;have N:=AA (aoq h);have B:w.cell? ⟨A.M,0,none⟩=some (pointer (some ⟨A.P,0,none⟩)):=by simp[cell?,X,mgV,EO]
 have J:w.cell? ⟨A.P,14,none⟩=some (pointer (some ⟨A.O,0,none⟩)):=by simp[cell?,V,EK]
 have U:decide (s.out.length<c.O)=decide (((c.O-s.out.length:Nat):Int) > 0):=by rw[Db];simp;omega
 rw[U];obtain⟨m,Z⟩:∃m,c.O-s.out.length=m:=⟨_,rfl⟩;rw[Z]at N⊢;clear h V X U Z;go_enter func155,ntmps155
 go_wp2_with (go_at_call 205;refine N.out.mono ?_;rintro e H ⟨rfl,Y⟩;have I:=AA Y;clear Y)
 go_ret;refine⟨?_,I.out⟩
 first|rfl|(simp;done)
theorem aaj{A:PAd}{c:CfM}{s:PlM}{o:Nat->Nat}(w:World)(h:AI A c o s w) :Calls ZP 158 #[pointer (some ⟨A.E,0,none⟩)] w λe w'=>e=.returned (bool (IV s))/\Bt w w':=by
 obtain⟨tv,H⟩:=h.cP;have hW:=h.cE;obtain⟨T,z⟩:∃T,A.E=T:=⟨_,rfl⟩;rw[z]at hW⊢;have D:=AA (ap6 h);have HC:Hid (∀V,Bt w V->Calls ZP 72 #[pointer (some ⟨A.O,0,none⟩)] V λe w'=>e=.returned (bool s.ended)/\Bt V w'):=λV I=>akY (h.bel I);have hk:∀V,Bt w V->V.cell? ⟨T,0,none⟩=some (pointer (some ⟨A.P,0,none⟩))/\V.cell? ⟨A.P,14,none⟩=some (pointer (some ⟨A.O,0,none⟩)):=λV I=>by have X:=(I.block T (AD.1 hW).1).trans hW;have U:=(I.block A.P (AD.1 H).1).trans H;exact⟨by simp[cell?,X,emV,EO],by simp[cell?,U,EK]⟩
 obtain⟨k0,a1⟩:=hk w (AH _ _);have j:=AA hk
 cases Y:s.out with
 |nil=>
  have X:IV s=s.ended:=by unfold IV;rw[Y];rfl
  have U:s.out.length=0:=by rw[Y];rfl
  rw[X];rw[U]at D;obtain⟨b,Z⟩:∃b,s.ended=b:=⟨_,rfl⟩;rw[Z]at HC⊢;clear h H hW X U Z Y hk z;go_enter func158,ntmps158
  go_wp2_with (first|(go_at_call 68;refine D.out.mono ?_;rintro e C ⟨rfl,Z⟩;have J:=AA Z;obtain⟨j0,B⟩:=j.out C Z;clear Z)|(go_at_call 72;refine(HC.out _ J.out).mono ?_;rintro e w2 ⟨rfl,N⟩;have y:=AA N;clear N))
  go_ret;exact⟨rfl,J.out.trans (y.out.mono J.out.size)⟩
 |cons b q=>
  have X:IV s=true:=by unfold IV;rw[Y];rfl
  have U:decide ((s.out.length:Int) > 0)=true:=by rw[Y];simp
  have e3:decide (0<s.out.length)=true:=by rw[Y];simp
  rw[X];obtain⟨m,x⟩:∃m,s.out.length=m:=⟨_,rfl⟩;rw[x]at D U e3;clear h H hW X x Y hk z;go_enter func158,ntmps158
  go_wp2_with (first|(go_at_call 68;refine D.out.mono ?_;rintro e C ⟨rfl,Z⟩;have J:=AA Z;obtain⟨j0,B⟩:=j.out C Z;clear Z))
  go_ret;exact⟨rfl,J.out⟩
theorem abm{A:PAd}{c:CfM}{s:PlM}{o:Nat->Nat}(w W:World)(h:AE A c o s w W)(I:s.fr.length<=100000) :Calls ZP 193 #[pointer (some ⟨A.R,0,none⟩)] W λe w'=>e=.returned (.tuple #[])/\AE A c o (backR s) w w':=by
 obtain⟨H,Z⟩:∃b,s.rd.buf=b:=⟨_,rfl⟩;have J:=h.ceR 0 (pointer (some ⟨A.P,0,none⟩)) λ_=>rfl;have D:=h.ceR 7 (int i64 (H:Int)) λ_=>by rw[<-Z];rfl
 have X:=h.ceP 11 (pointer (some ⟨A.Bb,0,none⟩)) λ_=>rfl;have N:=AA Z;have B:=AA h;have C:=AA I;clear h Z I;go_enter func193,ntmps193;go_upto_region 0 with fail
 refine Hw 12 mixed kr ?_;dsimp only[List.take_succ_cons,List.take_zero,List.drop_succ_cons,List.drop_zero]
 repeat (go_big_quiet_step (fail))
 refine wpQuiet_nil ?_;rintro _ ⟨nq,rfl⟩;have U:=AA (B.out.bel (AN W nq));clear J D X
 go_wp2_with fail
 refine(U.out.lift λx h1 z=>aoc h1 H C.out).mono ?_;rintro e y ⟨⟨v,rfl⟩,Y⟩;have J:=Y.frR 6;have j:=Y.ceR 6 (bool s.rd.holds) λ_=>rfl;have V:=AA (Y.setR 6 (bool false) {s.rd with holds:=false} (λ_=>rfl) rfl);clear Y;go_wp2
 go_end0
 refine⟨rfl,?_⟩;have:=V.out;rw[<-N.out]at this;exact this
theorem aau{A:PAd}{c:CfM}{s:PlM}{o:Nat->Nat}(w W:World)(h:AE A c o s w W) :Calls ZP 145 #[pointer (some ⟨A.R,0,none⟩)] W λe w'=>e=.returned (.tuple #[])/\AE A c o (shutR s) w w':=by
 have V:=h.ceR 0 (pointer (some ⟨A.P,0,none⟩)) λ_=>rfl;have Y:=h.ceP 12 (pointer (some ⟨A.Q,0,none⟩)) λ_=>rfl;have U:=AA h;clear h;go_enter func145,ntmps145;go_upto_region 1 with(go_at_call 197;refine(U.out.lift λI h1 N=>anD h1).mono ?_;rintro e J ⟨⟨v,rfl⟩,Z⟩)
 have D:=Z.frR 1;have H:=Z.ceR 1 (.int .u8 (s.rd.ph:Int)) λ_=>rfl;have X:=AA (Z.setR 1 (.int .u8 5) {s.rd with ph:=5} (λ_=>rfl) rfl);clear Z V Y;go_wp2
 go_end0
 exact⟨rfl,X.out⟩
theorem afD{A:PAd}{c:CfM}{s:PlM}{o:Nat->Nat}(w W:World)(h:AE A c o s w W)(U:s.fr.length<=100000) :Calls ZP 146 #[pointer (some ⟨A.R,0,none⟩)] W λe w'=>e=.returned (.tuple #[])/\AE A c o (stopR s) w w':=by
 have J:=AA h;have D:=AA U;unfold stopR
 cases V:s.rd.holds with
 |true=>
  have N:=h.ceR 6 (bool true) λ_=>by rw[<-V];rfl
  rw[Lc rfl];clear h U V;go_enter func146,ntmps146;go_upto_region 2 with(go_at_call 193;refine(abm w W J.out D.out).mono ?_;rintro e H ⟨rfl,Z⟩)
  have X:=AA (aau w H Z);clear Z N
  go_wp2_with (go_at_call 145;refine X.out.mono ?_;rintro e I ⟨rfl,Z⟩;have Y:=AA Z;clear Z)
  go_end0
  exact⟨rfl,Y.out⟩
 |false=>
  have N:=h.ceR 6 (bool false) λ_=>by rw[<-V];rfl
  rw[Lb sm];clear h U V;have X:=AA (aau w W J.out);go_enter func146,ntmps146
  go_wp2_with (go_at_call 145;refine X.out.mono ?_;rintro e I ⟨rfl,Z⟩;have Y:=AA Z;clear Z)
  go_end0
  exact⟨rfl,Y.out⟩
theorem afB{A:PAd}{c:CfM}{s:PlM}{o:Nat->Nat}(w W:World)(h:AE A c o s w W)(n:Nat)(l:List Nat)(hf:s.fr=l++[n])(hl:s.fr.length<=100000)(hr:∀x∈s.fr,x<s.us.length)(hd:s.ds.length=s.us.length)(ht:s.rd.tail.length<=c.K+c.wm)(a6:c.K+c.wm<=100000) :Calls ZP 140 #[pointer (some ⟨A.R,0,none⟩)] W λe w'=>e=.returned (.tuple #[])/\AE A c o (takeR s) w w':=by
 have k0:=h.ceR 0 (pointer (some ⟨A.P,0,none⟩)) λ_=>rfl;have ag:=h.ceP 11 (pointer (some ⟨A.Bb,0,none⟩)) λ_=>rfl;have a7:n<s.us.length:=hr n (by rw[hf];simp);have e1:s.fr.getLast?.getD 0=n:=by rw[hf];simp
 have e2:s.fr.dropLast=l:=by rw[hf];simp
 have e3:(s.us.set n true)[n]?=some true:=by rw[FU a7]
 have e4:(s.ds.set n [])[n]?=some []:=by rw[FU om]
 have ah:=h.neRP;have HE:=AA (Lq (Lq e1 e2) (Lq e3 e4));have HH:=AA (Lq hf (Lq hl hr));have HG:=AA h;have HL:=AA (Lq ht a6);clear h hf hl hr hd ht a6 a7 e1 e2 e3 e4;go_enter func140,ntmps140;go_upto_region 2 with(go_at_call 190;refine(HG.out.lift λo1 h1 z1=>apd h1 n l HH.out.1 HH.out.2.1 HH.out.2.2).mono ?_;rintro e w1 ⟨rfl,C⟩;have j0:=C.frR 7;have j1:=C.ceR 7 (int i64 (s.rd.buf:Int)) λ_=>rfl;have j2:=C.frR 6;have j3:=C.ceR 6 (bool s.rd.holds) λ_=>rfl;have J:=AA ((C.setR 7 (int i64 (n:Int)) {s.rd with buf:=n} (λ_=>rfl) rfl).setR 6 (bool true) {s.rd with buf:=n,holds:=true} (λ_=>rfl) rfl);clear C)
 obtain⟨W2,aa⟩:∃V,V=(w1.setCell ⟨A.R,7,none⟩ (int i64 (n:Int))).setCell ⟨A.R,6,none⟩ (bool true):=⟨_,rfl⟩;rw[<-aa]at J⊢;clear aa j0 j1 j2 j3 k0 ag;obtain⟨at_,ct,Y,a8,ai⟩:=J.out.tail;have m7:=J.out.ceR 7 (int i64 (n:Int)) λ_=>rfl;have af:=J.out.ceP 11 (pointer (some ⟨A.Bb,0,none⟩)) λ_=>rfl;obtain⟨X,H⟩:∃m,s.rd.tail.length=m:=⟨_,rfl⟩;rw[show(({s with fr:=l,us:=s.us.set n true,ds:=s.ds.set n [],rd:={s.rd with buf:=n,holds:=true}}:PlM).rd.tail.length)=X from H]at Y;have aq:Hid (Bys W2 at_ X s.rd.tail):=by have h9:Bys W2 at_ s.rd.tail.length s.rd.tail:=a8;rw[H]at h9;exact h9
 have a2:=AA H;clear a8 ai H;refine Hw 12 mixed kr ?_;dsimp only[List.take_succ_cons,List.take_zero,List.drop_succ_cons,List.drop_zero]
 repeat (go_big_quiet_step (fail))
 refine wpQuiet_nil ?_;rintro _ ⟨nq,rfl⟩;have ap:=AA (J.out.bel (AN W2 nq));have ae:=AA (aq.out.below (AN W2 nq));have z:([]:List Int).length+X<=c.K+c.wm:=by have h1:=HL.out.1;have h2:=a2.out;simp only[Bw];omega
 have HC:=AA (ap.out.lift λo1 h1 z1=>aod h1 n X ct at_ s.rd.tail [] ae.out HE.out.2.1 HE.out.2.2 z HL.out.2);clear m7 Y af z
 go_wp2_with fail
 refine HC.out.mono ?_;rintro e w3 ⟨rfl,C⟩;have N:=AA (C.bel (AN w3 1));obtain⟨a1,j,Y,_,_⟩:=N.out.tail;rw[show(({s with fr:=l,us:=s.us.set n true,ds:=(s.ds.set n []).set n ([]++s.rd.tail),rd:={s.rd with buf:=n,holds:=true}}:PlM).rd.tail.length)=X from a2.out]at Y;have I:=N.out.ceP 17 (int i64 (s.read:Int)) λ_=>rfl;obtain⟨Z,U⟩:∃m,s.read=m:=⟨_,rfl⟩;rw[U]at I;have f8:=N.out.frR 8;have c8:=N.out.ceR 8 (int i64 (s.rd.warm:Int)) λ_=>rfl;have H8:=N.out.setR 8 (int i64 (X:Int)) {s.rd with buf:=n,holds:=true,warm:=X} (λ_=>rfl) rfl;have f9:=H8.frR 9;have c9:=H8.ceR 9 (int i64 (s.rd.own:Int)) λ_=>rfl;have H9:=H8.setR 9 (int i64 0) {s.rd with buf:=n,holds:=true,warm:=X,own:=0} (λ_=>rfl) rfl;have ak:=H9.frR 10;have al:=H9.ceR 10 (int i64 (s.rd.ahead:Int)) λ_=>rfl;have B:=H9.setR 10 (int i64 (Z:Int)) {s.rd with buf:=n,holds:=true,warm:=X,own:=0,ahead:=Z} (λ_=>rfl) rfl;have f1:=B.frR 1;have c1:=B.ceR 1 (.int .u8 (s.rd.ph:Int)) λ_=>rfl;have H1:=B.setR 1 (.int .u8 2) {s.rd with buf:=n,holds:=true,warm:=X,own:=0,ahead:=Z,ph:=2} (λ_=>rfl) rfl;obtain⟨D,hD⟩:∃D,D=w3.drew:=⟨_,rfl⟩;have ab:w3.drewN 1=D:=by rw[hD];rfl
 rw[ab]at Y I f8 c8 f9 c9 ak al f1 c1 H1;have hS:∀(i:Nat)(v:Value),i≠11->∀V:World,(V.cell? ⟨A.R,11,none⟩=some (slice a1 X j)/\V.cell? ⟨A.P,17,none⟩=some (int i64 (Z:Int)))->((V.setCell ⟨A.R,i,none⟩ v).cell? ⟨A.R,11,none⟩=some (slice a1 X j)/\(V.setCell ⟨A.R,i,none⟩ v).cell? ⟨A.P,17,none⟩=some (int i64 (Z:Int))):=λi v hi V hV=>by
  refine⟨?_,?_⟩
  ·rw[World.cell?_setCell_other V _ _ _ (λe=>hi (Addr.mk.inj e).2.1)];exact hV.1
  ·rw[OG V _ _ _ ah];exact hV.2
 have HS:=AA hS;have ao:=AA H1;have am:=AA U;clear C H8 H9 B H1 hS ab U;go_upto_region 3 with fail
 refine Vb ?_;refine Va (S:=λV=>V.cell? ⟨A.R,11,none⟩=some (slice a1 X j)/\V.cell? ⟨A.P,17,none⟩=some (int i64 (Z:Int))) kr (by rw[<-hD];exact⟨Y,I⟩) (λhHeld=>?_);rw[<-hD]at hHeld⊢;clear hD;refine tkA 0 ?_;refine tkA 1 ?_;refine tkA 2 ?_;refine tkA 3 ?_;refine tkA 4 ?_;refine tkA 5 ?_;refine tkW 6 (v:=?_) ?_ ?_;rotate_left
 ·intro V hV;obtain⟨q1,q2⟩:=hV
  first|(go_simp;done)|(go_simp;with_reducible rfl)
 try simp only[pq]
 refine tkA 7 ?_;refine tkA 8 ?_;refine tkA 9 ?_;refine tkA 10 ?_;refine tkW 11 (v:=?_) ?_ ?_;rotate_left
 ·intro V hV;obtain⟨q1,q2⟩:=hV
  first|(go_simp;done)|(go_simp;with_reducible rfl)
 try simp only[pq]
 refine tkA 12 ?_;refine tkA 13 ?_;refine rdy 14 (λK y=>?_);go_simp;refine y.out _ _ (HS.out 8 _ (by decide) _ hHeld) (λad=>?_);clear y K
 try simp only[pq]
 refine tkA 15 ?_;refine tkA 16 ?_;refine rdy 17 (λK y=>?_);go_simp;refine y.out _ _ (HS.out 9 _ (by decide) _ ad) (λac=>?_);clear y K
 try simp only[pq]
 refine tkA 18 ?_;refine tkA 19 ?_;refine rdy 20 (λK y=>?_);go_simp;refine y.out _ _ (HS.out 10 _ (by decide) _ ac) (λaj=>?_);clear y K
 try simp only[pq]
 refine Vd kr ?_ _;refine At ?_;clear ad ac aj hHeld Y I;go_wp2
 go_end0
 refine⟨rfl,?_⟩;have e1:=HE.out.1.1;have e2:=HE.out.1.2;have e3:takeR s={s with fr:=l,us:=s.us.set n true,ds:=(s.ds.set n []).set n ([]++s.rd.tail),rd:={s.rd with buf:=n,holds:=true,warm:=X,own:=0,ahead:=Z,ph:=2}}:=by unfold takeR;rw[<-a2.out,<-am.out];simp only[e1,e2,Av]
 rw[e3];exact ao.out
end Go.Proofs.YtaamacoicojhnaaGreat
