/- Proofs over the given program, part 12. -/
import Derived.Test.YtaamacoicojhnaaGreatZR11
set_option linter.unusedVariables false
set_option linter.unusedSimpArgs false
set_option maxRecDepth 100000
set_option maxHeartbeats 16000000
open Go.Proofs.Tryz
open Go.Proofs.Tryz renaming prog→ZP
open Go.World(cell? frozen?)
open Go.Value(int slice pointer bool)
open Go.IntKind(i64)
namespace Go.Proofs.YtaamacoicojhnaaGreat
open Go.RowKit Go.Sort
theorem aj4{us:List Bool}{k:Nat}(h:us[k]?=some true):Cr us (k:Int)=true:=by unfold Cr;rw[Aa,DZ,h];simp
theorem ahc{X:Nat->Prop}{B U D size:Nat}{fr:List Int}{us:List Bool}{ds:La}(k n c:Nat)(b:Option Addr)(bs H:List Int)(w:World)(h:DM X B U D size fr us ds w)(hB:Bys w b n bs)(hk:us[k]?=some true)(hx:ds[k]?=some H)(ac:H.length+n<=size)(ai:size<=100000) :Calls ZP 191 #[pointer (some ⟨B,0,none⟩),int i64 (k:Int),slice b n c] w λe w'=>e=.returned (bool true)/\Chg X w w'/\DM (λk=>X k∨w.heap.size<=k) B U D size fr us (ds.set k (H++bs)) w':=by
 obtain⟨am,fv,dv,h⟩:=h;have ab:=(AP.1 hk).1;obtain⟨v,C⟩:∃v,dv[k]?=some v:=⟨_,Ar (by rw[h.dl.1];exact ab)⟩;obtain⟨r1,r2⟩:=h.rows k v H C hx;obtain⟨a,cc,rfl,_,_⟩:=SlK.own r1.1;obtain⟨m,N⟩:∃m,H.length=m:=⟨_,rfl⟩;obtain⟨L,hL⟩:∃L,us.length=L:=⟨_,rfl⟩;have af:Hid (∀d os,Calls ZP 233 #[pointer (some ⟨B,0,none⟩),int i64 (k:Int)] (grow (redrawn w d) os) λe w'=>e=.returned (bool true)/\RowKit.Below (grow (redrawn w d) os).heap.size (grow (redrawn w d) os) w'):=λd os=>by
  have:=aaR (k:Int) _ (h.keep (Y:=λ_=>False) (.of_same (Kf w d os)) λ_ _ _ h=>h)
  rwa[aj4 hk]at this
 have hh:=af.out;have k1:∀d os,(grow (redrawn w d) os).cell? ⟨B,1,none⟩=some (int i64 (size:Int)):=Vc (by simp[cell?,h.box]);have k3:∀d os,(grow (redrawn w d) os).cell? ⟨B,3,none⟩=some (slice (some ⟨D,0,none⟩) L L):=Vc (by simp[cell?,h.box,hL]);have kD:∀d os,(grow (redrawn w d) os).cell? ⟨D,k,none⟩=some (slice a m cc):=Vc (by rw[N]at C;simp[cell?,h.data];exact C);have i0:(0:Int)<=(k:Int):=by omega
 have i1:(k:Int)<(L:Int):=by omega
 have e1:IntKind.i64.wrap ((size:Int)-(m:Int))=(size:Int)-(m:Int):=by rw[BK];omega
 have e2:decide ((n:Int) > (size:Int)-(m:Int))=false:=by simp;omega
 have aj:decide ((size:Int)-(m:Int)<(n:Int))=false:=by simp;omega
 have HH:=AA h;have HV:=AA C;have HX:=AA hx;have al:=AA hB;have HM:=AA N;have ae:=AA hL;have ao:m+n<=100000:=by omega
 clear h hB hk hx ac ai C N hL ab r1 r2 af;go_enter func191,ntmps191;go_upto_region 1 with fail
 refine wp_region_quiet_below mixed kr ?_
 repeat (go_big_quiet_step (exact Eu (hh _ _)))
 refine wpQuiet_nil ?_;rintro _ ⟨⟨dq,a6⟩,rfl⟩;have I:=Kf w dq a6;obtain⟨V,hV⟩:∃V,V=grow (redrawn w dq) a6:=⟨_,rfl⟩;rw[<-hV]at I⊢;clear hV hh k1 k3 kD e1 e2 aj;go_upto_region 3 with fail
 obtain⟨W,hW⟩:∃W,W=V.drew:=⟨_,rfl⟩;have J:Bt w W:=I.trans (by rw[hW];exact(AN V 1).mono I.size);have hS:=HH.out.keep (Y:=λ_=>False) (.of_same J) λ_ _ _ h=>h;have hB:=al.out.below J;have c3:V.cell? ⟨B,3,none⟩=some (slice (some ⟨D,0,none⟩) L L):=by have:=(HH.out.keep (Y:=λ_=>False) (.of_same I) λ_ _ _ h=>h).box;have hl:=ae.out;simp[cell?,this,hl]
 have cD:W.cell? ⟨D,k,none⟩=some (slice a m cc):=by have N:=HM.out;have C:=HV.out;rw[N]at C;simp[cell?,hS.data];exact C
 obtain⟨r1,r2⟩:=hS.rows k _ H HV.out HX.out;obtain⟨ag,hi,aa,a8,a7⟩:=Ve Gs;have Z:=r1.1;have N:=HM.out;rw[N]at Z;obtain⟨v1,W1,hr,j,a1,A⟩:=Gu (P:=ZP) W 0 32 32 5 ag (.int .u8 0) 1 1 underlying32 hi aa a8 a7 rfl (by decide) (.slice a m cc) m (H.map (Value.int .u8)) Z b n c (bs.map (Value.int .u8)) (Jz hB.1) (λu hu=>by obtain⟨x,_,rfl⟩:=Be.1 hu;rfl) (by unfold maxLen;omega) om (AR _);obtain⟨a2,c2,ah,_,_⟩:=SlK.own j;subst ah;have s:=HV.out;rw[N]at s;obtain⟨q1,q2,q3,u,q4⟩:=hS.setD (v:=.slice a m cc) (v':=.slice a2 (m+n) c2) (xs':=H++bs) (V:=W1) k s (by rw[List.length_append,N,hB.1.1,Aj];exact j) ((Chg.refl _ _).grown a1 λg e _=>e) (λg e=>by
  rcases A with e2|e2
  ·rw[e2]at e;exact .inl e
  ·rw[e2]at e;exact .inr (Gq (AK e)))
 obtain⟨l1,l2,l3⟩:=hS.labs;have ad:=(AD.1 hS.box).1;have s1:W1.cell? ⟨B,3,none⟩=some (slice (some ⟨D,0,none⟩) L L):=by
  have e:W1.heap[B]?=W.heap[B]?:=a1.block B ad λe=>by have:=r2 B (by rw[N];exact e.symm);omega
  have hl:=ae.out;simp[cell?,e,hS.box,hl]
 have s2:(W1.setCell ⟨D,k,none⟩ (slice a2 (m+n) c2)).cell? ⟨B,3,none⟩=some (slice (some ⟨D,0,none⟩) L L):=by have e:(W1.setCell ⟨D,k,none⟩ (slice a2 (m+n) c2)).heap[B]?=W1.heap[B]?:=AQ W1 ⟨D,k,none⟩ _ B (λe=>by have e:B=D:=e;rw[e,l3]at l1;omega);rw[BC (a:=⟨B,3,none⟩) e];exact s1
 have HR:=AA hr;have y:=AA (Lq s1 s2);have Q1:=AA q1;have Q2:=AA ((Chg.of_same J).then q2);have ak:=AA J.size;clear hS hB r1 r2 hi aa a8 a7 Z N hr j a1 A s q1 q2 l1 l2 l3 ad s1 s2 J I;refine Vb ?_;refine Va (S:=λY=>Y.cell? ⟨B,3,none⟩=some (slice (some ⟨D,0,none⟩) L L)) kr c3 (λhHeld=>?_);rw[<-hW]at hHeld⊢;clear hW;refine tkA 0 ?_;refine tkA 1 ?_;refine tkA 2 ?_;refine tkW 3 (v:=?_) ?_ ?_;rotate_left
 ·intro V hV;have q0:V.cell? ⟨B,3,none⟩=some (slice (some ⟨D,0,none⟩) L L):=hV
  first|(go_simp;done)|(go_simp;with_reducible rfl)
 try simp only[pq]
 refine tkA 4 ?_;refine tkA 5 ?_;refine tkA 6 ?_;refine tkA 7 ?_;refine tkW 8 (v:=?_) ?_ ?_;rotate_left
 ·intro V hV;have q0:V.cell? ⟨B,3,none⟩=some (slice (some ⟨D,0,none⟩) L L):=hV
  first|(go_simp;done)|(go_simp;with_reducible rfl)
 try simp only[pq]
 refine tkA 9 ?_;refine tkA 10 ?_;refine tkA 12 ?_;refine rdy 11 (λK z=>?_);go_simp;refine z.out _ _ hHeld (λh11=>?_);clear z K
 try simp only[pq]
 refine rdy 13 (λK z=>?_);refine GU (.tmp 40) (.tmp 41) 32 rfl _ _ rfl rfl rfl HR.out ?_;refine z.out _ _ y.out.1 (λaq=>?_);clear z K
 try simp only[pq]
 refine tkA 14 ?_;refine rdy 15 (λK z=>?_);go_simp;refine z.out _ _ y.out.2 (λap=>?_);clear z K
 try simp only[pq]
 refine Vd kr ?_ _;refine At ?_;go_wp2;go_ret;exact⟨rfl,Q2.out,_,_,_,Q1.out.wide λi _ hx=>hx.elim .inl λh=>.inr (AS ak.out h)⟩
theorem afq{X:Nat->Prop}{B U D size:Nat}{fr:List Int}{us:List Bool}{ds:La}(k:Nat)(Z:List Int)(w:World)(h:DM X B U D size fr us ds w)(hk:us[k]?=some true)(hx:ds[k]?=some Z)(hl:Z.length<=1000000) :Calls ZP 195 #[pointer (some ⟨B,0,none⟩),int i64 (k:Int)] w λe w'=>∃v,e=.returned v/\Ch w' w.heap.size v Z.length Z/\Bt w w':=by
 obtain⟨a1,fv,dv,h⟩:=h;have I:=(AP.1 hk).1;obtain⟨v,hv⟩:∃v,dv[k]?=some v:=⟨_,Ar (by rw[h.dl.1];exact I)⟩;obtain⟨L,hL⟩:∃L,us.length=L:=⟨_,rfl⟩;have A:=aaR (k:Int) w h;rw[aj4 hk]at A;have A:=AA A;have HH:=AA h;have HV:=AA hv;have HX:=AA hx;have y:=AA hL;have HL:=AA hl;have i0:(0:Int)<=(k:Int):=by omega
 have i1:(k:Int)<(L:Int):=by omega
 clear h hk hx hv hL I hl;go_enter func195,ntmps195;go_upto_region 3 with(go_at_call 233;refine A.out.mono ?_;rintro e z ⟨rfl,V⟩)
 have C:=HH.out.keep (Y:=λ_=>False) (.of_same V) λ_ _ _ h=>h;obtain⟨j,r2⟩:=C.rows k v Z HV.out HX.out;obtain⟨a,cc,rfl,_,hs⟩:=SlK.own j.1;have J:=y.out;have c3:z.cell? ⟨B,3,none⟩=some (slice (some ⟨D,0,none⟩) L L):=by simp[cell?,C.box,J]
 have cD:z.cell? ⟨D,k,none⟩=some (slice a Z.length cc):=by simp[cell?,C.data];exact HV.out
 have HC:=AA (ahT a Z.length cc (Z.map (Value.int .u8)) z hs (λu hu=>by obtain⟨x,_,rfl⟩:=Be.1 hu;rfl) HL.out);have N:=AA V;clear C j r2 hs J V
 go_wp2_with fail
 refine HC.out.mono ?_;rintro e w2 ⟨v2,rfl,ho,H⟩;have HO:=AA ho;have s:=AA H;clear ho H;go_wp2;go_ret;exact⟨_,rfl,NC HO.out N.out.size,N.out.trans (s.out.mono N.out.size)⟩
def Oz(o:Nat->Nat)(k:Nat):Prop:=o k≠0/\o k≠1000000
structure PB(o o':Nat->Nat)(w w':World):Prop where
 c:Chg (Oz o) w w'
 f:∀k,k<w.heap.size->o k=1000000->o' k=1000000
theorem PB.trans{o Z V:Nat->Nat}{w X Y:World}(h:PB o Z w X)(N:∀k,o k=0->Z k=0)(g:PB Z V X Y):PB o V w Y:=⟨h.c.trans g.c λi J U=>⟨λe=>U.1 (N i e),λe=>U.2 (h.f i J e)⟩,λk hk e=>g.f k (Af hk h.c.size) (h.f k hk e)⟩
theorem PB.same{o X:Nat->Nat}{w Z Y:World}(h:PB o X w Z)(V:Bt Z Y):PB o X w Y:=⟨h.c.same V,h.f⟩
def AE(A:PAd)(c:CfM)(o:Nat->Nat)(s':PlM)(w w':World):Prop:=∃o',AI A c o' s' w'/\(∀k,o k=0->o' k=0)/\PB o o' w w'
section
variable {A:PAd}{c:CfM}{s s' s'':PlM}{o:Nat->Nat}{w w' w'':World}
theorem AI.upG(h:AI A c o s w)(t:Nat)(U:t≠0)(Y:t<1000)(N:Chg (λk=>o k=t) w w')(I:Ai A c s' (λk=>o k=t∨w.heap.size<=k) (λk=>o k=0) w' t)
  (J:∀u X Z V,u≠t->Ai A c s X Z V u->Ai A c s' X Z V u):AE A c o s' w w':=by
 refine⟨_,h.upd t U Y N I J,λk hk=>?_,N.mono λk _ e=>⟨by rw[e];exact U,by rw[e];omega⟩,λk hk e=>(FV hk).trans e⟩
 by_cases H:k<w.heap.size
 ·rw[FV H];exact hk
 ·have:=h.out k om;omega
theorem AI.gr(h:AI A c o s w)(Z:Bt w w'):AE A c o s w w':=by
 refine⟨_,h.grow 0 om Z,λk hk=>?_,.of_same Z,λk hk e=>(FV hk).trans e⟩
 by_cases Y:k<w.heap.size
 ·rw[FV Y];exact hk
 ·have:=h.out k om;omega
theorem AI.g(h:AI A c o s w):AE A c o s w w:=⟨o,h,λ_ h=>h,.refl _ _,λ_ _ h=>h⟩
theorem AE.then(h:AE A c o s w w')(k:∀o',AI A c o' s w'->(∀k,o k=0->o' k=0)->AE A c o' s' w' w''):AE A c o s' w w'':=by obtain⟨Y,h1,h2,h3⟩:=h;obtain⟨Z,U,V,X⟩:=k Y h1 h2;exact⟨Z,U,λk hk=>V k (h2 k hk),h3.trans h2 X⟩
theorem AE.of_same(Z:Chg (Oz o) w w')(h:AI A c o s' w'):AE A c o s' w w':=⟨o,h,λ_ h=>h,Z,λ_ _ h=>h⟩
theorem AI.chgR(h:AI A c o s w)(i:Nat)(v:Value):Chg (Oz o) w (w.setCell ⟨A.R,i,none⟩ v):=by obtain⟨Z,h1,h2,_⟩:=h.part 8 om;exact(Chg.refl _ w).set (by have h2:o A.R=8:=h2;unfold Oz;rw[h2];decide)
theorem AI.chgP(h:AI A c o s w)(i:Nat)(v:Value):Chg (Oz o) w (w.setCell ⟨A.P,i,none⟩ v):=by obtain⟨Z,h1,h2,_⟩:=h.part 1 om;exact(Chg.refl _ w).set (by have h2:o A.P=1:=h2;unfold Oz;rw[h2];decide)
theorem AI.chgM(h:AI A c o s w)(i:Nat)(v:Value):Chg (Oz o) w (w.setCell ⟨A.M,i,none⟩ v):=by obtain⟨a,m,Z,h1,h2,_⟩:=h.part 9 om;exact(Chg.refl _ w).set (by have h2:o A.M=9:=h2;unfold Oz;rw[h2];decide)
theorem AI.chgE(h:AI A c o s w)(i:Nat)(v:Value):Chg (Oz o) w (w.setCell ⟨A.E,i,none⟩ v):=by obtain⟨h1,h2⟩:=h.part 10 om;exact(Chg.refl _ w).set (by have h2:o A.E=10:=h2;unfold Oz;rw[h2];decide)
theorem AI.cP(h:AI A c o s w):∃Z,w.heap[A.P]?=some (.cells (EK A c s Z) 109 (0,0)):=let⟨Z,h1,_⟩:=h.part 1 om;⟨Z,h1⟩
theorem AI.cR(h:AI A c o s w):∃Z,w.heap[A.R]?=some (.cells (rdV A s.rd Z) 245 (0,0))/\Cv (λk=>o k=8) w Z s.rd.tail:=let⟨Z,h1,_,h3,_⟩:=h.part 8 om;⟨Z,h1,h3⟩
theorem aoc(h:AI A c o s w)(n:Nat)(Z:s.fr.length<=100000):Calls ZP 236 #[pointer (some ⟨A.Bb,0,none⟩),int i64 (n:Int)] w λe w'=>(∃v,e=.returned v)/\AE A c o (Bv s n) w w':=by
 have h4:Ik A c s (λk=>o k=4) w:=h.part 4 om;refine(ag3 (n:Int) w h4 (by simpa using Z)).mono ?_;rintro e w' ⟨rfl,Y,X⟩;refine⟨⟨_,rfl⟩,h.upG 4 om om Y ?_ (Ai.congr 4)⟩;show DM _ _ _ _ _ ((Bv s n).fr.map λx:Nat=>(x:Int)) (Bv s n).us (Bv s n).ds _;have V:((Bv s n).fr.map λx:Nat=>(x:Int))=if Cr s.us n then(s.fr.map λx:Nat=>(x:Int))++[(n:Int)] else s.fr.map λx:Nat=>(x:Int):=by
  unfold Bv;dsimp only
  split<;>simp
 rw[V];exact X
theorem apd(h:AI A c o s w)(n:Nat)(l:List Nat)(N:s.fr=l++[n])(U:s.fr.length<=100000)(V:∀x∈s.fr,x<s.us.length) :Calls ZP 190 #[pointer (some ⟨A.Bb,0,none⟩)] w λe w'=>e=.returned (.tuple #[int i64 (n:Int),bool true])/\AE A c o {s with fr:=l,us:=s.us.set n true,ds:=s.ds.set n []} w w':=by
 have h4:Ik A c s (λk=>o k=4) w:=h.part 4 om;refine(afw w h4 (by simpa using AS U om) (λx X=>?_)).mono ?_
 ·obtain⟨y,Y,rfl⟩:=Be.1 X;have:=V y Y;omega
 ·rintro e w' ⟨rfl,J,Z⟩;have H:(s.fr.map λx:Nat=>(x:Int))=(l.map λx:Nat=>(x:Int))++[(n:Int)]:=by rw[N];simp
  rw[H]at Z⊢;have I:((l.map λx:Nat=>(x:Int))++[(n:Int)]).getLast?.getD 0=(n:Int):=by simp
  rw[I]at Z⊢;rw[Lb sm,LJ,Aa]at Z;refine⟨by simp,h.upG 4 om om J ?_ (Ai.congr 4)⟩;exact Z
theorem aod(h:AI A c o s w)(k n U:Nat)(b:Option Addr)(V Y:List Int)(hB:Bys w b n V)(hk:s.us[k]?=some true)(N:s.ds[k]?=some Y)(Z:Y.length+n<=c.K+c.wm)(X:c.K+c.wm<=100000) :Calls ZP 191 #[pointer (some ⟨A.Bb,0,none⟩),int i64 (k:Int),slice b n U] w λe w'=>e=.returned (bool true)/\AE A c o {s with ds:=s.ds.set k (Y++V)} w w':=by have h4:Ik A c s (λk=>o k=4) w:=h.part 4 om;refine(ahc k n U b V Y w h4 hB hk N Z X).mono ?_;rintro e w' ⟨rfl,J,I⟩;exact⟨rfl,h.upG 4 om om J I (Ai.congr 4)⟩
theorem ap4(h:AI A c o s w)(k:Nat)(Z:List Int)(hk:s.us[k]?=some true)(Y:s.ds[k]?=some Z)(X:Z.length<=1000000) :Calls ZP 195 #[pointer (some ⟨A.Bb,0,none⟩),int i64 (k:Int)] w λe w'=>∃v,e=.returned v/\Ch w' w.heap.size v Z.length Z/\Bt w w':=afq k Z w (show Ik A c s (λk=>o k=4) w from h.part 4 om) hk Y X
theorem apu(h:AI A c o s w)(n:Nat)(Y:n<=1000000000)(Z:s.next<=1000000000) :Calls ZP 189 #[pointer (some ⟨A.G,0,none⟩),int i64 (n:Int)] w λe w'=>e=.returned (bool (Du s.next c.R n))/\Bt w w':=by
 obtain⟨X,h1,h2,_⟩:Gl A c s (λk=>o k=6) (λk=>o k=0) w:=h.part 6 om;have:=aaC n w h1 Y Z
 rwa[h2]at this
end
theorem abY{X:Nat->Prop}{Q B next:Nat}{I:List PlW}(q:Option Addr×Nat×Nat)(Z:Bool)(w:World)(h:BZ X Q B next I w)(hx:next<=1000000000)(hp:I[next % I.length]?=some (q,Z)) :Calls ZP 203 #[pointer (some ⟨Q,0,none⟩)] w λe w'=>e=.returned (.tuple #[if Z then slice q.1 q.2.1 q.2.2 else slice none 0 0,bool Z])/\BZ X Q B (if Z then next+1 else next) (if Z then I.set (next % I.length) ((none,0,0),false) else I) w'/\Chg X w w':=by
 have hT:∀V,Bt w V->BZ X Q B next I V/\Calls ZP 170 #[pointer (some ⟨Q,0,none⟩),int i64 (next:Int)] V λe w'=>e=.returned (pointer (some ⟨B,next % I.length*2,none⟩))/\Bt V w':=λV hV=>by have:=h.keep (Y:=λ_=>False) (.of_same hV) λ_ _ _ h=>h;exact⟨this,abP next V this om⟩
 have J:∀d os,Calls ZP 170 #[pointer (some ⟨Q,0,none⟩),int i64 (next:Int)] (grow (redrawn w d) os) λe w'=>e=.returned (pointer (some ⟨B,next % I.length*2,none⟩))/\RowKit.Below (grow (redrawn w d) os).heap.size (grow (redrawn w d) os) w':=λd os=>(hT _ (Kf w d os)).2;have hr:∀d os,Calls ZP 231 #[pointer (some ⟨Q,0,none⟩)] (grow (redrawn w d) os) λe w'=>e=.returned (int i64 (I.length:Int))/\RowKit.Below (grow (redrawn w d) os).heap.size (grow (redrawn w d) os) w':=λd os=>(abJ _ (hT _ (Kf w d os)).1).mono λe w' ⟨h1,h2⟩=>⟨h1,by rw[h2];exact AH _ _⟩;have k1:∀d os,(grow (redrawn w d) os).cell? ⟨Q,1,none⟩=some (int i64 (next:Int)):=Vc (by simp[cell?,h.box]);have kp:∀d os,(grow (redrawn w d) os).cell? ⟨B,next % I.length*2+1,none⟩=some (bool Z):=Vc (by have:=(Hz hp).2;simp[cell?,h.places];exact this);obtain⟨r1,r2⟩:=h.room;have e0:decide ((I.length:Int)=0)=false:=by simp;intro e;rw[e]at r1;simp at r1
 have e1:((I.length:Int)==0)=false:=by simp;intro e;rw[e]at r1;simp at r1
 obtain⟨L,hL⟩:∃L,I.length=L:=⟨_,rfl⟩;obtain⟨p,a6⟩:∃p,next % L=p:=⟨_,rfl⟩;rw[hL]at r1 r2 e0 e1 hr J kp hT hp⊢;rw[a6]at J kp hT hp⊢;have HT:=AA hT;have HP:=AA hp;have HH:=AA h;have e2:decide (L=0)=false:=by simp;omega
 clear hT h hp a6 hL
 cases Z with
 |false=>
  go_enter func203,ntmps203;go_upto_region 1 with fail
  refine wp_region_quiet_below mixed kr ?_
  repeat (go_big_quiet_step (first|with_reducible exact Eu (hr _ _)|with_reducible exact Eu (J _ _)))
  refine wpQuiet_nil ?_;rintro _ ⟨⟨dq,C⟩,rfl⟩;have N:=Kf w dq C;have HB:=AA N;clear N;go_wp2;go_ret2;exact⟨rfl,(HT.out _ HB.out).1,.of_same HB.out⟩
 |true=>
  go_enter func203,ntmps203;go_upto_region 1 with fail
  refine wp_region_quiet_below mixed kr ?_
  repeat (go_big_quiet_step (first|with_reducible exact Eu (hr _ _)|with_reducible exact Eu (J _ _)))
  refine wpQuiet_nil ?_;rintro _ ⟨⟨dq,C⟩,rfl⟩;have N:=Kf w dq C;obtain⟨V,hV⟩:∃V,V=grow (redrawn w dq) C:=⟨_,rfl⟩;rw[<-hV]at N⊢;clear hV hr J k1 kp;have J:∀d os,Calls ZP 170 #[pointer (some ⟨Q,0,none⟩),int i64 (next:Int)] (grow (redrawn V d) os) λe w'=>e=.returned (pointer (some ⟨B,p*2,none⟩))/\RowKit.Below (grow (redrawn V d) os).heap.size (grow (redrawn V d) os) w':=λd os=>(HT.out _ (N.trans ((Kf V d os).mono N.size))).2;have a2:=(HT.out V N).1;have k1:∀d os,(grow (redrawn V d) os).cell? ⟨Q,1,none⟩=some (int i64 (next:Int)):=Vc (by simp[cell?,a2.box]);have kp:∀d os,(grow (redrawn V d) os).cell? ⟨B,p*2,none⟩=some (slice q.1 q.2.1 q.2.2):=Vc (by have:=(Hz HP.out).1;simp[cell?,a2.places];exact this);have ab:=AA N;clear a2 N;go_upto_region 3 with fail
  refine wp_region_quiet_below mixed kr ?_
  repeat (go_big_quiet_step (exact Eu (J _ _)))
  refine wpQuiet_nil ?_;rintro _ ⟨⟨aa,y⟩,rfl⟩;have H:=ab.out.trans ((Kf V aa y).mono ab.out.size);obtain⟨U,hU⟩:∃U,U=grow (redrawn V aa) y:=⟨_,rfl⟩;rw[<-hU]at H⊢;clear hU J k1 kp;have a7:=(HT.out U H).1;have c1:U.cell? ⟨Q,1,none⟩=some (int i64 (next:Int)):=by simp[cell?,a7.box]
  obtain⟨D,hD⟩:∃D,D=U.drew:=⟨_,rfl⟩;have j:Bt w D:=H.trans (by rw[hD];exact(AN U 1).mono H.size);have z:=AA j;have ae:=AA (HT.out D j).2;clear a7 H j;go_upto_region 4 with fail
  refine Vb ?_;refine Va (S:=λY=>Y.cell? ⟨Q,1,none⟩=some (int i64 (next:Int))) kr c1 (λhHeld=>?_);rw[<-hD]at hHeld⊢;clear hD c1;refine tkA 0 ?_;refine tkA 1 ?_;refine tkA 2 ?_;refine tkA 3 ?_;refine tkA 4 ?_;refine tkA 5 ?_;refine tkW 6 (v:=?_) ?_ ?_;rotate_left
  ·intro V hV;have q0:V.cell? ⟨Q,1,none⟩=some (int i64 (next:Int)):=hV
   first|(go_simp;done)|(go_simp;with_reducible rfl)
  try simp only[pq]
  refine tkA 8 ?_;refine rdy 7 (λK hK=>?_);go_simp
  go_at_call 170;refine(ae.out).mono ?_;rintro e s ⟨rfl,a1⟩
  refine hK.out _ _ ((by have:=(HT.out s (z.out.trans (a1.mono z.out.size))).1.box;simp[cell?,this])) (λac=>?_);clear hK K
  try simp only[pq]
  have hb:=z.out.trans (a1.mono z.out.size);have h5:=(HT.out s hb).1;have y0:s.cell? ⟨B,p*2,none⟩=some (slice q.1 q.2.1 q.2.2):=by have:=(Hz HP.out).1;simp[cell?,h5.places];exact this
  have y1:s.cell? ⟨B,p*2+1,none⟩=some (bool true):=by have:=(Hz HP.out).2;simp[cell?,h5.places];exact this
  have f0:∀i,s.frozen? ⟨B,i,none⟩=false:=λi=>by simp[frozen?,h5.places]
  have f1:=f0 (p*2);have f2:=f0 (p*2+1);obtain⟨x,g2⟩:=h5.setP p ((none,0,0),false);have a8:(((s.setCell ⟨B,p*2,none⟩ (slice none 0 0)).setCell ⟨B,p*2+1,none⟩ (bool false))).cell? ⟨Q,1,none⟩=some (int i64 (next:Int)):=by have:=x.box;simp[cell?,this]
  have G1:=AA x;have G2:=AA ((Chg.of_same (X:=X) hb).then g2);have ad:=AA a8;clear hb a1 h5 x g2 f0 a8;refine tkA 9 ?_;refine rdy 10 (λK hK=>?_);go_simp;refine hK.out _ _ ad.out (λh10=>?_);clear hK K
  try simp only[pq]
  refine Vd kr ?_ _;refine At ?_;obtain⟨W6,A⟩:∃W,W=(s.setCell ⟨B,p*2,none⟩ (slice none 0 0)).setCell ⟨B,p*2+1,none⟩ (bool false):=⟨_,rfl⟩;have x:BZ X Q B next (I.set p ((none,0,0),false)) W6:=by rw[A];exact G1.out
  have g2:Chg X w W6:=by rw[A];exact G2.out
  have c1:W6.cell? ⟨Q,1,none⟩=some (int i64 (next:Int)):=by simp[cell?,x.box]
  have f1:W6.frozen? ⟨Q,1,none⟩=false:=by simp[frozen?,x.box]
  have ew:IntKind.i64.wrap ((next:Int)+1)=(next:Int)+1:=by rw[BK];omega
  obtain⟨s1,s2⟩:=x.step (next+1);have S1:=AA s1;have S2:=AA (g2.then s2);rw[<-A];clear A x g2 s1 s2 y0 y1 h10 ac hHeld;go_wp2;go_ret2;exact⟨rfl,S1.out,S2.out⟩
theorem adf{fn:Func}{p:Tmp}{tmps:Array Value}{W:World}{B:Nat}(h:fn.results=#[.cell p 116])(X:tmps.getD p undef=pointer (some ⟨B,0,none⟩)){r0 Z:Value}(hB:W.heap[B]?=some (.cells #[r0,Z] 116 (0,0))) :(results fn tmps).run ZP W=.ok (.agg #[r0,Z]) W:=by
 have V:(loadVar 116 ⟨B,0,none⟩).run ZP W=.ok (.agg #[r0,Z]) W:=run_loadVar_row W B 116 116 #[r0,Z] (0,0) _ hB underlying116 rfl kr;have Y:tmps[p]?.getD undef=.pointer (some ⟨B,0,none⟩):=by simpa using X
 simp[results,h,Y,asAddr];rw[V]
theorem ad8{fn:Func}{p u:Tmp}{tmps:Array Value}{W:World}{B:Nat}(h:fn.results=#[.cell p 116,.tmp u])(X:tmps.getD p undef=pointer (some ⟨B,0,none⟩)){r0 Z:Value}(hB:W.heap[B]?=some (.cells #[r0,Z] 116 (0,0))) :(results fn tmps).run ZP W=.ok (.tuple #[.agg #[r0,Z],tmps.getD u undef]) W:=by
 have V:(loadVar 116 ⟨B,0,none⟩).run ZP W=.ok (.agg #[r0,Z]) W:=run_loadVar_row W B 116 116 #[r0,Z] (0,0) _ hB underlying116 rfl kr;have Y:tmps[p]?.getD undef=.pointer (some ⟨B,0,none⟩):=by simpa using X
 simp[results,h,Y,asAddr];rw[V];simp[Result.andThen]
theorem alK{X:Nat->Prop}{Q B first many:Nat}{closed:Bool}{D:List AF}(p:AF)(w:World)(h:AY X Q B first many closed D w)(hm:0<many)(hp:D[first]?=some p) :Calls ZP 251 #[pointer (some ⟨Q,0,none⟩)] w λe w'=>e=.returned (.agg #[int i64 p.1,int i64 p.2])/\AY X Q B ((first+1) % D.length) (many-1) closed (D.set first (0,0)) w'/\Chg X w w':=by
 obtain⟨W,hW⟩:∃W,W=(w.alloc (.cells #[int i64 0,int i64 0] 116)).alloc (.cells #[int i64 0,int i64 0] 116):=⟨_,rfl⟩;have hB:Bt w W:=by rw[hW];exact(AL _ _).alloc sm _
 have a6:W.heap.size=w.heap.size+1+1:=by rw[hW];simp
 have hO:Bx w.heap.size [.cells #[int i64 0,int i64 0] 116,.cells #[int i64 0,int i64 0] 116] W:=by rw[hW];exact((Bx.nil _ w).snoc _ rfl).snoc _ sm
 have hS:=h.below hB;have c0:W.cell? ⟨Q,0,none⟩=some (slice (some ⟨B,0,none⟩) D.length D.length):=by simp[cell?,hS.box]
 have c1:W.cell? ⟨Q,1,none⟩=some (int i64 (first:Int)):=by simp[cell?,hS.box]
 obtain⟨r1,r2,r3,r4⟩:=h.room;obtain⟨L,hL⟩:∃L,D.length=L:=⟨_,rfl⟩;rw[hL]at c0;have i0:(0:Int)<=(first:Int):=by omega
 have i1:(first:Int)<(L:Int):=by omega
 obtain⟨y0,y1⟩:=NO hp;have d0:W.cell? ⟨B,first*2,none⟩=some (int i64 p.1):=by simp[cell?,hS.places];exact y0
 have d1:W.cell? ⟨B,first*2+1,none⟩=some (int i64 p.2):=by simp[cell?,hS.places];exact y1
 have y:=hS.below (AL W (.cells #[int i64 0,int i64 0] 116));have C:(W.alloc (.cells #[int i64 0,int i64 0] 116)).heap[W.heap.size]?=some (.cells #[int i64 0,int i64 0] 116 (0,0)):=AT _ _;have a0:(W.alloc (.cells #[int i64 0,int i64 0] 116)).cell? ⟨Q,0,none⟩=some (slice (some ⟨B,0,none⟩) L L):=by simp[cell?,y.box,hL]
 have a1:(W.alloc (.cells #[int i64 0,int i64 0] 116)).cell? ⟨Q,1,none⟩=some (int i64 (first:Int)):=by simp[cell?,y.box]
 have b0:(W.alloc (.cells #[int i64 0,int i64 0] 116)).cell? ⟨B,first*2,none⟩=some (int i64 p.1):=by simp[cell?,y.places];exact y0
 have n0:(W.alloc (.cells #[int i64 0,int i64 0] 116)).cell? ⟨W.heap.size,0,none⟩=some (int i64 0):=by simp only[cell?,C];simp
 have g0:(W.alloc (.cells #[int i64 0,int i64 0] 116)).frozen? ⟨W.heap.size,0,none⟩=false:=by simp only[frozen?,C];simp
 have b1:(W.alloc (.cells #[int i64 0,int i64 0] 116)).cell? ⟨B,first*2+1,none⟩=some (int i64 p.2):=by simp[cell?,y.places];exact y1
 have n1:(W.alloc (.cells #[int i64 0,int i64 0] 116)).cell? ⟨W.heap.size,1,none⟩=some (int i64 0):=by simp only[cell?,C];simp
 have g1:(W.alloc (.cells #[int i64 0,int i64 0] 116)).frozen? ⟨W.heap.size,1,none⟩=false:=by simp only[frozen?,C];simp
 have HO:=AA hO;have HS:=AA hS;go_enter func251,ntmps251;go_upto_region 2 with fail
 rw[<-hW];clear hW
 go_region
 obtain⟨Z,j⟩:∃U,U=(W.alloc (.cells #[int i64 p.1,int i64 p.2] 116)).drew:=⟨_,rfl⟩;rw[<-j];have x:Bt W Z:=by rw[j];exact(AL _ _).trans ((AN _ 1).mono sm)
 have ag:Z.heap[w.heap.size+1+1]?=some (.cells #[int i64 p.1,int i64 p.2] 116 (0,0)):=by rw[j,<-a6];exact AT _ _
 have Y:=HS.out.below x;have ae:=HO.out.below x;have ap:=AA (hB.trans (x.mono hB.size));have aj:=AA ag;clear j x hS y C a0 a1 b0 n0 g0 d0 b1 n1 g1 d1 c0 c1 hO hB;have ah:Z.heap[w.heap.size]?=some (.cells #[int i64 0,int i64 0] 116 (0,0)):=by have:=ae 0 _ rfl;rwa[DQ]at this
 have a7:Z.heap[w.heap.size+1]?=some (.cells #[int i64 0,int i64 0] 116 (0,0)):=ae 1 _ rfl;have ak:=AA ah;have c0:Z.cell? ⟨Q,0,none⟩=some (slice (some ⟨B,0,none⟩) L L):=by simp[cell?,Y.box,hL]
 have c1:Z.cell? ⟨Q,1,none⟩=some (int i64 (first:Int)):=by simp[cell?,Y.box]
 have o0:Z.cell? ⟨B,first*2,none⟩=some (int i64 p.1):=by simp[cell?,Y.places];exact y0
 have z0:Z.cell? ⟨w.heap.size+1,0,none⟩=some (int i64 0):=by simp[cell?,a7]
 have v0:Z.frozen? ⟨B,first*2,none⟩=false:=by simp[frozen?,Y.places]
 have o1:Z.cell? ⟨B,first*2+1,none⟩=some (int i64 p.2):=by simp[cell?,Y.places];exact y1
 have z1:Z.cell? ⟨w.heap.size+1,1,none⟩=some (int i64 0):=by simp[cell?,a7]
 have v1:Z.frozen? ⟨B,first*2+1,none⟩=false:=by simp[frozen?,Y.places]
 have z:AY X Q B first many closed D Z.drew:=Y.below (AN Z 1);obtain⟨g1,g2⟩:=z.setP first (0,0);have g3:Chg (λk=>k=B) Z.drew (AY.putW Z.drew B first (0,0)):=by unfold AY.putW;exact((Chg.refl (λk=>k=B) _).set (show B=B from rfl)).set (show B=B from rfl)
 obtain⟨H,J⟩:∃V,V=(AY.putW Z B first (0,0)).drew:=⟨_,rfl⟩;have g1:AY X Q B first many closed (D.set first (0,0)) H:=by rw[J];exact g1
 have g2:Chg X Z H:=by rw[J];exact(Chg.of_same (AN Z 1)).then g2
 have g3:Chg (λk=>k=B) Z H:=by rw[J];exact(Chg.of_same (AN Z 1)).then g3
 unfold AY.putW at J;have G1:=AA g1;have G2:=AA g2;have G3:=AA g3;clear Y ae ah a7 ag z g1 g2 g3;go_upto_region 3 with fail
 go_region
 rw[<-J];clear J c0 c1 o0 z0 v0 o1 z1 v1;have c0:H.cell? ⟨Q,0,none⟩=some (slice (some ⟨B,0,none⟩) L L):=by simp[cell?,G1.out.box,hL]
 have c1:H.cell? ⟨Q,1,none⟩=some (int i64 (first:Int)):=by simp[cell?,G1.out.box]
 have f1:H.frozen? ⟨Q,1,none⟩=false:=by simp[frozen?,G1.out.box]
 have e1:IntKind.i64.wrap ((first:Int)+1)=((first+1:Nat):Int):=by rw[BK];omega
 have e2:((first+1:Nat):Int).tmod (L:Int)=(((first+1) % L:Nat):Int):=by rw[Jq om];simp
 have a8:(first+1) % L<L:=Ek _ om;have z0:¬(L:Int)=0:=by omega
 have z1:¬L=0:=by omega
 obtain⟨s,hs⟩:∃s,first+1=s:=⟨_,rfl⟩;obtain⟨i,hi⟩:∃i,s % L=i:=⟨_,rfl⟩;rw[hs]at e1 e2 a8;rw[hi]at e2 a8;obtain⟨W4,A⟩:∃V,V=(H.setCell ⟨Q,1,none⟩ (int i64 (i:Int))).drew:=⟨_,rfl⟩;have z:AY X Q B first many closed (D.set first (0,0)) H.drew:=G1.out.below (AN H 1);obtain⟨h1,h2⟩:=z.setF i (by rw[BG,hL];exact a8);have h1:AY X Q B i many closed (D.set first (0,0)) W4:=by rw[A];exact h1
 have h2:Chg X H W4:=by rw[A];exact(Chg.of_same (AN H 1)).then h2
 have h3:Chg (λk=>k=Q) H W4:=by rw[A];exact(Chg.of_same (AN H 1)).then ((Chg.refl (λk=>k=Q) _).set (show Q=Q from rfl))
 have ew:IntKind.i64.wrap ((many:Int)-1)=((many-1:Nat):Int):=by rw[BK];omega
 obtain⟨M,hM⟩:∃M,many-1=M:=⟨_,rfl⟩;rw[hM]at ew;obtain⟨q1,q2⟩:=h1.setM M (by rw[BG];omega);have q3:Chg (λk=>k=Q) W4 (W4.setCell ⟨Q,2,none⟩ (int i64 (M:Int))):=(Chg.refl (λk=>k=Q) _).set (show Q=Q from rfl);have m2:W4.cell? ⟨Q,2,none⟩=some (int i64 (many:Int)):=by simp[cell?,h1.box]
 have n2:W4.frozen? ⟨Q,2,none⟩=false:=by simp[frozen?,h1.box]
 obtain⟨I,ac⟩:∃V,V=W4.setCell ⟨Q,2,none⟩ (int i64 (M:Int)):=⟨_,rfl⟩;rw[<-ac]at q1 q2 q3;have af:=(AD.1 h.places).1;have ad:=(AD.1 h.box).1;have aa:∀k,w.heap.size<=k->k<Z.heap.size->I.heap[k]?=Z.heap[k]?:=λk hk al=>
  (q3.block k (by have:=G3.out.size;have:=h3.size;omega) (by show k≠Q;omega)).trans ((h3.block k (by have:=G3.out.size;omega) (by show k≠Q;omega)).trans (G3.out.block k al (by show k≠B;omega)))
 have a2:I.heap[w.heap.size+1+1]?=_:=(aa _ om (AD.1 aj.out).1).trans aj.out;have N:I.heap[w.heap.size]?=_:=(aa _ om (AD.1 ak.out).1).trans ak.out;have x0:I.cell? ⟨w.heap.size+1+1,0,none⟩=some (int i64 p.1):=by simp[cell?,a2]
 have t0:I.cell? ⟨w.heap.size,0,none⟩=some (int i64 0):=by simp[cell?,N]
 have u0:I.frozen? ⟨w.heap.size,0,none⟩=false:=by simp[frozen?,N]
 have x1:I.cell? ⟨w.heap.size+1+1,1,none⟩=some (int i64 p.2):=by simp[cell?,a2]
 have t1:I.cell? ⟨w.heap.size,1,none⟩=some (int i64 0):=by simp[cell?,N]
 have u1:I.frozen? ⟨w.heap.size,1,none⟩=false:=by simp[frozen?,N]
 have Q1:=AA q1;have Q2:=AA ((Chg.of_same ap.out).then (G2.out.then (h2.then q2)));have ar:=AA a6;have am:=AA N;have HL:=AA (Lq hL (Lq hs (Lq hi hM)));have ao:=AA (Lq ad af);clear z h1 h2 h3 q1 q2 q3 aa a2 N af ad h r1 r2 r3 r4 hp y0 y1 hL hs hi hM a6;go_upto_region 4 with fail
 go_region
 rw[<-A];clear A c0 c1 f1;go_upto_region 6 with fail
 rw[<-ac];clear ac m2 n2;go_wp2;have ab:Chg (λk=>k=w.heap.size) I ((I.setCell ⟨w.heap.size,0,none⟩ (int i64 p.1)).setCell ⟨w.heap.size,1,none⟩ (int i64 p.2)):=((Chg.refl (λk=>k=w.heap.size) I).set (show w.heap.size=w.heap.size from rfl)).set (show w.heap.size=w.heap.size from rfl);have ai:((I.setCell ⟨w.heap.size,0,none⟩ (int i64 p.1)).setCell ⟨w.heap.size,1,none⟩ (int i64 p.2)).heap[w.heap.size]?=some (.cells #[int i64 p.1,int i64 p.2] 116 (0,0)):=by have s1:=AJ (i:=0) am.out (int i64 p.1);have s2:=AJ (i:=1) s1 (int i64 p.2);exact s2
 refine Vf (adf (B:=w.heap.size) rfl rfl ai) rfl ?_;obtain⟨ad,af⟩:=ao.out;have aq:=Q2.out.size;obtain⟨l1,l2,l3,l4⟩:=HL.out;refine⟨rfl,?_,?_⟩
 ·rw[l1,l2,l3,l4];exact⟨(ab.block Q om (by show Q≠w.heap.size;omega)).trans Q1.out.box,(ab.block B om (by show B≠w.heap.size;omega)).trans Q1.out.places,Q1.out.inX,Q1.out.ne,Q1.out.room⟩
 ·exact Q2.out.trans ab λk hk e=>absurd e om
theorem aiy{X:Nat->Prop}{Q B first many:Nat}{closed:Bool}{H:List AF}(p:AF)(w:World)(h:AY X Q B first many closed H w)(hm:0<many)(j:H[first]?=some p) :Calls ZP 210 #[pointer (some ⟨Q,0,none⟩)] w λe w'=>e=.returned (.tuple #[.agg #[int i64 p.1,int i64 p.2],bool true])/\AY X Q B ((first+1) % H.length) (many-1) closed (H.set first (0,0)) w'/\Chg X w w':=by
 obtain⟨W,hW⟩:∃W,W=w.alloc (.cells #[int i64 0,int i64 0] 116):=⟨_,rfl⟩;have hB:Bt w W:=by rw[hW];exact AL _ _
 have s:W.heap[w.heap.size]?=some (.cells #[int i64 0,int i64 0] 116 (0,0)):=by rw[hW];exact AT _ _
 have N:=(AD.1 h.box).1;have J:=(AD.1 h.places).1;have V:W.heap.size=w.heap.size+1:=by rw[hW];simp
 have D:AY (λk=>k=Q∨k=B) Q B first many closed H W:=⟨(h.below hB).box,(h.below hB).places,⟨.inl rfl,.inr rfl⟩,h.ne,h.room⟩;have HP:=AA (alK p W D hm j);have c2:W.cell? ⟨Q,2,none⟩=some (int i64 (many:Int)):=by simp[cell?,D.box]
 have e0:decide ((many:Int)=0)=false:=by simp;omega
 have e1:((many:Int)==0)=false:=by simp;omega
 have e2:decide (many=0)=false:=by simp;omega
 have HX:=AA s;have HS:=AA (Lq N (Lq J V));have y:=AA h.inX;have HB:=AA hB;clear h s hm j hB D N J V;go_enter func210,ntmps210;go_upto_region 1 with fail
 rw[<-hW];clear hW;go_upto_region 3 with fail
 clear c2
 go_wp2_with fail
 refine HP.out.mono ?_;rintro e Y ⟨rfl,C,A⟩;obtain⟨N,J,V⟩:=HS.out;have Z:Y.heap[w.heap.size]?=some (.cells #[int i64 0,int i64 0] 116 (0,0)):=(A.block w.heap.size om (by show ¬(w.heap.size=Q∨w.heap.size=B);omega)).trans HX.out;have x0:Y.cell? ⟨w.heap.size,0,none⟩=some (int i64 0):=by simp[cell?,Z]
 have u0:Y.frozen? ⟨w.heap.size,0,none⟩=false:=by simp[frozen?,Z]
 have x1:Y.cell? ⟨w.heap.size,1,none⟩=some (int i64 0):=by simp[cell?,Z]
 have u1:Y.frozen? ⟨w.heap.size,1,none⟩=false:=by simp[frozen?,Z]
 have U:Chg (λk=>k=w.heap.size) Y ((Y.setCell ⟨w.heap.size,0,none⟩ (int i64 p.1)).setCell ⟨w.heap.size,1,none⟩ (int i64 p.2)):=((Chg.refl (λk=>k=w.heap.size) Y).set (show w.heap.size=w.heap.size from rfl)).set (show w.heap.size=w.heap.size from rfl);have I:((Y.setCell ⟨w.heap.size,0,none⟩ (int i64 p.1)).setCell ⟨w.heap.size,1,none⟩ (int i64 p.2)).heap[w.heap.size]?=some (.cells #[int i64 p.1,int i64 p.2] 116 (0,0)):=by have s1:=AJ (i:=0) Z (int i64 p.1);have s2:=AJ (i:=1) s1 (int i64 p.2);exact s2
 have z:=A.size;have hF:AY X Q B ((first+1) % H.length) (many-1) closed (H.set first (0,0)) ((Y.setCell ⟨w.heap.size,0,none⟩ (int i64 p.1)).setCell ⟨w.heap.size,1,none⟩ (int i64 p.2)):=⟨(U.block Q om (by show Q≠w.heap.size;omega)).trans C.box,(U.block B om (by show B≠w.heap.size;omega)).trans C.places,y.out,C.ne,C.room⟩;have hC:Chg X w ((Y.setCell ⟨w.heap.size,0,none⟩ (int i64 p.1)).setCell ⟨w.heap.size,1,none⟩ (int i64 p.2)):=((Chg.of_same HB.out).then (A.mono λk _ e=>e.elim (λe=>by rw[e];exact y.out.1) λe=>by rw[e];exact y.out.2)).trans U λk hk e=>absurd e om;have x:=AA I;have HF:=AA hF;have HC:=AA hC;clear C A Z U I hF hC N J V z;go_wp2;refine Vf (ad8 (B:=w.heap.size) rfl rfl x.out) rfl ?_;exact⟨rfl,HF.out,HC.out⟩
theorem adp{fn:Func}{p:Tmp}{tmps:Array Value}{W:World}{B:Nat}(h:fn.results=#[.cell p 126])(V:tmps.getD p undef=pointer (some ⟨B,0,none⟩)){r0 Y Z r3 r4:Value}(hB:W.heap[B]?=some (.cells #[r0,Y,Z,r3,r4] 126 (0,0))) :(results fn tmps).run ZP W=.ok (.agg #[r0,Y,Z,r3,r4]) W:=by
 have U:(loadVar 126 ⟨B,0,none⟩).run ZP W=.ok (.agg #[r0,Y,Z,r3,r4]) W:=run_loadVar_row W B 126 126 #[r0,Y,Z,r3,r4] (0,0) _ hB underlying126 rfl kr;have X:tmps[p]?.getD undef=.pointer (some ⟨B,0,none⟩):=by simpa using V
 simp[results,h,X,asAddr];rw[U]
theorem aaG{fn:Func}{p u:Tmp}{tmps:Array Value}{W:World}{B:Nat}(h:fn.results=#[.cell p 126,.tmp u])(V:tmps.getD p undef=pointer (some ⟨B,0,none⟩)){r0 Y Z r3 r4:Value}(hB:W.heap[B]?=some (.cells #[r0,Y,Z,r3,r4] 126 (0,0))) :(results fn tmps).run ZP W=.ok (.tuple #[.agg #[r0,Y,Z,r3,r4],tmps.getD u undef]) W:=by
 have U:(loadVar 126 ⟨B,0,none⟩).run ZP W=.ok (.agg #[r0,Y,Z,r3,r4]) W:=run_loadVar_row W B 126 126 #[r0,Y,Z,r3,r4] (0,0) _ hB underlying126 rfl kr;have X:tmps[p]?.getD undef=.pointer (some ⟨B,0,none⟩):=by simpa using V
 simp[results,h,X,asAddr];rw[U];simp[Result.andThen]
theorem ala{X:Nat->Prop}{Q B first many:Nat}{closed:Bool}{y:List PcW}(p:PcW)(w:World)(h:Ab X Q B first many closed y w)(hm:0<many)(hp:y[first]?=some p) :Calls ZP 240 #[pointer (some ⟨Q,0,none⟩)] w λe w'=>e=.returned (.agg #[int i64 p.num,int i64 p.start,int i64 p.warm,slice p.a p.m p.c,int i64 p.buf])/\Ab X Q B ((first+1) % y.length) (many-1) closed (y.set first ⟨0,0,0,none,0,0,0⟩) w'/\Chg X w w':=by
 obtain⟨W,hW⟩:∃W,W=(w.alloc (.cells #[int i64 0,int i64 0,int i64 0,slice none 0 0,int i64 0] 126)).alloc (.cells #[int i64 0,int i64 0,int i64 0,slice none 0 0,int i64 0] 126):=⟨_,rfl⟩;have hB:Bt w W:=by rw[hW];exact(AL _ _).alloc sm _
 have a7:W.heap.size=w.heap.size+1+1:=by rw[hW];simp
 have hO:Bx w.heap.size [.cells #[int i64 0,int i64 0,int i64 0,slice none 0 0,int i64 0] 126,.cells #[int i64 0,int i64 0,int i64 0,slice none 0 0,int i64 0] 126] W:=by rw[hW];exact((Bx.nil _ w).snoc _ rfl).snoc _ sm
 have hS:=h.below hB;have c0:W.cell? ⟨Q,0,none⟩=some (slice (some ⟨B,0,none⟩) y.length y.length):=by simp[cell?,hS.box]
 have c1:W.cell? ⟨Q,1,none⟩=some (int i64 (first:Int)):=by simp[cell?,hS.box]
 obtain⟨r1,r2,r3,r4⟩:=h.room;obtain⟨L,hL⟩:∃L,y.length=L:=⟨_,rfl⟩;rw[hL]at c0;have i0:(0:Int)<=(first:Int):=by omega
 have i1:(first:Int)<(L:Int):=by omega
 obtain⟨y0,y1,y2,y3,y4⟩:=ag4 hp;have d0:W.cell? ⟨B,first*5,none⟩=some (int i64 p.num):=by simp[cell?,hS.places];exact y0
 have d1:W.cell? ⟨B,first*5+1,none⟩=some (int i64 p.start):=by simp[cell?,hS.places];exact y1
 have d2:W.cell? ⟨B,first*5+2,none⟩=some (int i64 p.warm):=by simp[cell?,hS.places];exact y2
 have d3:W.cell? ⟨B,first*5+3,none⟩=some (slice p.a p.m p.c):=by simp[cell?,hS.places];exact y3
 have d4:W.cell? ⟨B,first*5+4,none⟩=some (int i64 p.buf):=by simp[cell?,hS.places];exact y4
 have H:=hS.below (AL W (.cells #[int i64 0,int i64 0,int i64 0,slice none 0 0,int i64 0] 126));have J:(W.alloc (.cells #[int i64 0,int i64 0,int i64 0,slice none 0 0,int i64 0] 126)).heap[W.heap.size]?=some (.cells #[int i64 0,int i64 0,int i64 0,slice none 0 0,int i64 0] 126 (0,0)):=AT _ _;have a0:(W.alloc (.cells #[int i64 0,int i64 0,int i64 0,slice none 0 0,int i64 0] 126)).cell? ⟨Q,0,none⟩=some (slice (some ⟨B,0,none⟩) L L):=by simp[cell?,H.box,hL]
 have a1:(W.alloc (.cells #[int i64 0,int i64 0,int i64 0,slice none 0 0,int i64 0] 126)).cell? ⟨Q,1,none⟩=some (int i64 (first:Int)):=by simp[cell?,H.box]
 have b0:(W.alloc (.cells #[int i64 0,int i64 0,int i64 0,slice none 0 0,int i64 0] 126)).cell? ⟨B,first*5,none⟩=some (int i64 p.num):=by simp[cell?,H.places];exact y0
 have n0:(W.alloc (.cells #[int i64 0,int i64 0,int i64 0,slice none 0 0,int i64 0] 126)).cell? ⟨W.heap.size,0,none⟩=some (int i64 0):=by simp only[cell?,J];simp
 have g0:(W.alloc (.cells #[int i64 0,int i64 0,int i64 0,slice none 0 0,int i64 0] 126)).frozen? ⟨W.heap.size,0,none⟩=false:=by simp only[frozen?,J];simp
 have b1:(W.alloc (.cells #[int i64 0,int i64 0,int i64 0,slice none 0 0,int i64 0] 126)).cell? ⟨B,first*5+1,none⟩=some (int i64 p.start):=by simp[cell?,H.places];exact y1
 have n1:(W.alloc (.cells #[int i64 0,int i64 0,int i64 0,slice none 0 0,int i64 0] 126)).cell? ⟨W.heap.size,1,none⟩=some (int i64 0):=by simp only[cell?,J];simp
 have g1:(W.alloc (.cells #[int i64 0,int i64 0,int i64 0,slice none 0 0,int i64 0] 126)).frozen? ⟨W.heap.size,1,none⟩=false:=by simp only[frozen?,J];simp
 have b2:(W.alloc (.cells #[int i64 0,int i64 0,int i64 0,slice none 0 0,int i64 0] 126)).cell? ⟨B,first*5+2,none⟩=some (int i64 p.warm):=by simp[cell?,H.places];exact y2
 have n2:(W.alloc (.cells #[int i64 0,int i64 0,int i64 0,slice none 0 0,int i64 0] 126)).cell? ⟨W.heap.size,2,none⟩=some (int i64 0):=by simp only[cell?,J];simp
 have g2:(W.alloc (.cells #[int i64 0,int i64 0,int i64 0,slice none 0 0,int i64 0] 126)).frozen? ⟨W.heap.size,2,none⟩=false:=by simp only[frozen?,J];simp
 have b3:(W.alloc (.cells #[int i64 0,int i64 0,int i64 0,slice none 0 0,int i64 0] 126)).cell? ⟨B,first*5+3,none⟩=some (slice p.a p.m p.c):=by simp[cell?,H.places];exact y3
 have n3:(W.alloc (.cells #[int i64 0,int i64 0,int i64 0,slice none 0 0,int i64 0] 126)).cell? ⟨W.heap.size,3,none⟩=some (slice none 0 0):=by simp only[cell?,J];simp
 have g3:(W.alloc (.cells #[int i64 0,int i64 0,int i64 0,slice none 0 0,int i64 0] 126)).frozen? ⟨W.heap.size,3,none⟩=false:=by simp only[frozen?,J];simp
 have b4:(W.alloc (.cells #[int i64 0,int i64 0,int i64 0,slice none 0 0,int i64 0] 126)).cell? ⟨B,first*5+4,none⟩=some (int i64 p.buf):=by simp[cell?,H.places];exact y4
 have n4:(W.alloc (.cells #[int i64 0,int i64 0,int i64 0,slice none 0 0,int i64 0] 126)).cell? ⟨W.heap.size,4,none⟩=some (int i64 0):=by simp only[cell?,J];simp
 have g4:(W.alloc (.cells #[int i64 0,int i64 0,int i64 0,slice none 0 0,int i64 0] 126)).frozen? ⟨W.heap.size,4,none⟩=false:=by simp only[frozen?,J];simp
 have HO:=AA hO;have HS:=AA hS;go_enter func240,ntmps240;go_upto_region 2 with fail
 rw[<-hW];clear hW
 go_region
 obtain⟨Z,a6⟩:∃U,U=(W.alloc (.cells #[int i64 p.num,int i64 p.start,int i64 p.warm,slice p.a p.m p.c,int i64 p.buf] 126)).drew:=⟨_,rfl⟩;rw[<-a6];have a2:Bt W Z:=by rw[a6];exact(AL _ _).trans ((AN _ 1).mono sm)
 have ag:Z.heap[w.heap.size+1+1]?=some (.cells #[int i64 p.num,int i64 p.start,int i64 p.warm,slice p.a p.m p.c,int i64 p.buf] 126 (0,0)):=by rw[a6,<-a7];exact AT _ _
 have Y:=HS.out.below a2;have ae:=HO.out.below a2;have ap:=AA (hB.trans (a2.mono hB.size));have aj:=AA ag;clear a6 a2 hS H J a0 a1 b0 n0 g0 d0 b1 n1 g1 d1 b2 n2 g2 d2 b3 n3 g3 d3 b4 n4 g4 d4 c0 c1 hO hB;have ah:Z.heap[w.heap.size]?=some (.cells #[int i64 0,int i64 0,int i64 0,slice none 0 0,int i64 0] 126 (0,0)):=by have:=ae 0 _ rfl;rwa[DQ]at this
 have C:Z.heap[w.heap.size+1]?=some (.cells #[int i64 0,int i64 0,int i64 0,slice none 0 0,int i64 0] 126 (0,0)):=ae 1 _ rfl;have ak:=AA ah;have c0:Z.cell? ⟨Q,0,none⟩=some (slice (some ⟨B,0,none⟩) L L):=by simp[cell?,Y.box,hL]
 have c1:Z.cell? ⟨Q,1,none⟩=some (int i64 (first:Int)):=by simp[cell?,Y.box]
 have o0:Z.cell? ⟨B,first*5,none⟩=some (int i64 p.num):=by simp[cell?,Y.places];exact y0
 have z0:Z.cell? ⟨w.heap.size+1,0,none⟩=some (int i64 0):=by simp[cell?,C]
 have v0:Z.frozen? ⟨B,first*5,none⟩=false:=by simp[frozen?,Y.places]
 have o1:Z.cell? ⟨B,first*5+1,none⟩=some (int i64 p.start):=by simp[cell?,Y.places];exact y1
 have z1:Z.cell? ⟨w.heap.size+1,1,none⟩=some (int i64 0):=by simp[cell?,C]
 have v1:Z.frozen? ⟨B,first*5+1,none⟩=false:=by simp[frozen?,Y.places]
 have o2:Z.cell? ⟨B,first*5+2,none⟩=some (int i64 p.warm):=by simp[cell?,Y.places];exact y2
 have z2:Z.cell? ⟨w.heap.size+1,2,none⟩=some (int i64 0):=by simp[cell?,C]
 have v2:Z.frozen? ⟨B,first*5+2,none⟩=false:=by simp[frozen?,Y.places]
 have o3:Z.cell? ⟨B,first*5+3,none⟩=some (slice p.a p.m p.c):=by simp[cell?,Y.places];exact y3
 have z3:Z.cell? ⟨w.heap.size+1,3,none⟩=some (slice none 0 0):=by simp[cell?,C]
 have v3:Z.frozen? ⟨B,first*5+3,none⟩=false:=by simp[frozen?,Y.places]
 have o4:Z.cell? ⟨B,first*5+4,none⟩=some (int i64 p.buf):=by simp[cell?,Y.places];exact y4
 have z4:Z.cell? ⟨w.heap.size+1,4,none⟩=some (int i64 0):=by simp[cell?,C]
 have v4:Z.frozen? ⟨B,first*5+4,none⟩=false:=by simp[frozen?,Y.places]
 have j:Ab X Q B first many closed y Z.drew:=Y.below (AN Z 1);obtain⟨g1,g2⟩:=j.setP first ⟨0,0,0,none,0,0,0⟩;have g3:Chg (λk=>k=B) Z.drew (Ab.putW Z.drew B first ⟨0,0,0,none,0,0,0⟩):=by unfold Ab.putW;exact(((((Chg.refl (λk=>k=B) _).set (show B=B from rfl)).set (show B=B from rfl)).set (show B=B from rfl)).set (show B=B from rfl)).set (show B=B from rfl)
 obtain⟨z,A⟩:∃V,V=(Ab.putW Z B first ⟨0,0,0,none,0,0,0⟩).drew:=⟨_,rfl⟩;have g1:Ab X Q B first many closed (y.set first ⟨0,0,0,none,0,0,0⟩) z:=by rw[A];exact g1
 have g2:Chg X Z z:=by rw[A];exact(Chg.of_same (AN Z 1)).then g2
 have g3:Chg (λk=>k=B) Z z:=by rw[A];exact(Chg.of_same (AN Z 1)).then g3
 unfold Ab.putW at A;have G1:=AA g1;have G2:=AA g2;have G3:=AA g3;clear Y ae ah C ag j g1 g2 g3;go_upto_region 3 with fail
 go_region
 rw[<-A];clear A c0 c1 o0 z0 v0 o1 z1 v1 o2 z2 v2 o3 z3 v3 o4 z4 v4;have c0:z.cell? ⟨Q,0,none⟩=some (slice (some ⟨B,0,none⟩) L L):=by simp[cell?,G1.out.box,hL]
 have c1:z.cell? ⟨Q,1,none⟩=some (int i64 (first:Int)):=by simp[cell?,G1.out.box]
 have f1:z.frozen? ⟨Q,1,none⟩=false:=by simp[frozen?,G1.out.box]
 have e1:IntKind.i64.wrap ((first:Int)+1)=((first+1:Nat):Int):=by rw[BK];omega
 have e2:((first+1:Nat):Int).tmod (L:Int)=(((first+1) % L:Nat):Int):=by rw[Jq om];simp
 have a8:(first+1) % L<L:=Ek _ om;have z0:¬(L:Int)=0:=by omega
 have z1:¬L=0:=by omega
 obtain⟨s,hs⟩:∃s,first+1=s:=⟨_,rfl⟩;obtain⟨i,hi⟩:∃i,s % L=i:=⟨_,rfl⟩;rw[hs]at e1 e2 a8;rw[hi]at e2 a8;obtain⟨W4,x⟩:∃V,V=(z.setCell ⟨Q,1,none⟩ (int i64 (i:Int))).drew:=⟨_,rfl⟩;have j:Ab X Q B first many closed (y.set first ⟨0,0,0,none,0,0,0⟩) z.drew:=G1.out.below (AN z 1);obtain⟨h1,h2⟩:=j.setF i (by rw[BG,hL];exact a8);have h1:Ab X Q B i many closed (y.set first ⟨0,0,0,none,0,0,0⟩) W4:=by rw[x];exact h1
 have h2:Chg X z W4:=by rw[x];exact(Chg.of_same (AN z 1)).then h2
 have h3:Chg (λk=>k=Q) z W4:=by rw[x];exact(Chg.of_same (AN z 1)).then ((Chg.refl (λk=>k=Q) _).set (show Q=Q from rfl))
 have ew:IntKind.i64.wrap ((many:Int)-1)=((many-1:Nat):Int):=by rw[BK];omega
 obtain⟨M,hM⟩:∃M,many-1=M:=⟨_,rfl⟩;rw[hM]at ew;obtain⟨q1,q2⟩:=h1.setM M (by rw[BG];omega);have q3:Chg (λk=>k=Q) W4 (W4.setCell ⟨Q,2,none⟩ (int i64 (M:Int))):=(Chg.refl (λk=>k=Q) _).set (show Q=Q from rfl);have m2:W4.cell? ⟨Q,2,none⟩=some (int i64 (many:Int)):=by simp[cell?,h1.box]
 have n2:W4.frozen? ⟨Q,2,none⟩=false:=by simp[frozen?,h1.box]
 obtain⟨I,ac⟩:∃V,V=W4.setCell ⟨Q,2,none⟩ (int i64 (M:Int)):=⟨_,rfl⟩;rw[<-ac]at q1 q2 q3;have af:=(AD.1 h.places).1;have ad:=(AD.1 h.box).1;have aa:∀k,w.heap.size<=k->k<Z.heap.size->I.heap[k]?=Z.heap[k]?:=λk hk al=>
  (q3.block k (by have:=G3.out.size;have:=h3.size;omega) (by show k≠Q;omega)).trans ((h3.block k (by have:=G3.out.size;omega) (by show k≠Q;omega)).trans (G3.out.block k al (by show k≠B;omega)))
 have D:I.heap[w.heap.size+1+1]?=_:=(aa _ om (AD.1 aj.out).1).trans aj.out;have N:I.heap[w.heap.size]?=_:=(aa _ om (AD.1 ak.out).1).trans ak.out;have x0:I.cell? ⟨w.heap.size+1+1,0,none⟩=some (int i64 p.num):=by simp[cell?,D]
 have t0:I.cell? ⟨w.heap.size,0,none⟩=some (int i64 0):=by simp[cell?,N]
 have u0:I.frozen? ⟨w.heap.size,0,none⟩=false:=by simp[frozen?,N]
 have x1:I.cell? ⟨w.heap.size+1+1,1,none⟩=some (int i64 p.start):=by simp[cell?,D]
 have t1:I.cell? ⟨w.heap.size,1,none⟩=some (int i64 0):=by simp[cell?,N]
 have u1:I.frozen? ⟨w.heap.size,1,none⟩=false:=by simp[frozen?,N]
 have x2:I.cell? ⟨w.heap.size+1+1,2,none⟩=some (int i64 p.warm):=by simp[cell?,D]
 have t2:I.cell? ⟨w.heap.size,2,none⟩=some (int i64 0):=by simp[cell?,N]
 have u2:I.frozen? ⟨w.heap.size,2,none⟩=false:=by simp[frozen?,N]
 have x3:I.cell? ⟨w.heap.size+1+1,3,none⟩=some (slice p.a p.m p.c):=by simp[cell?,D]
 have t3:I.cell? ⟨w.heap.size,3,none⟩=some (slice none 0 0):=by simp[cell?,N]
 have u3:I.frozen? ⟨w.heap.size,3,none⟩=false:=by simp[frozen?,N]
 have x4:I.cell? ⟨w.heap.size+1+1,4,none⟩=some (int i64 p.buf):=by simp[cell?,D]
 have t4:I.cell? ⟨w.heap.size,4,none⟩=some (int i64 0):=by simp[cell?,N]
 have u4:I.frozen? ⟨w.heap.size,4,none⟩=false:=by simp[frozen?,N]
 have Q1:=AA q1;have Q2:=AA ((Chg.of_same ap.out).then (G2.out.then (h2.then q2)));have ar:=AA a7;have am:=AA N;have HL:=AA (Lq hL (Lq hs (Lq hi hM)));have ao:=AA (Lq ad af);clear j h1 h2 h3 q1 q2 q3 aa D N af ad h r1 r2 r3 r4 hp y0 y1 y2 y3 y4 hL hs hi hM a7;go_upto_region 4 with fail
 go_region
 rw[<-x];clear x c0 c1 f1;go_upto_region 6 with fail
 rw[<-ac];clear ac m2 n2;go_wp2;have ab:Chg (λk=>k=w.heap.size) I (((((I.setCell ⟨w.heap.size,0,none⟩ (int i64 p.num)).setCell ⟨w.heap.size,1,none⟩ (int i64 p.start)).setCell ⟨w.heap.size,2,none⟩ (int i64 p.warm)).setCell ⟨w.heap.size,3,none⟩ (slice p.a p.m p.c)).setCell ⟨w.heap.size,4,none⟩ (int i64 p.buf)):=(((((Chg.refl (λk=>k=w.heap.size) I).set (show w.heap.size=w.heap.size from rfl)).set (show w.heap.size=w.heap.size from rfl)).set (show w.heap.size=w.heap.size from rfl)).set (show w.heap.size=w.heap.size from rfl)).set (show w.heap.size=w.heap.size from rfl);have ai:(((((I.setCell ⟨w.heap.size,0,none⟩ (int i64 p.num)).setCell ⟨w.heap.size,1,none⟩ (int i64 p.start)).setCell ⟨w.heap.size,2,none⟩ (int i64 p.warm)).setCell ⟨w.heap.size,3,none⟩ (slice p.a p.m p.c)).setCell ⟨w.heap.size,4,none⟩ (int i64 p.buf)).heap[w.heap.size]?=some (.cells #[int i64 p.num,int i64 p.start,int i64 p.warm,slice p.a p.m p.c,int i64 p.buf] 126 (0,0)):=by have s1:=AJ (i:=0) am.out (int i64 p.num);have s2:=AJ (i:=1) s1 (int i64 p.start);have s3:=AJ (i:=2) s2 (int i64 p.warm);have s4:=AJ (i:=3) s3 (slice p.a p.m p.c);have s5:=AJ (i:=4) s4 (int i64 p.buf);exact s5
 refine Vf (adp (B:=w.heap.size) rfl rfl ai) rfl ?_;obtain⟨ad,af⟩:=ao.out;have aq:=Q2.out.size;obtain⟨l1,l2,l3,l4⟩:=HL.out;refine⟨rfl,?_,?_⟩
 ·rw[l1,l2,l3,l4];exact⟨(ab.block Q om (by show Q≠w.heap.size;omega)).trans Q1.out.box,(ab.block B om (by show B≠w.heap.size;omega)).trans Q1.out.places,Q1.out.inX,Q1.out.ne,Q1.out.room⟩
 ·exact Q2.out.trans ab λk hk e=>absurd e om
theorem ak0{X:Nat->Prop}{Q B first many:Nat}{closed:Bool}{N:List PcW}(w:World)(h:Ab X Q B first many closed N w)(z:many=0) :Calls ZP 199 #[pointer (some ⟨Q,0,none⟩)] w λe w'=>e=.returned (.tuple #[.agg #[int i64 0,int i64 0,int i64 0,slice none 0 0,int i64 0],bool false])/\Ab X Q B first many closed N w'/\Chg X w w':=by
 obtain⟨W,hW⟩:∃W,W=w.alloc (.cells #[int i64 0,int i64 0,int i64 0,slice none 0 0,int i64 0] 126):=⟨_,rfl⟩;have hB:Bt w W:=by rw[hW];exact AL _ _
 have Z:W.heap[w.heap.size]?=some (.cells #[int i64 0,int i64 0,int i64 0,slice none 0 0,int i64 0] 126 (0,0)):=by rw[hW];exact AT _ _
 have U:=h.below hB;have c2:W.cell? ⟨Q,2,none⟩=some (int i64 (many:Int)):=by simp[cell?,U.box]
 have e0:decide ((many:Int)=0)=true:=by simp;omega
 have e1:((many:Int)==0)=true:=by simp;omega
 have x0:W.cell? ⟨w.heap.size,0,none⟩=some (int i64 0):=by simp[cell?,Z]
 have u0:W.frozen? ⟨w.heap.size,0,none⟩=false:=by simp[frozen?,Z]
 have x1:W.cell? ⟨w.heap.size,1,none⟩=some (int i64 0):=by simp[cell?,Z]
 have u1:W.frozen? ⟨w.heap.size,1,none⟩=false:=by simp[frozen?,Z]
 have x2:W.cell? ⟨w.heap.size,2,none⟩=some (int i64 0):=by simp[cell?,Z]
 have u2:W.frozen? ⟨w.heap.size,2,none⟩=false:=by simp[frozen?,Z]
 have j:W.cell? ⟨w.heap.size,3,none⟩=some (slice none 0 0):=by simp[cell?,Z]
 have u3:W.frozen? ⟨w.heap.size,3,none⟩=false:=by simp[frozen?,Z]
 have s:W.cell? ⟨w.heap.size,4,none⟩=some (int i64 0):=by simp[cell?,Z]
 have u4:W.frozen? ⟨w.heap.size,4,none⟩=false:=by simp[frozen?,Z]
 have Y:Chg (λk=>k=w.heap.size) W (((((W.setCell ⟨w.heap.size,0,none⟩ (int i64 0)).setCell ⟨w.heap.size,1,none⟩ (int i64 0)).setCell ⟨w.heap.size,2,none⟩ (int i64 0)).setCell ⟨w.heap.size,3,none⟩ (slice none 0 0)).setCell ⟨w.heap.size,4,none⟩ (int i64 0)):=(((((Chg.refl (λk=>k=w.heap.size) W).set (show w.heap.size=w.heap.size from rfl)).set (show w.heap.size=w.heap.size from rfl)).set (show w.heap.size=w.heap.size from rfl)).set (show w.heap.size=w.heap.size from rfl)).set (show w.heap.size=w.heap.size from rfl);have V:(((((W.setCell ⟨w.heap.size,0,none⟩ (int i64 0)).setCell ⟨w.heap.size,1,none⟩ (int i64 0)).setCell ⟨w.heap.size,2,none⟩ (int i64 0)).setCell ⟨w.heap.size,3,none⟩ (slice none 0 0)).setCell ⟨w.heap.size,4,none⟩ (int i64 0)).heap[w.heap.size]?=some (.cells #[int i64 0,int i64 0,int i64 0,slice none 0 0,int i64 0] 126 (0,0)):=by have s1:=AJ (i:=0) Z (int i64 0);have s2:=AJ (i:=1) s1 (int i64 0);have s3:=AJ (i:=2) s2 (int i64 0);have s4:=AJ (i:=3) s3 (slice none 0 0);have s5:=AJ (i:=4) s4 (int i64 0);exact s5
 have H:=(AD.1 h.places).1;have I:=(AD.1 h.box).1;have J:=hB.size;have C:Ab X Q B first many closed N (((((W.setCell ⟨w.heap.size,0,none⟩ (int i64 0)).setCell ⟨w.heap.size,1,none⟩ (int i64 0)).setCell ⟨w.heap.size,2,none⟩ (int i64 0)).setCell ⟨w.heap.size,3,none⟩ (slice none 0 0)).setCell ⟨w.heap.size,4,none⟩ (int i64 0)):=⟨(Y.block Q om (by show Q≠w.heap.size;omega)).trans U.box,(Y.block B om (by show B≠w.heap.size;omega)).trans U.places,U.inX,U.ne,U.room⟩;have A:Chg X w (((((W.setCell ⟨w.heap.size,0,none⟩ (int i64 0)).setCell ⟨w.heap.size,1,none⟩ (int i64 0)).setCell ⟨w.heap.size,2,none⟩ (int i64 0)).setCell ⟨w.heap.size,3,none⟩ (slice none 0 0)).setCell ⟨w.heap.size,4,none⟩ (int i64 0)):=(Chg.of_same hB).trans Y λk hk e=>absurd e om;have D:=AA V;have y:=AA C;have x:=AA A;clear h U Z z hB Y V C A H I J;go_enter func199,ntmps199;go_upto_region 1 with fail
 rw[<-hW];have HW:=AA hW;clear hW;go_wp2;refine Vf (aaG (B:=w.heap.size) rfl rfl D.out) rfl ?_;exact⟨rfl,y.out,x.out⟩
theorem akk{X:Nat->Prop}{Q B first many:Nat}{closed:Bool}{H:List PcW}(p:PcW)(w:World)(h:Ab X Q B first many closed H w)(hm:0<many)(j:H[first]?=some p) :Calls ZP 199 #[pointer (some ⟨Q,0,none⟩)] w λe w'=>e=.returned (.tuple #[.agg #[int i64 p.num,int i64 p.start,int i64 p.warm,slice p.a p.m p.c,int i64 p.buf],bool true])/\Ab X Q B ((first+1) % H.length) (many-1) closed (H.set first ⟨0,0,0,none,0,0,0⟩) w'/\Chg X w w':=by
 obtain⟨W,hW⟩:∃W,W=w.alloc (.cells #[int i64 0,int i64 0,int i64 0,slice none 0 0,int i64 0] 126):=⟨_,rfl⟩;have hB:Bt w W:=by rw[hW];exact AL _ _
 have s:W.heap[w.heap.size]?=some (.cells #[int i64 0,int i64 0,int i64 0,slice none 0 0,int i64 0] 126 (0,0)):=by rw[hW];exact AT _ _
 have N:=(AD.1 h.box).1;have J:=(AD.1 h.places).1;have V:W.heap.size=w.heap.size+1:=by rw[hW];simp
 have D:Ab (λk=>k=Q∨k=B) Q B first many closed H W:=⟨(h.below hB).box,(h.below hB).places,⟨.inl rfl,.inr rfl⟩,h.ne,h.room⟩;have HP:=AA (ala p W D hm j);have c2:W.cell? ⟨Q,2,none⟩=some (int i64 (many:Int)):=by simp[cell?,D.box]
 have e0:decide ((many:Int)=0)=false:=by simp;omega
 have e1:((many:Int)==0)=false:=by simp;omega
 have e2:decide (many=0)=false:=by simp;omega
 have HX:=AA s;have HS:=AA (Lq N (Lq J V));have y:=AA h.inX;have HB:=AA hB;clear h s hm j hB D N J V;go_enter func199,ntmps199;go_upto_region 1 with fail
 rw[<-hW];clear hW;go_upto_region 3 with fail
 clear c2
 go_wp2_with fail
 refine HP.out.mono ?_;rintro e Y ⟨rfl,C,A⟩;obtain⟨N,J,V⟩:=HS.out;have Z:Y.heap[w.heap.size]?=some (.cells #[int i64 0,int i64 0,int i64 0,slice none 0 0,int i64 0] 126 (0,0)):=(A.block w.heap.size om (by show ¬(w.heap.size=Q∨w.heap.size=B);omega)).trans HX.out;have x0:Y.cell? ⟨w.heap.size,0,none⟩=some (int i64 0):=by simp[cell?,Z]
 have u0:Y.frozen? ⟨w.heap.size,0,none⟩=false:=by simp[frozen?,Z]
 have x1:Y.cell? ⟨w.heap.size,1,none⟩=some (int i64 0):=by simp[cell?,Z]
 have u1:Y.frozen? ⟨w.heap.size,1,none⟩=false:=by simp[frozen?,Z]
 have x2:Y.cell? ⟨w.heap.size,2,none⟩=some (int i64 0):=by simp[cell?,Z]
 have u2:Y.frozen? ⟨w.heap.size,2,none⟩=false:=by simp[frozen?,Z]
 have x3:Y.cell? ⟨w.heap.size,3,none⟩=some (slice none 0 0):=by simp[cell?,Z]
 have u3:Y.frozen? ⟨w.heap.size,3,none⟩=false:=by simp[frozen?,Z]
 have x4:Y.cell? ⟨w.heap.size,4,none⟩=some (int i64 0):=by simp[cell?,Z]
 have u4:Y.frozen? ⟨w.heap.size,4,none⟩=false:=by simp[frozen?,Z]
 have U:Chg (λk=>k=w.heap.size) Y (((((Y.setCell ⟨w.heap.size,0,none⟩ (int i64 p.num)).setCell ⟨w.heap.size,1,none⟩ (int i64 p.start)).setCell ⟨w.heap.size,2,none⟩ (int i64 p.warm)).setCell ⟨w.heap.size,3,none⟩ (slice p.a p.m p.c)).setCell ⟨w.heap.size,4,none⟩ (int i64 p.buf)):=(((((Chg.refl (λk=>k=w.heap.size) Y).set (show w.heap.size=w.heap.size from rfl)).set (show w.heap.size=w.heap.size from rfl)).set (show w.heap.size=w.heap.size from rfl)).set (show w.heap.size=w.heap.size from rfl)).set (show w.heap.size=w.heap.size from rfl);have I:(((((Y.setCell ⟨w.heap.size,0,none⟩ (int i64 p.num)).setCell ⟨w.heap.size,1,none⟩ (int i64 p.start)).setCell ⟨w.heap.size,2,none⟩ (int i64 p.warm)).setCell ⟨w.heap.size,3,none⟩ (slice p.a p.m p.c)).setCell ⟨w.heap.size,4,none⟩ (int i64 p.buf)).heap[w.heap.size]?=some (.cells #[int i64 p.num,int i64 p.start,int i64 p.warm,slice p.a p.m p.c,int i64 p.buf] 126 (0,0)):=by have s1:=AJ (i:=0) Z (int i64 p.num);have s2:=AJ (i:=1) s1 (int i64 p.start);have s3:=AJ (i:=2) s2 (int i64 p.warm);have s4:=AJ (i:=3) s3 (slice p.a p.m p.c);have s5:=AJ (i:=4) s4 (int i64 p.buf);exact s5
 have z:=A.size;have hF:Ab X Q B ((first+1) % H.length) (many-1) closed (H.set first ⟨0,0,0,none,0,0,0⟩) (((((Y.setCell ⟨w.heap.size,0,none⟩ (int i64 p.num)).setCell ⟨w.heap.size,1,none⟩ (int i64 p.start)).setCell ⟨w.heap.size,2,none⟩ (int i64 p.warm)).setCell ⟨w.heap.size,3,none⟩ (slice p.a p.m p.c)).setCell ⟨w.heap.size,4,none⟩ (int i64 p.buf)):=⟨(U.block Q om (by show Q≠w.heap.size;omega)).trans C.box,(U.block B om (by show B≠w.heap.size;omega)).trans C.places,y.out,C.ne,C.room⟩;have hC:Chg X w (((((Y.setCell ⟨w.heap.size,0,none⟩ (int i64 p.num)).setCell ⟨w.heap.size,1,none⟩ (int i64 p.start)).setCell ⟨w.heap.size,2,none⟩ (int i64 p.warm)).setCell ⟨w.heap.size,3,none⟩ (slice p.a p.m p.c)).setCell ⟨w.heap.size,4,none⟩ (int i64 p.buf)):=((Chg.of_same HB.out).then (A.mono λk _ e=>e.elim (λe=>by rw[e];exact y.out.1) λe=>by rw[e];exact y.out.2)).trans U λk hk e=>absurd e om;have x:=AA I;have HF:=AA hF;have HC:=AA hC;clear C A Z U I hF hC N J V z;go_wp2;refine Vf (aaG (B:=w.heap.size) rfl rfl x.out) rfl ?_;exact⟨rfl,HF.out,HC.out⟩
theorem al6{X:Nat->Prop}{Q B first many:Nat}{N:List AF}(p:AF)(a:Option Addr)(c:Nat)(w:World)(h:AY X Q B first many false N w)(hm:many<N.length)(hp:SlK 2 w a 1 [int i64 p.1,int i64 p.2]) :Calls ZP 206 #[pointer (some ⟨Q,0,none⟩),slice a 1 c] w λe w'=>e=.returned (bool true)/\AY X Q B first (many+1) false (N.set ((first+many) % N.length) p) w'/\Chg X w w':=by
 obtain⟨b,off,rfl,a2,y⟩:=hp.2.resolve_left (by decide);have c3:w.cell? ⟨Q,3,none⟩=some (bool false):=by simp[cell?,h.box]
 have HL:=AA (aec w h);obtain⟨M,hM⟩:∃M,N.length-many=M:=⟨_,rfl⟩;rw[hM]at HL;have e1:decide ((1:Int) > (M:Int))=false:=by simp;omega
 have e2:decide ((M:Int)<1)=false:=by simp;omega
 have e3:decide (M<1)=false:=by simp;omega
 have e4:decide (M=0)=false:=by simp;omega
 have HV:Hid (∀V,Bt w V->AY X Q B first many false N V/\∀i u,([int i64 p.1,int i64 p.2]:List Value)[i]?=some u->V.cell? ⟨b,off+i,none⟩=some u):=λV C=>⟨h.below C,λi u hu=>(C.cell (p:=⟨b,off+i,none⟩) a2).trans (y i u hu)⟩;have ab:=AA hm;clear h hm hp y hM;go_enter func206,ntmps206;go_upto_region 4 with(go_at_call 246;refine HL.out.mono ?_;rintro e w1 ⟨rfl,x⟩)
 have ae:=AA x;clear x c3
 go_loopw[26] (λa1 wr=>∃k:Nat,k<=1/\a1=int i64 (k:Int)/\Hid (k=0->Bt w wr)/\Hid (k=1->AY X Q B first (many+1) false (N.set ((first+many) % N.length) p) wr/\Chg X w wr)) (λs _=>1-(intOf s).toNat)
 case atStart=>exact⟨0,by omega,rfl,λ_=>ae.out,λh=>by cases h⟩
 case round=>
  obtain⟨k,hk,rfl,H0,H1⟩:=hrel
  by_cases h0:k=0
  ·subst h0;have hb:=H0.out rfl;obtain⟨hS,Z⟩:=HV.out wr hb;have x0:wr.cell? ⟨b,off,none⟩=some (int i64 p.1):=Z 0 _ rfl;have x1:wr.cell? ⟨b,off+1,none⟩=some (int i64 p.2):=Z 1 _ rfl;have A:(wr.alloc (.cells #[int i64 0,int i64 0] 116)).heap[wr.heap.size]?=some (.cells #[int i64 0,int i64 0] 116 (0,0)):=AT _ _;have n0:(wr.alloc (.cells #[int i64 0,int i64 0] 116)).cell? ⟨wr.heap.size,0,none⟩=some (int i64 0):=by simp only[cell?,A];simp
   have g0:(wr.alloc (.cells #[int i64 0,int i64 0] 116)).frozen? ⟨wr.heap.size,0,none⟩=false:=by simp only[frozen?,A];simp
   have n1:(wr.alloc (.cells #[int i64 0,int i64 0] 116)).cell? ⟨wr.heap.size,1,none⟩=some (int i64 0):=by simp only[cell?,A];simp
   have g1:(wr.alloc (.cells #[int i64 0,int i64 0] 116)).frozen? ⟨wr.heap.size,1,none⟩=false:=by simp only[frozen?,A];simp
   clear Z;go_upto_region 6 with fail
   obtain⟨W,hW⟩:∃W,W=wr.alloc (.cells #[int i64 p.1,int i64 p.2] 116):=⟨_,rfl⟩;rw[<-hW];have hx:W.heap[wr.heap.size]?=some (.cells #[int i64 p.1,int i64 p.2] 116 (0,0)):=by rw[hW];exact AT _ _
   have I:Bt w W:=hb.trans (by rw[hW];exact(AL _ _).mono hb.size);have a7:=(AD.1 hS.box).1;have a8:=(AD.1 hS.places).1;obtain⟨D,hD⟩:∃D,D=W.drew:=⟨_,rfl⟩;have H:Bt w D:=I.trans (by rw[hD];exact(AN W 1).mono I.size);have J:D.heap[wr.heap.size]?=some (.cells #[int i64 p.1,int i64 p.2] 116 (0,0)):=by rw[hD];exact hx
   have U:=(HV.out D H).1;have j:AY (λk=>k=Q∨k=B) Q B first many false N D:=⟨U.box,U.places,⟨.inl rfl,.inr rfl⟩,U.ne,U.room⟩;have HP:=AA (ak7 p D j ab.out);have s0:W.cell? ⟨wr.heap.size,0,none⟩=some (int i64 p.1):=by simp[cell?,hx]
   have s1:W.cell? ⟨wr.heap.size,1,none⟩=some (int i64 p.2):=by simp[cell?,hx]
   have HK:Hid (∀V,Chg (λk=>k=Q∨k=B) D V->V.cell? ⟨wr.heap.size,0,none⟩=some (int i64 p.1)/\V.cell? ⟨wr.heap.size,1,none⟩=some (int i64 p.2)):=λV C=>by have e:V.heap[wr.heap.size]?=_:=(C.block wr.heap.size (AD.1 J).1 (by show ¬(wr.heap.size=Q∨wr.heap.size=B);omega)).trans J;refine⟨?_,?_⟩<;>simp[cell?,e]
   have HI:=AA U.inX;have ad:=AA H;clear hS hx I a7 a8 H J U j hb A hW x0 n0 g0 x1 n1 g1;refine Vb ?_;refine Va (S:=λY=>Y.cell? ⟨wr.heap.size,0,none⟩=some (int i64 p.1)/\Y.cell? ⟨wr.heap.size,1,none⟩=some (int i64 p.2)) kr ⟨s0,s1⟩ (λhHeld=>?_);rw[<-hD]at hHeld⊢;clear hD s0 s1;refine tkA 0 ?_;refine tkA 1 ?_;refine tkA 2 ?_;refine tkW 3 (v:=?_) ?_ ?_;rotate_left
   ·intro V C;obtain⟨q0,q1⟩:=C
    first|(go_simp;done)|(go_simp;with_reducible rfl)
   try simp only[pq]
   refine rdy 4 (λK hK=>?_);go_simp
   go_at_call 247;refine(HP.out).mono ?_;rintro e w5 ⟨⟨v5,rfl⟩,z,hc⟩
   refine hK.out _ _ ((HK.out w5 hc)) (λa6=>?_);clear hK K
   try simp only[pq]
   have aa:Hid (AY X Q B first (many+1) false (N.set ((first+many) % N.length) p) w5):=⟨z.box,z.places,HI.out,z.ne,z.room⟩;have ac:Hid (Chg X w w5):=(Chg.of_same ad.out).then (hc.mono λk _ e=>e.elim (λe=>by rw[e];exact HI.out.1) λe=>by rw[e];exact HI.out.2);clear z hc a6 hHeld;refine Vd kr ?_ _;refine At ?_;go_wp2
   go_roundw
   case rel=>
    refine⟨1,AC _,by go_num,?_,?_⟩
    ·intro h;cases h
    ·intro _;exact⟨aa.out,ac.out⟩
   case measure=>simp[intOf]
  ·obtain rfl:k=1:=by omega
   obtain⟨g1,g2⟩:=H1.out rfl;go_wp2;go_ret;exact⟨rfl,g1,g2⟩
theorem ama{X:Nat->Prop}{Q B first many:Nat}{N:List PcW}(p:PcW)(a:Option Addr)(c:Nat)(w:World)(h:Ab X Q B first many false N w)(hm:many<N.length)(hp:SlK 5 w a 1 [int i64 p.num,int i64 p.start,int i64 p.warm,slice p.a p.m p.c,int i64 p.buf]) :Calls ZP 196 #[pointer (some ⟨Q,0,none⟩),slice a 1 c] w λe w'=>e=.returned (bool true)/\Ab X Q B first (many+1) false (N.set ((first+many) % N.length) p) w'/\Chg X w w':=by
 obtain⟨b,off,rfl,a6,x⟩:=hp.2.resolve_left (by decide);have c3:w.cell? ⟨Q,3,none⟩=some (bool false):=by simp[cell?,h.box]
 have HL:=AA (adS w h);obtain⟨M,hM⟩:∃M,N.length-many=M:=⟨_,rfl⟩;rw[hM]at HL;have e1:decide ((1:Int) > (M:Int))=false:=by simp;omega
 have e2:decide ((M:Int)<1)=false:=by simp;omega
 have e3:decide (M<1)=false:=by simp;omega
 have e4:decide (M=0)=false:=by simp;omega
 have HV:Hid (∀V,Bt w V->Ab X Q B first many false N V/\∀i u,([int i64 p.num,int i64 p.start,int i64 p.warm,slice p.a p.m p.c,int i64 p.buf]:List Value)[i]?=some u->V.cell? ⟨b,off+i,none⟩=some u):=λV z=>⟨h.below z,λi u hu=>(z.cell (p:=⟨b,off+i,none⟩) a6).trans (x i u hu)⟩;have ac:=AA hm;clear h hm hp x hM;go_enter func196,ntmps196;go_upto_region 4 with(go_at_call 237;refine HL.out.mono ?_;rintro e w1 ⟨rfl,j⟩)
 have af:=AA j;clear j c3
 go_loopw[26] (λa2 wr=>∃k:Nat,k<=1/\a2=int i64 (k:Int)/\Hid (k=0->Bt w wr)/\Hid (k=1->Ab X Q B first (many+1) false (N.set ((first+many) % N.length) p) wr/\Chg X w wr)) (λs _=>1-(intOf s).toNat)
 case atStart=>exact⟨0,by omega,rfl,λ_=>af.out,λh=>by cases h⟩
 case round=>
  obtain⟨k,hk,rfl,H0,H1⟩:=hrel
  by_cases h0:k=0
  ·subst h0;have hb:=H0.out rfl;obtain⟨hS,Z⟩:=HV.out wr hb;have x0:wr.cell? ⟨b,off,none⟩=some (int i64 p.num):=Z 0 _ rfl;have x1:wr.cell? ⟨b,off+1,none⟩=some (int i64 p.start):=Z 1 _ rfl;have x2:wr.cell? ⟨b,off+2,none⟩=some (int i64 p.warm):=Z 2 _ rfl;have x3:wr.cell? ⟨b,off+3,none⟩=some (slice p.a p.m p.c):=Z 3 _ rfl;have x4:wr.cell? ⟨b,off+4,none⟩=some (int i64 p.buf):=Z 4 _ rfl;have J:(wr.alloc (.cells #[int i64 0,int i64 0,int i64 0,slice none 0 0,int i64 0] 126)).heap[wr.heap.size]?=some (.cells #[int i64 0,int i64 0,int i64 0,slice none 0 0,int i64 0] 126 (0,0)):=AT _ _;have n0:(wr.alloc (.cells #[int i64 0,int i64 0,int i64 0,slice none 0 0,int i64 0] 126)).cell? ⟨wr.heap.size,0,none⟩=some (int i64 0):=by simp only[cell?,J];simp
   have g0:(wr.alloc (.cells #[int i64 0,int i64 0,int i64 0,slice none 0 0,int i64 0] 126)).frozen? ⟨wr.heap.size,0,none⟩=false:=by simp only[frozen?,J];simp
   have n1:(wr.alloc (.cells #[int i64 0,int i64 0,int i64 0,slice none 0 0,int i64 0] 126)).cell? ⟨wr.heap.size,1,none⟩=some (int i64 0):=by simp only[cell?,J];simp
   have g1:(wr.alloc (.cells #[int i64 0,int i64 0,int i64 0,slice none 0 0,int i64 0] 126)).frozen? ⟨wr.heap.size,1,none⟩=false:=by simp only[frozen?,J];simp
   have n2:(wr.alloc (.cells #[int i64 0,int i64 0,int i64 0,slice none 0 0,int i64 0] 126)).cell? ⟨wr.heap.size,2,none⟩=some (int i64 0):=by simp only[cell?,J];simp
   have g2:(wr.alloc (.cells #[int i64 0,int i64 0,int i64 0,slice none 0 0,int i64 0] 126)).frozen? ⟨wr.heap.size,2,none⟩=false:=by simp only[frozen?,J];simp
   have n3:(wr.alloc (.cells #[int i64 0,int i64 0,int i64 0,slice none 0 0,int i64 0] 126)).cell? ⟨wr.heap.size,3,none⟩=some (slice none 0 0):=by simp only[cell?,J];simp
   have g3:(wr.alloc (.cells #[int i64 0,int i64 0,int i64 0,slice none 0 0,int i64 0] 126)).frozen? ⟨wr.heap.size,3,none⟩=false:=by simp only[frozen?,J];simp
   have n4:(wr.alloc (.cells #[int i64 0,int i64 0,int i64 0,slice none 0 0,int i64 0] 126)).cell? ⟨wr.heap.size,4,none⟩=some (int i64 0):=by simp only[cell?,J];simp
   have g4:(wr.alloc (.cells #[int i64 0,int i64 0,int i64 0,slice none 0 0,int i64 0] 126)).frozen? ⟨wr.heap.size,4,none⟩=false:=by simp only[frozen?,J];simp
   clear Z;go_upto_region 6 with fail
   obtain⟨W,hW⟩:∃W,W=wr.alloc (.cells #[int i64 p.num,int i64 p.start,int i64 p.warm,slice p.a p.m p.c,int i64 p.buf] 126):=⟨_,rfl⟩;rw[<-hW];have H:W.heap[wr.heap.size]?=some (.cells #[int i64 p.num,int i64 p.start,int i64 p.warm,slice p.a p.m p.c,int i64 p.buf] 126 (0,0)):=by rw[hW];exact AT _ _
   have C:Bt w W:=hb.trans (by rw[hW];exact(AL _ _).mono hb.size);have a8:=(AD.1 hS.box).1;have aa:=(AD.1 hS.places).1;obtain⟨D,hD⟩:∃D,D=W.drew:=⟨_,rfl⟩;have A:Bt w D:=C.trans (by rw[hD];exact(AN W 1).mono C.size);have I:D.heap[wr.heap.size]?=some (.cells #[int i64 p.num,int i64 p.start,int i64 p.warm,slice p.a p.m p.c,int i64 p.buf] 126 (0,0)):=by rw[hD];exact H
   have U:=(HV.out D A).1;have a1:Ab (λk=>k=Q∨k=B) Q B first many false N D:=⟨U.box,U.places,⟨.inl rfl,.inr rfl⟩,U.ne,U.room⟩;have HP:=AA (ais p D a1 ac.out);have s0:W.cell? ⟨wr.heap.size,0,none⟩=some (int i64 p.num):=by simp[cell?,H]
   have s1:W.cell? ⟨wr.heap.size,1,none⟩=some (int i64 p.start):=by simp[cell?,H]
   have s2:W.cell? ⟨wr.heap.size,2,none⟩=some (int i64 p.warm):=by simp[cell?,H]
   have s3:W.cell? ⟨wr.heap.size,3,none⟩=some (slice p.a p.m p.c):=by simp[cell?,H]
   have s4:W.cell? ⟨wr.heap.size,4,none⟩=some (int i64 p.buf):=by simp[cell?,H]
   have HK:Hid (∀V,Chg (λk=>k=Q∨k=B) D V->V.cell? ⟨wr.heap.size,0,none⟩=some (int i64 p.num)/\V.cell? ⟨wr.heap.size,1,none⟩=some (int i64 p.start)/\V.cell? ⟨wr.heap.size,2,none⟩=some (int i64 p.warm)/\V.cell? ⟨wr.heap.size,3,none⟩=some (slice p.a p.m p.c)/\V.cell? ⟨wr.heap.size,4,none⟩=some (int i64 p.buf)):=λV z=>by have e:V.heap[wr.heap.size]?=_:=(z.block wr.heap.size (AD.1 I).1 (by show ¬(wr.heap.size=Q∨wr.heap.size=B);omega)).trans I;refine⟨?_,?_,?_,?_,?_⟩<;>simp[cell?,e]
   have HI:=AA U.inX;have ae:=AA A;clear hS H C a8 aa A I U a1 hb J hW x0 n0 g0 x1 n1 g1 x2 n2 g2 x3 n3 g3 x4 n4 g4;refine Vb ?_;refine Va (S:=λY=>Y.cell? ⟨wr.heap.size,0,none⟩=some (int i64 p.num)/\Y.cell? ⟨wr.heap.size,1,none⟩=some (int i64 p.start)/\Y.cell? ⟨wr.heap.size,2,none⟩=some (int i64 p.warm)/\Y.cell? ⟨wr.heap.size,3,none⟩=some (slice p.a p.m p.c)/\Y.cell? ⟨wr.heap.size,4,none⟩=some (int i64 p.buf)) kr ⟨s0,s1,s2,s3,s4⟩ (λhHeld=>?_);rw[<-hD]at hHeld⊢;clear hD s0 s1 s2 s3 s4;refine tkA 0 ?_;refine tkA 1 ?_;refine tkA 2 ?_;refine tkW 3 (v:=?_) ?_ ?_;rotate_left
   ·intro V z;obtain⟨q0,q1,q2,q3,q4⟩:=z
    first|(go_simp;done)|(go_simp;with_reducible rfl)
   try simp only[pq]
   refine rdy 4 (λK hK=>?_);go_simp
   go_at_call 239;refine(HP.out).mono ?_;rintro e w5 ⟨⟨v5,rfl⟩,y,hc⟩
   refine hK.out _ _ ((HK.out w5 hc)) (λa7=>?_);clear hK K
   try simp only[pq]
   have ab:Hid (Ab X Q B first (many+1) false (N.set ((first+many) % N.length) p) w5):=⟨y.box,y.places,HI.out,y.ne,y.room⟩;have ad:Hid (Chg X w w5):=(Chg.of_same ae.out).then (hc.mono λk _ e=>e.elim (λe=>by rw[e];exact HI.out.1) λe=>by rw[e];exact HI.out.2);clear y hc a7 hHeld;refine Vd kr ?_ _;refine At ?_;go_wp2
   go_roundw
   case rel=>
    refine⟨1,AC _,by go_num,?_,?_⟩
    ·intro h;cases h
    ·intro _;exact⟨ab.out,ad.out⟩
   case measure=>simp[intOf]
  ·obtain rfl:k=1:=by omega
   obtain⟨g1,g2⟩:=H1.out rfl;go_wp2;go_ret;exact⟨rfl,g1,g2⟩
section
attribute[local go_sem] Oper.semAt_some
attribute[local simp] Ak Al
attribute[local go_sem] Ak Al
def ak1(b base:Nat)(l:List AF)(W:World):Prop:=∃v,Boxed W b 69 v/\Ax W base v l
theorem ae4{α:Type}{B b base:Nat}{Pb:Nat->World->World->Prop}(D:base<=b)(N:∀r W J,Pb r W J->r<base)(f:α->List AF):BT B Pb (λs W=>ak1 b base (f s) W):=by
 rintro s W J row ⟨v,Z,ho⟩ U V;have X:∀{k:Nat}{cs:Array Value}{t:TypeId},W.heap[k]?=some (.cells cs t (0,0))->base<=k->row≠some k:=λ{k cs t} hk I e=>by
  rcases V k e with⟨_,o,h1,h2⟩|h
  ·rw[hk]at h1;cases h1;cases h2
  ·have:=N k _ _ h;omega
 refine⟨v,(U.block b Z.lt (λe=>X Z D e.symm)).trans Z,ho.kept U ?_⟩
 rcases ho.2 with⟨rfl,_⟩|⟨g,cap,A,rfl,H,Y,_⟩
 ·exact .inl rfl
 ·refine .inr λe=>?_;have C:row=some g:=by rw[<-e];rfl
  rcases V g C with⟨_,o,h1,h2⟩|h
  ·rw[Y]at h1;cases h1;cases h2
  ·have:=N g _ _ h;omega
theorem alZ(V:World)(x:AF):SlK 2 (V.alloc (.cells #[int i64 x.1,int i64 x.2] 116)) (some ⟨V.heap.size,0,none⟩) 1 [int i64 x.1,int i64 x.2]:=by
 refine⟨rfl,.inr ⟨V.heap.size,0,rfl,by simp,λi u Z=>?_⟩⟩;have:=GI (w:=V) #[int i64 x.1,int i64 x.2] 116 rfl i u (by simpa using Z)
 rwa[Cf]at this
def Ki(h:AF):Array Value:=#[.agg #[int i64 h.1,int i64 h.2]]
def KpB(B:Nat)(W V:World):Prop:=W.heap.size<=V.heap.size/\∀k,k<B->k<W.heap.size->V.heap[k]?=W.heap[k]?
theorem KpB.t{B:Nat}{A C D:World}(h:KpB B A C)(k:KpB B C D):KpB B A D:=⟨AS h.1 k.1,λi h1 h2=>(k.2 i h1 (Af h2 h.1)).trans (h.2 i h1 h2)⟩
theorem KpB.of_below{B:Nat}{W V:World}(h:Below B W V):KpB B W V:=⟨h.size,λk h1 _=>h.block k h1⟩
theorem ac8{gf:Nat}{lb:Array Value}{B:Nat}{Pb:Nat->World->World->Prop}{S:List AF->World->Prop}{Sp:List AF->Prop}{N n₀:Nat}(w:World)
  (eg:∀args w,(callFunc gf args).run ZP w=.ok (.enter gf args) w)
  (a6:Hi Fence.wide 8 ZP gf lb Ki (KpB B) Pb S Sp N w) (hB:B<=w.heap.size) (A:∀r W W',Pb r W W'->r<w.heap.size) (hSk:∀(xs:List AF)(W:World)(l:Nat)(o o':Obj),w.heap.size<=l->W.heap[l]?=some o->o.isCells=false->S xs W->S xs (W.putObj l o'))
  (a7:n₀<=w.heap.size) (ai:∀r W W',Pb r W W'->n₀<=r) (hN:N<=1000000000) (ah:∀xs W,S xs W->xs.length<=1000000000) :
  Calls ZP 274 #[slice none 0 0,.func (.func gf) #[] lb] w λe w'=>∃v xs W,e=.returned v/\S xs W/\(∃D,w.heap.size<=D/\w'=W.putObj D (.deferred none))/\Ax w' w.heap.size v xs/\Below n₀ w w':=by
 obtain⟨i0,hi,ac,ab,aa⟩:=Ve IG;obtain⟨W1,hW⟩:∃W,W=w.alloc (.cells #[slice none 0 0] 69):=⟨_,rfl⟩;have U:Below w.heap.size w W1:=by rw[hW];exact AL _ _
 have bS:Boxed W1 w.heap.size 69 (slice none 0 0):=by rw[hW];exact Boxed.new _ _ _
 have af:W1.heap.size=w.heap.size+1:=by rw[hW];simp
 have a2:Hi Fence.wide 8 ZP gf lb Ki (KpB B) Pb S Sp N W1:=λl J Jx W hb=>a6 l J Jx W (U.trans (hb.mono U.size));refine Hc func274 rfl ?_;simp only[ntmps274,Cw,Ao,Bw,Nat.reduceAdd,Nat.reduceSub,Dd,Dc,DX,Da,Av,CT];go_upto_region 1 with fail
 rw[<-hW];clear hW a6;go_wp2;obtain⟨g,hg⟩:∃g,w.heap.size=g:=⟨_,rfl⟩;rw[hg]at bS af U hB A hSk a7⊢;have HG:=AA hg
 apply NL rfl eg a2 (λr W W' hr=>by have:=A r W W' hr;omega) (λxs W l o o' hl=>hSk xs W l o o' om) KpB.t ?hKb (λ_=>rfl)
  (λI V=>ak1 g g I V/\Below n₀ w V/\W1.heap.size<=V.heap.size)
  (λ_ _ _=>False)
 case hKb=>exact λW l o o' hl _ _ _=>⟨by simp[World.putObj],λk h1 _=>Cm om⟩
 case wA=>exact λx W=>W.alloc (.cells #[int i64 x.1,int i64 x.2] 116)
 case hwA=>exact λx W=>AL _ _
 case hKg=>exact λx W hW=>KpB.of_below ((AL _ _).mono om)
 case hI=>exact BT.and (ae4 (AC _) A id) (BT.and (BT.below om om ai) (BT.size _ _ _))
 case hIx=>exact λ_ _ _ _ _ hs _ _=>hs
 case h0=>exact⟨⟨_,bS,BN _ _ _ _⟩,U.mono a7,AC _⟩
 case hassign=>
  intro l x W K hK;unfold Ki
  gi_wp2
  exact hK
 case hbody=>
  rintro l I x Wb V aj ⟨⟨v,s,Z⟩,z,j⟩ ak
  try dsimp only
  have X:=aj.2 Wb.heap.size _ _ _ (AT Wb (.cells #[int i64 x.1,int i64 x.2] 116));have k0:V.cell? ⟨Wb.heap.size,0,none⟩=some (int i64 x.1):=by simp[cell?,X]
  have k1:V.cell? ⟨Wb.heap.size,1,none⟩=some (int i64 x.2):=by simp[cell?,X]
  have k2:Wb.heap.size<V.heap.size:=(AD.1 X).1;obtain⟨m,H⟩:∃m,I.length=m:=⟨_,rfl⟩;have am:m<=1000000001:=by omega
  unfold Ax at Z;rw[H]at Z;have y:=AA H;clear H;obtain⟨av,cv,rfl,ag,ae⟩:=SlK.own Z;have c2:=s.cell;have ao:=s.lt;clear X
  gi_wp2_with (gi_at_builtin;refine aa2 _ rfl _ _ 69 rfl g 116 i0 (.agg #[.int .i64 0,.int .i64 0]) 2 16 underlying69 hi ac ab aa rfl (by decide) _ _ _ rfl (Z.alloc _) (some ⟨V.heap.size,0,none⟩) 1 1 [.int .i64 x.1,.int .i64 x.2] rfl (alZ V x) (by simp[Value.oneCell']) (by unfold maxLen;omega) om (by simp;omega) ?_;intro v' w5 Y C ap;obtain⟨g',al,rfl⟩:=ownsRow_succ Y;obtain⟨b1,b2,b3,b4,b5⟩:=s.appended (Lj kr) Z om (AC _) Y C;have d1:=b1.cell;have d2:=b1.frozen;have d3:=b1.lt)
  refine⟨b4.from _,?_,⟨_,b2,?_⟩,z.trans (b5.mono om),AS j (by have:=b5.size;simpa using this)⟩
  ·exact KpB.of_below (b5.mono om)
  ·unfold Ax;rw[List.length_append,y.out,JT];exact b3
 case hstop=>exact λ_ _ _ _ _ _ h _=>h.elim
 case hdone=>
  rintro D xs V hD hS ⟨⟨v,s,Z⟩,z,j⟩ a8;have ad:=ah xs V hS;obtain⟨m,H⟩:∃m,xs.length=m:=⟨_,rfl⟩;unfold Ax at Z;rw[H]at Z ad;have y:=AA H;clear H;obtain⟨av,cv,rfl,ag,ae⟩:=SlK.own Z;have c2:=s.cell;have a1:=ownsRow_putObj Z (.deferred none) a8 rfl;have HS:=AA hS;clear Z hS;go_wp2;refine Gg rfl a8 (results_tmp rfl _ _ _) ⟨_,xs,V,rfl,HS.out,⟨D,by omega,rfl⟩,?_,FZ z om om _⟩;unfold Ax;rw[y.out,HG.out];exact a1
theorem aee{U:Nat}{C:Array Value}{B:Nat}{Pb:Nat->World->World->Prop}{S:List AF->World->Prop}{h:List AF->Prop}{N J:Nat}(w:World)
  (j:∀args w,(callFunc U args).run ZP w=.ok (.enter U args) w)
  (Z:Hi Fence.wide 8 ZP U C Ki (KpB B) Pb S h N w) (hB:B<=w.heap.size) (V:∀r W H,Pb r W H->r<w.heap.size) (hSk:∀(xs:List AF)(W:World)(l:Nat)(o o':Obj),w.heap.size<=l->W.heap[l]?=some o->o.isCells=false->S xs W->S xs (W.putObj l o'))
  (I:J<=w.heap.size) (X:∀r W H,Pb r W H->J<=r) (x:N<=1000000000) (Y:∀xs W,S xs W->xs.length<=1000000000) :
  Calls ZP 248 #[.func (.func U) #[] C] w λe w'=>∃v xs W,e=.returned v/\S xs W/\(∃D,w.heap.size<=D/\w'=W.putObj D (.deferred none))/\Ax w' w.heap.size v xs/\Below J w w':=by
 have HC:=AA (ac8 w j Z hB V hSk I X x Y);clear Z V hSk X Y;go_enter func248,ntmps248
 go_wp2_with fail
 refine HC.out.mono ?_;rintro e w1 ⟨v,xs,W,rfl,y,s,A,z⟩;go_wp2;go_ret;exact⟨v,xs,W,rfl,y,s,A,z⟩
end
end Go.Proofs.YtaamacoicojhnaaGreat
