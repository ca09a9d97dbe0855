/- Proofs over the given program, part 10. -/
import Derived.Test.YtaamacoicojhnaaGreatZO9
set_option linter.unusedVariables false
set_option linter.unusedSimpArgs false
set_option maxRecDepth 100000
set_option maxHeartbeats 16000000
open Go.Proofs.Tryz
open Go.Proofs.Tryz renaming prog→ZP
open Go.World(cell? frozen?)
open Go.Value(int slice pointer bool)
open Go.IntKind(i64)
namespace Go.Proofs.YtaamacoicojhnaaGreat
open Go.RowKit Go.Sort
theorem afm{x y:List Int}(h:y <:+x):y=x.drop (x.length-y.length):=List.suffix_iff_eq_drop.1 h
theorem acD(fold:Bool)(x:List Int)(k:Nat):AO fold (x.drop k)=(AO fold x).drop k:=by rw[Fg,Fg,List.map_drop]
theorem anm{fold:Bool}{y:List Int}(Y:AO fold y=y)(b:List Int):atL fold b (b.length:Int) y=decide (y <:+AO fold b):=by
 unfold atL CH;rw[Aa,Y]
 by_cases h:y <:+AO fold b
 ·have Z:=h.length_le;rw[Ew]at Z;have e:=afm h;rw[Ew]at e;rw[Ve h,Ve ⟨by omega,Int.le_refl _⟩,FJ,Ap (by rw[List.length_drop];omega),acD,<-e];simp
 ·rw[decide_eq_false h]
  by_cases Z:y.length<=b.length
  ·rw[Ve ⟨by omega,Int.le_refl _⟩,FJ,decide_eq_false];intro e;rw[Ap (by rw[List.length_drop];omega),acD]at e;exact h (by rw[<-e];exact List.drop_suffix _ _)
  ·rw[decide_eq_false (λX=>by omega),Bool.false_and]
def KZ(fold:Bool)(wss:Lq)(frm:Int):Bool:=decide (0<=frm/\frm<=4611686018427387904)&&An fold wss
theorem am8{fold:Bool}{wss:Lq}{frm:Int}(h:KZ fold wss frm=true):0<=frm/\frm<=4611686018427387904:=by unfold KZ at h;rw[Bq]at h;exact Vc h.1
theorem ahJ(B:Nat)(L:List Int)(m:Int)(n j:Nat)(row:Value)(fold:Bool)(D:Value)(lo C:Int)(H:Option Addr)(wc:Nat)(W:Lq)(xs:List Int)(w:World)(h:Mc w B L m (n:Int) row fold D lo C (slice H n wc))(hW:Lls w H n W)(s:j<n)(y:W[j]?=some xs)(a1:xs.length<=1000000) :Calls ZP 273 #[pointer (some ⟨B,0,none⟩),int i64 (j:Int)] w λe w'=>∃v,e=.returned v/\FB w' w.heap.size v xs/\Br w w':=by
 obtain⟨o,hi,N,U,V⟩:=Vk JS;obtain⟨b,off,a',l,c,ys,rfl,a6,I,A,J,a2⟩:=hW.at_ s;obtain rfl:ys=xs:=by have:=A.symm.trans y;cases this;rfl
 have hl:=J.1;have s0:=h.cells.2.2.2.2.2.2.2;have Y:=Nk B L m n row fold D lo C (slice (some ⟨b,off,none⟩) n wc) j w h;rw[show decide (0<=(j:Int)/\(j:Int)<(n:Int))=true by simp;omega]at Y;have HI:=AA Y;have HS:=AA J;have i1:(0:Int)<=(j:Int):=by omega
 have i2:(j:Int)<(n:Int):=by omega
 subst hl;clear Y h hW y A J s;go_enter func273,ntmps273
 go_wp2_with (first
  |(go_at_call 271;refine HI.out.mono ?_;rintro e w4 ⟨rfl,rfl⟩)
  |(at_builtin;refine Mf rfl _ _ 30 rfl (enc:=Value.int .i64) (λ_=>rfl) w.heap.size 3 o (.int .i64 0) 8 underlying30 hi N U V rfl _ 0 [] rfl (BN _ _ _ _) a' _ c ys rfl HS.out (by unfold maxLen;omega) om (AC _) ?_;intro v' w5 Z X a7))
 go_ret;refine⟨_,rfl,?_,(AH _ _).grown X (AC _) (λk e=>by cases e)⟩
 simpa[FB]using Z
theorem afA(B:Nat)(L:List Int)(m n:Int)(row:Value)(fold:Bool)(Y:Value)(lo X:Int)(wd:Value)(j:Int)(w:World)(h:Mc w B L m n row fold Y lo X wd)(V:j<0∨n<=j) :Calls ZP 273 #[pointer (some ⟨B,0,none⟩),int i64 j] w λe w'=>∃v,e=.returned v/\FB w' w.heap.size v []/\Br w w':=by
 have Z:=Nk B L m n row fold Y lo X wd j w h;rw[show decide (0<=j/\j<n)=false by simp;omega]at Z;have U:=AA Z;clear Z h V;go_enter func273,ntmps273
 go_wp2_with (go_at_call 271;refine U.out.mono ?_;rintro e w4 ⟨rfl,rfl⟩)
 go_ret;exact⟨_,rfl,BN _ _ _ _,AH _ _⟩
def Dz(wss:Lq)(node:Int):List Int:=if 0<=node/\node<((AB wss).length:Int) then CA wss node.toNat else []
theorem af6{B R U N wc:Nat}{fold:Bool}{wss:Lq}{lo Y:Int}{a V:Option Addr}(node:Int)(w:World)(h:MOK w B fold wss lo Y R a U N V wc)(Z:(Dz wss node).length<=1000000) :Calls ZP 273 #[pointer (some ⟨B,0,none⟩),int i64 node] w λe w'=>∃v,e=.returned v/\FB w' w.heap.size v (Dz wss node)/\Br w w':=by
 unfold Dz at Z⊢
 by_cases X:0<=node/\node<((AB wss).length:Int)
 ·rw[Vb X]at Z⊢;obtain⟨j,rfl⟩:∃k:Nat,node=(k:Int):=⟨node.toNat,by omega⟩;rw[Aa]at Z⊢;exact ahJ B _ _ _ j _ fold _ lo Y _ _ _ _ w h.mc h.lls om (by rw[BU,It om];rfl) Z
 ·rw[Va X];exact afA B _ _ _ _ fold _ lo Y _ node w h.mc om
theorem aik(p:Value)(node at_:Int)(xs:List Int)(w:World)(a6:xs.length<=1000000)
  (hw:∀V,Br w V->Calls ZP 273 #[p,int i64 node] V λe w'=>∃v,e=.returned v/\FB w' V.heap.size v xs/\Br V w') :
  Calls ZP 244 #[p,int i64 node,int i64 at_] w λe w'=>∃v,e=.returned v/\Ax w' w.heap.size v (xs.map λx=>(at_,x))/\Br w w':=by
 obtain⟨i0,hi,A,B,C⟩:=Vk IG;have HW:=AA hw;clear hw;go_enter func244,ntmps244;go_upto_region 2 with fail
 go_wp2_with (go_at_call 273;refine(HW.out _ (AH _ _)).mono ?_;rintro e U ⟨v,rfl,Y,I⟩;obtain⟨a1,c1,rfl,a8,H⟩:=Co Y)
 have ab:=AA Y;have o:=AA H;clear Y H
 go_loopw[7,14] (λv i wr=>∃k:Nat,k<=xs.length/\i=int i64 k/\Br U wr/\Ax wr U.heap.size v ((xs.take k).map λx=>(at_,x))) (λ_ i _=>xs.length-(intOf i).toNat)
 case atStart=>exact⟨0,AR _,rfl,AH _ _,by simpa[Ax,AV]using BN U U.heap.size 116 2⟩
 case round=>
  obtain⟨k,hk,rfl,X,Z⟩:=hrel
  by_cases y:k<xs.length
  ·have hd:decide ((k:Int)<(xs.length:Int))=true:=by simp;omega
   obtain⟨b0,o0,x,e0,aa,cx,hx⟩:=DG (o.out.below X) y;subst e0;have i1:(0:Int)<=(k:Int):=by omega
   have i2:(k:Int)<(xs.length:Int):=by omega
   have HX:=AA hx;obtain⟨m,D⟩:∃m,((xs.take k).map λx=>(at_,x)).length=m:=⟨_,rfl⟩;have a7:m=k:=by rw[<-D,BP,Ag];omega
   unfold Ax at Z;rw[D]at Z;have HM:=AA D;clear D hx
   go_wp2_with (at_builtin;refine wpList_append_own _ rfl _ _ 69 rfl U.heap.size 116 i0 (.agg #[.int .i64 0,.int .i64 0]) 2 16 underlying69 hi A B C rfl (by decide) _ _ _ rfl (Z.alloc _) ⟨wr.heap.size,0,none⟩ 1 1 [.int .i64 at_,.int .i64 x] rfl rfl (GI _ _ rfl) (by simp[Value.oneCell']) (by unfold maxLen;omega) om (by have:=X.size;simp;omega) ?_;intro v' w5 N J a2)
   have s:Br U w5:=(X.alloc (by have:=X.size;omega) _).grown J (by have:=X.size;simp;omega) (λj hj=>(Z.lt j hj).1)
   go_roundw
   case rel=>
    refine⟨k+1,by omega,by go_num,s,?_⟩;unfold Ax;rw[As HX.out,Aj,List.length_append,HM.out];show w5.ownsRow U.heap.size 116 2 v' (m+1) (AV (((xs.take k).map λx=>(at_,x))++[(at_,x)]));rw[afo];exact N
   case measure=>simp[intOf];omega
  ·obtain rfl:k=xs.length:=by omega
   have hd:decide ((xs.length:Int)<(xs.length:Int))=false:=by simp
   rw[Hl]at Z;go_wp2;go_ret;exact⟨_,rfl,Go.Joins.ownsRow_le Z I.size,I.trans (X.mono I.size)⟩
theorem aih{B R U J wc:Nat}{fold:Bool}{wss:Lq}{lo X:Int}{a Y:Option Addr}(node at_:Int)(w:World)(h:MOK w B fold wss lo X R a U J Y wc)(Z:(Dz wss node).length<=1000000) :Calls ZP 244 #[pointer (some ⟨B,0,none⟩),int i64 node,int i64 at_] w λe w'=>∃v,e=.returned v/\Ax w' w.heap.size v ((Dz wss node).map λx=>(at_,x))/\Br w w':=aik _ node at_ _ w Z (λV N=>af6 node V (h.below N) Z)
theorem aer:∀(l:Lq)(k:Nat),∃N:Nat,l.foldl (λn w=>max n (w.length:Int)) (k:Int)=(N:Int)/\k<=N/\(∀y∈l,y.length<=N)/\∀M,k<=M->(∀y∈l,y.length<=M)->N<=M
 |[],k=>⟨k,rfl,AC _,λy Z=>by simp at Z,λM h _=>h⟩
 |x::l,k=>by
  obtain⟨N,h1,h2,h3,h4⟩:=aer l (max k x.length);refine⟨N,?_,by omega,λy Z=>?_,λM hk Y=>h4 M (by have:=Y x (List.mem_cons_self ..);omega) λy Z=>Y y (MT _ Z)⟩
  ·rw[List.foldl_cons,<-h1];congr 1;omega
  ·rcases CR.1 Z with rfl|Z
   ·omega
   ·exact h3 y Z
theorem acs(l:Lq):∃N:Nat,Au l=(N:Int)/\(∀y∈l,y.length<=N)/\∀M,(∀y∈l,y.length<=M)->N<=M:=by obtain⟨N,h1,_,h3,h4⟩:=aer l 0;exact⟨N,h1,h3,λM Z=>h4 M (AR _) Z⟩
theorem amq{L F:List Int}{m j c:Nat}{y:Int}(h:goD L (m:Int) F (j:Int) c=some y)(V:L.length=256)(X:c<256):∃v:Nat,L[c]?=some (v:Int)/\v<m/\F[j*m+v]?=some y:=by
 obtain⟨v,Z⟩:∃v,L[c]?=some v:=⟨L[c]'om,by simp⟩;unfold goD at h;rw[Z,CG]at h
 split at h
 ·exact absurd h sm
 ·rename_i Y
  obtain⟨v,rfl⟩:∃k:Nat,v=(k:Int):=⟨v.toNat,by omega⟩;refine⟨v,Z,by omega,?_⟩;rw[show((j:Int)*(m:Int)+(v:Int)).toNat=j*m+v by rw[<-Iy];omega]at h;exact h
theorem ali(B R:Nat)(L F:List Int)(m j c Z c0:Nat)(y n:Int)(fold:Bool)(H:Value)(lo A:Int)(wd:Value)(w:World)(h:Mc w B L m n (slice (some ⟨R,0,none⟩) Z c0) fold H lo A wd)(U:Sl1 (int i64) w (some ⟨R,0,none⟩) Z F)(hn:Z<=1000000000)(hc:c<256)(N:goD L (m:Int) F (j:Int) c=some y) :Calls ZP 272 #[pointer (some ⟨B,0,none⟩),int i64 (j:Int),.int .u8 (c:Int)] w λe w'=>e=.returned (int i64 y)/\Br w w':=by
 obtain⟨v,J,o,V⟩:=amq N h.len hc;have c1:(j:Int)*(m:Int)=((j*m:Nat):Int):=(Iy _ _).symm;obtain⟨P,I⟩:∃P,j*m=P:=⟨_,rfl⟩;rw[I]at c1 V;have s:P+v<Z:=by have:=(AP.1 V).1;have:=U.1;omega
 obtain⟨b0,o0,x,e0,X,cx,Y⟩:=DG U s
 cases e0
 obtain rfl:x=y:=by have:=Y.symm.trans V;cases this;rfl
 obtain⟨D,s1,s2⟩:=Vd (h.cls J) (Vd h.cells.1 h.cells.2.2.1);have i1:(0:Int)<=(c:Int):=by omega
 have i2:(c:Int)<256:=by omega
 have l2:(0:Int)<=(P:Int)+(v:Int):=by omega
 have l3:(P:Int)+(v:Int)<(Z:Int):=by omega
 have e1:wrap64 ((j:Int)*(m:Int))=(P:Int):=by rw[c1];unfold wrap64;omega
 have hB:=h.lt;have f0:∀d os,(grow (redrawn w d) os).cell? ⟨B,c,none⟩=some (int i64 (v:Int)):=λd os=>((Vf w d os).cell (p:=⟨B,c,none⟩) hB).trans D;have f1:∀d os,(grow (redrawn w d) os).cell? ⟨B,256,none⟩=some (int i64 (m:Int)):=λd os=>((Vf w d os).cell (p:=⟨B,256,none⟩) hB).trans s1;have f2:∀d os,(grow (redrawn w d) os).cell? ⟨B,258,none⟩=some (slice (some ⟨R,0,none⟩) Z c0):=λd os=>((Vf w d os).cell (p:=⟨B,258,none⟩) hB).trans s2;have f3:∀d os,(grow (redrawn w d) os).cell? ⟨R,0+(P+v),none⟩=some (int i64 x):=λd os=>((Vf w d os).cell (p:=⟨R,0+(P+v),none⟩) X).trans cx;simp only[DD]at f3;clear I U V Y N J h X hB;go_enter func272,ntmps272
 go_wp2_with fail
 refine wp_region_quiet_below mixed kr ?_
 repeat (go_big_quiet_step (fail))
 refine wpQuiet_nil ?_;rintro _ ⟨⟨dq,C⟩,rfl⟩;go_wp2;go_ret;exact⟨rfl,Vf _ _ _⟩
theorem ajh(B R:Nat)(L F:List Int)(m j c Z c0:Nat)(y n:Int)(fold:Bool)(Y:Value)(lo X:Int)(wd:Value)(w:World)(h:Mc w B L m n (slice (some ⟨R,0,none⟩) Z c0) fold Y lo X wd)(J:Sl1 (int i64) w (some ⟨R,0,none⟩) Z F)(I:Z<=1000000000)(D:c<256)(H:(j:Int)<n)(N:goD L (m:Int) F (j:Int) c=some y) :Calls ZP 243 #[pointer (some ⟨B,0,none⟩),int i64 (j:Int),.int .u8 (c:Int)] w λe w'=>e=.returned (.tuple #[int i64 y,bool true])/\Br w w':=by
 have C:=AA (ali B R L F m j c Z c0 y n fold Y lo X wd w h J I D N);have V:=Nk B L m n (slice (some ⟨R,0,none⟩) Z c0) fold Y lo X wd j w h;rw[show decide (0<=(j:Int)/\(j:Int)<n)=true by simp;omega]at V;have A:=AA V;clear V h J N H;go_enter func243,ntmps243
 go_wp2_with (first
  |(go_at_call 271;refine A.out.mono ?_;rintro e w4 ⟨rfl,rfl⟩)
  |(go_at_call 272;refine C.out.mono ?_;rintro e w4 ⟨rfl,U⟩))
 go_ret2;exact⟨rfl,U⟩
theorem ah4(B:Nat)(L:List Int)(m n:Int)(row:Value)(fold:Bool)(Y:Value)(lo X:Int)(wd:Value)(j:Int)(c:Nat)(w:World)(h:Mc w B L m n row fold Y lo X wd)(V:j<0∨n<=j) :Calls ZP 243 #[pointer (some ⟨B,0,none⟩),int i64 j,.int .u8 (c:Int)] w λe w'=>e=.returned (.tuple #[int i64 0,bool false])/\w=w':=by
 have Z:=Nk B L m n row fold Y lo X wd j w h;rw[show decide (0<=j/\j<n)=false by simp;omega]at Z;have U:=AA Z;clear Z h V;go_enter func243,ntmps243
 go_wp2_with (go_at_call 271;refine U.out.mono ?_;rintro e w4 ⟨rfl,rfl⟩)
 go_ret2;exact⟨rfl,rfl⟩
theorem ahN{B R J C wc:Nat}{fold:Bool}{wss:Lq}{lo Z:Int}{a N:Option Addr}(node:Int)(c:Nat)(w:World)(h:MOK w B fold wss lo Z R a J C N wc)(Y:OkT fold wss)(H:Ah fold wss*(AB wss).length<=1000000000)(U:c<256) :Calls ZP 243 #[pointer (some ⟨B,0,none⟩),int i64 node,.int .u8 (c:Int)] w λe w'=>e=.returned (apk (goD (BF fold wss) (Ah fold wss) (FN fold wss) node c))/\Br w w':=by
 by_cases X:node<0∨((AB wss).length:Int)<=node
 ·rw[anF Y X];exact(ah4 B _ _ _ _ fold _ lo Z _ node c w h.mc X).mono λe w' ⟨h1,h2⟩=>⟨h1,by rw[<-h2];exact AH _ _⟩
 ·obtain⟨j,rfl⟩:∃k:Nat,node=(k:Int):=⟨node.toNat,by omega⟩;obtain⟨x,I⟩:∃x,(AB wss)[j]?=some x:=⟨(AB wss)[j]'om,by simp⟩;have V:=aju Y I U;rw[V];have D:Sl1 (int i64) w (some ⟨R,0,none⟩) (Ah fold wss*(AB wss).length) (FN fold wss):=by
   rw[<-OZ Y];exact h.row.sl1
  exact ajh B R _ _ _ j c _ _ _ _ fold _ lo Z _ w h.mc D H U om V
theorem af2(B:Nat)(L:List Int)(m n:Int)(row:Value)(fold:Bool)(Z:Value)(lo Y:Int)(wd:Value)(w:World)(h:Mc w B L m n row fold Z lo Y wd) :Calls ZP 269 #[pointer (some ⟨B,0,none⟩)] w λe w'=>e=.returned (int i64 n)/\w=w':=by have c5:=h.cells.2.1;clear h;go_enter func269,ntmps269;go_wp2;go_ret;exact⟨rfl,rfl⟩
theorem ad1(B:Nat)(L:List Int)(m n:Int)(row:Value)(fold:Bool)(Z:Value)(lo Y:Int)(wd:Value)(w:World)(h:Mc w B L m n row fold Z lo Y wd) :Calls ZP 95 #[pointer (some ⟨B,0,none⟩)] w λe w'=>e=.returned (int i64 lo)/\w=w':=by have c5:=h.cells.2.2.2.2.2.1;clear h;go_enter func95,ntmps95;go_wp2;go_ret;exact⟨rfl,rfl⟩
structure ET(W0:World)(B:Nat)(fold:Bool)(wss:Lq)(V:World):Prop where
 ex:∃(R la ca wc:Nat)(a wa:Option Addr),MOK V B fold wss (Au wss) ((Dm wss (AB wss).length:Nat):Int) R a la ca wa wc/\la<=1000000
 ok:OkT fold wss
 tab:Ah fold wss*(AB wss).length<=1000000000
 len:∀x∈wss,x.length<=1000000
 nod:(AB wss).length<=1000000
 bel:Br W0 V
section
variable {W0 V V':World}{B:Nat}{fold:Bool}{wss:Lq}
theorem ET.below(h:ET W0 B fold wss V)(Z:Br V V'):ET W0 B fold wss V':=by obtain⟨⟨R,X,U,wc,a,Y,h1,h2⟩,h3,h4,h5,h6,h7⟩:=h;exact⟨⟨R,X,U,wc,a,Y,h1.below Z,h2⟩,h3,h4,h5,h6,h7.trans (Z.mono h7.size)⟩
theorem ah9(wss:Lq)(node:Int)(h:(AB wss).length<=1000000):(Dz wss node).length<=1000000:=by
 unfold Dz
 split
 ·have:=LL wss node.toNat;omega
 ·simp
theorem ET.step(h:ET W0 B fold wss V)(node:Int)(c:Nat)(Z:c<256) :Calls ZP 243 #[pointer (some ⟨B,0,none⟩),int i64 node,.int .u8 (c:Int)] V λe w'=>e=.returned (apk (goD (BF fold wss) (Ah fold wss) (FN fold wss) node c))/\Br V w':=by obtain⟨⟨R,X,U,wc,a,Y,h1,h2⟩,h3,h4,h5,h6,h7⟩:=h;exact ahN node c V h1 h3 h4 Z
theorem ET.hits(h:ET W0 B fold wss V)(node at_:Int)(Y:I64 at_)(Z:∀x∈Dz wss node,I64 x) :Calls ZP 244 #[pointer (some ⟨B,0,none⟩),int i64 node,int i64 at_] V λe w'=>∃(a:Option Addr)(c:Nat),e=.returned (slice a (Dz wss node).length c)/\Hts w' a (Dz wss node).length ((Dz wss node).map λx=>(at_,x))/\Ax w' V.heap.size (slice a (Dz wss node).length c) ((Dz wss node).map λx=>(at_,x))/\Br V w':=by
 obtain⟨⟨R,D,A,wc,a,H,h1,h2⟩,h3,h4,h5,h6,h7⟩:=h;refine(aih node at_ V h1 (ah9 wss node h6)).mono ?_;rintro e w' ⟨v,rfl,ho,J⟩;obtain⟨I,c1,rfl,C,X⟩:=Ax.hts ho (λh N=>by obtain⟨x,U,rfl⟩:=Be.1 N;exact⟨Y,Z x U⟩)
 rw[BP]at X ho⊢;exact⟨I,c1,rfl,X,ho,J⟩
theorem ET.states(h:ET W0 B fold wss V) :Calls ZP 269 #[pointer (some ⟨B,0,none⟩)] V λe w'=>e=.returned (int i64 ((AB wss).length:Int))/\V=w':=by obtain⟨⟨R,Y,X,wc,a,Z,h1,h2⟩,h3,h4,h5,h6,h7⟩:=h;exact af2 B _ _ _ _ _ _ _ _ _ V h1.mc
theorem ET.longest(h:ET W0 B fold wss V) :Calls ZP 95 #[pointer (some ⟨B,0,none⟩)] V λe w'=>e=.returned (int i64 (Au wss))/\V=w':=by obtain⟨⟨R,Y,X,wc,a,Z,h1,h2⟩,h3,h4,h5,h6,h7⟩:=h;exact ad1 B _ _ _ _ _ _ _ _ _ V h1.mc
end
structure Hj(q B:Nat)(fold:Bool)(wss:Lq)(V:World):Prop where
 ex:∃(R la ca wc:Nat)(a wa:Option Addr),MOK V B fold wss (Au wss) ((Dm wss (AB wss).length:Nat):Int) R a la ca wa wc/\la<=1000000/\Il q V B R a la ca wss wa
 ok:OkT fold wss
 tab:Ah fold wss*(AB wss).length<=1000000000
 len:∀x∈wss,x.length<=1000000
 nod:(AB wss).length<=1000000
theorem Hj.kept{q B:Nat}{fold:Bool}{wss:Lq}{V V':World}(h:Hj q B fold wss V)(hk:EF q V V'):Hj q B fold wss V':=by obtain⟨⟨R,Y,X,wc,a,Z,h1,h2,h8⟩,h3,h4,h5,h6⟩:=h;exact⟨⟨R,Y,X,wc,a,Z,h8.mok hk h1,h2,h8.kept hk⟩,h3,h4,h5,h6⟩
theorem Hj.use{q B:Nat}{fold:Bool}{wss:Lq}{V:World}(h:Hj q B fold wss V):ET V B fold wss V:=by obtain⟨⟨R,Y,X,wc,a,Z,h1,h2,h8⟩,h3,h4,h5,h6⟩:=h;exact⟨⟨R,Y,X,wc,a,Z,h1,h2⟩,h3,h4,h5,h6,AH _ _⟩
theorem adn(fold:Bool)(a:Option Addr)(Z D:Nat)(wss:Lq)(w:World)(H:Wds w a Z wss)(Y:Z<=1000000)(I:∀x∈wss,x.length<=1000000)(s:(Ad fold wss).length<=1000000)(X:An fold wss=true) :Calls ZP 52 #[.agg (AM fold a Z D)] w λe w'=>∃B,e=.returned (.tuple #[pointer (some ⟨B,0,none⟩),int i64 0])/\Hj w.heap.size B fold wss w'/\Br w w':=by have N:=okT X (λx A c v=>H.bytes x A c v);have U:(AB wss).length<=400:=Hx (Fy.2 ⟨IY X,rfl,rfl⟩);have y:Ah fold wss<=257:=(Hb _ _ _).2;refine(ad6 fold a Z D wss w H Y I s X).mono ?_;rintro e w' ⟨B,R,J,wc,o,C,h1,h2,h3,h4⟩;exact⟨B,h1,⟨⟨R,Z,J,wc,o,C,h2,Y,h4⟩,N,AS (GR y U) om,I,by omega⟩,h3⟩
theorem afg(wss:Lq)(l:List AF)(h:AF):(Es wss l h).length=l.length+1:=by have:=anZ wss l h;unfold Es;simp;omega
theorem ab3(fold:Bool)(wss:Lq)(frm:Int)(text:List Int)(place:Nat):∀n,(Do fold wss frm text place n).length=((List.range n).filter λk=>FP fold wss text place k).length
 |0=>by simp[Do]
 |n+1=>by
  have Z:=ab3 fold wss frm text place n;rw[Lz,El,List.filter_append]
  cases e:FP fold wss text place n<;>simp[e,Z,afg]
theorem al3{fold:Bool}{text Z:List Int}{at_ p:Nat}(X:p<=at_)(ha:at_<=text.length):atL fold (text.take at_) p Z=atL fold text p Z:=by
 unfold atL;rw[Ag,Nat.min_eq_left ha,Aa];have e:((text.take at_).drop (p-Z.length)).take Z.length=(text.drop (p-Z.length)).take Z.length∨¬(Z.length:Int)<=p:=by
  by_cases Y:Z.length<=p
  ·left
   rw[List.drop_take,List.take_take,Nat.min_eq_left om]
  ·right;omega
 rcases e with e|e
 ·rw[e];congr 2;simp;omega
 ·rw[decide_eq_false om,decide_eq_false om]
  rfl
theorem af7{fold:Bool}{wss:Lq}{text:List Int}{at_ p k:Nat}(Z:p<=at_)(ha:at_<=text.length):FP fold wss (text.take at_) p k=FP fold wss text p k:=al3 Z ha
theorem KY{ws:Lq}(Z:ws.Nodup)(h0:∀y∈ws,y.length≠0){v:Int}:∀{b:List Int},v∈DF ws b↔∃(k:Nat)(y:List Int),ws[k]?=some y/\y <:+b/\v=(k:Int)
 |[]=>by
  constructor
  ·intro h;exact absurd h (by simp[DF])
  ·rintro⟨k,y,hk,X,_⟩;rw[List.suffix_nil]at X;subst X;exact absurd rfl (h0 [] (AX hk))
 |c::b=>by
  have V:=KY Z h0 (v:=v) (b:=b);rw[Od,Bf,V]
  constructor
  ·rintro(h|⟨k,y,h1,h2,h3⟩)
   ·by_cases Y:(c::b)∈ws
    ·rw[Vb Y,Fq]at h;obtain⟨k,hk⟩:=DR Y;exact⟨k,_,hk,List.suffix_refl _,by rw[h,CV Z hk]⟩
    ·rw[Va Y]at h;simp at h
   ·exact⟨k,y,h1,List.suffix_cons_iff.2 (.inr h2),h3⟩
  ·rintro⟨k,y,h1,h2,h3⟩
   rcases List.suffix_cons_iff.1 h2 with rfl|h2
   ·left
    rw[Vb (AX h1),Fq,h3,CV Z h1]
   ·exact .inr ⟨k,y,h1,h2,h3⟩
theorem ajQ{ws:Lq}{k:Nat}{y:List Int}(h:ws[k]?=some y):Bt ws (k:Int)=(y.length:Int):=by have:=(AP.1 h).1;unfold Bt;rw[Vb ⟨by omega,by omega⟩,Aa,h,CG]
theorem aeR{ws:Lq}(Y:ws.Nodup)(h0:∀y∈ws,y.length≠0)(p:Int):∀b:List Int,((DF ws b).map λv=>((p,v):AF)).Pairwise (λa b=>BD ws a b=true)
 |[]=>by simp[DF]
 |c::b=>by
  rw[Od,Aj,List.pairwise_append];refine⟨?_,aeR Y h0 p b,λx Z y V=>?_⟩
  ·split<;>simp
  ·by_cases X:(c::b)∈ws
   ·rw[Vb X]at Z;obtain⟨k,hk⟩:=DR X;rw[CV Y hk,List.map_singleton,Fq]at Z;obtain⟨v,U,rfl⟩:=Be.1 V;obtain⟨j,z,h1,h2,rfl⟩:=(KY Y h0).1 U;subst Z;refine Gd.2 (.inr ⟨rfl,.inl ?_⟩);rw[ajQ hk,ajQ h1];have:=h2.length_le;rw[Ao];omega
   ·rw[Va X]at Z;simp at Z
section
variable {fold:Bool}{ws:Lq}
theorem acN(Z:∀y∈ws,AO fold y=y){text:List Int}{p k:Nat}{y:List Int}(Y:ws[k]?=some y)(X:p<=text.length):FP fold ws text p k=decide (y <:+AO fold (text.take p)):=by rw[<-af7 (AC p) X];unfold FP;rw[Y,CG];have h:=anm (Z y (AX Y)) (text.take p);rw[Ag,Nat.min_eq_left X]at h;exact h
theorem agq(Y:ws.Nodup)(h0:∀y∈ws,y.length≠0)(Z:∀y∈ws,AO fold y=y)(frm:Int)(text:List Int){p:Nat}(X:p<=text.length) :Do fold ws frm text p ws.length=(DF ws (AO fold (text.take p))).map λv=>(frm+p,v):=by
 refine abV (abx fold ws frm text p _) (aeR Y h0 _ _) λx=>?_;rw[Na,Be]
 constructor
 ·rintro⟨k,h1,h2,rfl⟩;have hk:ws[k]?=some ws[k]:=Ar h1;rw[acN Z hk X]at h2;exact⟨_,(KY Y h0).2 ⟨k,_,hk,Vc h2,rfl⟩,rfl⟩
 ·rintro⟨v,V,rfl⟩;obtain⟨k,y,h1,h2,rfl⟩:=(KY Y h0).1 V;exact⟨k,(AP.1 h1).1,by rw[acN Z h1 X];exact Ve h2,rfl⟩
def Cd(ws:Lq)(x:List Int)(at_:Int):List Int->List AF
 |[]=>[]
 |c::b=>(DF ws (x++[c])).map (λv=>((at_+1,v):AF))++Cd ws (x++[c]) (at_+1) b
theorem aa8(x:List Int)(at_:Int):∀(b d:List Int),Cd ws x at_ (b++d)=Cd ws x at_ b++Cd ws (x++b) (at_+b.length) d
 |[],d=>by simp[Cd]
 |c::b,d=>by have Z:=aa8 (x++[c]) (at_+1) b d;simp only[CT,Cd,Z,CE,Ao,List.singleton_append,Av,LK,Int.natCast_one];rw[show at_+1+(b.length:Int)=at_+((b.length:Int)+1) by omega]
theorem amt(V:ws.Nodup)(h0:∀y∈ws,y.length≠0)(Z:∀y∈ws,AO fold y=y)(frm:Int)(text:List Int):EL fold ws frm text=Cd ws [] frm (AO fold text):=by
 have Y:∀n,n<=text.length->Et fold ws frm text (n+1)=Cd ws [] frm (AO fold (text.take n)):=by
  intro n
  induction n with
  |zero=>
   intro _;rw[NU,agq V h0 Z frm text (AR _)];have e:AO fold []=[]:=by rw[Fg];rfl
   simp[Et,e,Cd,DF]
  |succ n ih=>
   intro X;rw[NU,ih om,agq V h0 Z frm text X];obtain⟨c,N⟩:∃c,text[n]?=some c:=⟨text[n]'om,by simp⟩;have e:text.take (n+1)=text.take n++[c]:=by rw[LH,N];rfl
   have e2:AO fold (text.take n++[c])=AO fold (text.take n)++AO fold [c]:=by simp only[Fg,Aj]
   obtain⟨d,U⟩:∃d,AO fold [c]=[d]:=⟨_,by rw[Fg];rfl⟩;rw[e,e2,U,aa8];simp only[Cd,Cx,Av];rw[Ew,Ag,Nat.min_eq_left om];congr 2
   funext v
   rw[show frm+((n:Int))+1=frm+((n+1:Nat):Int) by omega]
 have h:=Y text.length (AC _)
 rwa[Hl]at h
theorem akH(x:List Int):∀y:List Int,lsf (AB ws) (lsf (AB ws) x++y)=lsf (AB ws) (x++y):=by
 intro y
 induction y generalizing x with
 |nil=>
  rw[Cx,Cx];exact Lu (Id (AX (CM ws)) x)
 |cons c y ih=>
  rw[show lsf (AB ws) x++c::y=(lsf (AB ws) x++[c])++y by simp,show x++c::y=(x++[c])++y by simp];rw[<-ih (lsf (AB ws) x++[c]),<-(alt x c).2.2,ih (x++[c])]
theorem am0(h0:[] ∉ ws)(x y:List Int):DF ws (lsf (AB ws) x++y)=DF ws (x++y):=by rw[<-LU h0 (lsf (AB ws) x++y),akH,LU h0]
theorem ajd(h0:[] ∉ ws):∀(b:List Int)(x:List Int)(at_:Int),Cd ws (lsf (AB ws) x) at_ b=Cd ws x at_ b:=by
 have Z:∀(b x u:List Int)(at_:Int),Cd ws (lsf (AB ws) x++u) at_ b=Cd ws (x++u) at_ b:=by
  intro b
  induction b with
  |nil=>intros;rfl
  |cons c b ih=>
   intro x u at_;have:=ih x (u++[c]) (at_+1);simp only[Cd,CE,am0 h0];rw[this]
 intro b x at_;have:=Z b x [] at_
 rwa[Cx,Cx]at this
end
def EN(fold:Bool)(ws:Lq)(z:Nat)(c:Int):Nat:=(KT ws (lsf (AB ws) (((AB ws)[z]?).getD []++[fcB fold c]))).toNat
def Bp(fold:Bool)(ws:Lq)(z:Nat)(b:List Int):Nat:=b.foldl (EN fold ws) z
def BQ(fold:Bool)(ws:Lq):Nat->Int->List Int->List AF
 |_,_,[]=>[]
 |z,at_,c::b=>(CA ws (EN fold ws z c)).map (λv=>((at_+1,v):AF))++BQ fold ws (EN fold ws z c) (at_+1) b
section
variable {fold:Bool}{ws:Lq}
theorem aiN(z:Nat):Bp fold ws z []=z:=rfl
theorem acj(z:Nat)(c:Int)(b:List Int):Bp fold ws z (c::b)=Bp fold ws (EN fold ws z c) b:=rfl
theorem No(z:Nat)(b d:List Int):Bp fold ws z (b++d)=Bp fold ws (Bp fold ws z b) d:=by simp[Bp,FI]
theorem JE(z:Nat)(at_:Int):∀(b d:List Int),BQ fold ws z at_ (b++d)=BQ fold ws z at_ b++BQ fold ws (Bp fold ws z b) (at_+b.length) d
 |b,d=>by
  induction b generalizing z at_ with
  |nil=>simp[BQ,Bp]
  |cons c b ih=>
   simp only[CT,BQ,acj,ih,CE,Ao,LK,Int.natCast_one];rw[show at_+1+(b.length:Int)=at_+((b.length:Int)+1) by omega]
theorem KU{z:Nat}{x:List Int}(Z:(AB ws)[z]?=some x)(c:Int):(AB ws)[EN fold ws z c]?=some (lsf (AB ws) (x++[fcB fold c]))/\KT ws (lsf (AB ws) (x++[fcB fold c]))=(EN fold ws z c:Int):=by obtain⟨j,h1,h2,h3⟩:=anI (Id (AX (CM ws)) (x++[fcB fold c]));unfold EN;rw[Z,CG,h2,Aa];exact⟨h1,rfl⟩
theorem adr{z:Nat}{x:List Int}(Z:(AB ws)[z]?=some x):∀b:List Int,(AB ws)[Bp fold ws z b]?=some (lsf (AB ws) (x++AO fold b)):=by
 intro b
 induction b generalizing z x with
 |nil=>
  rw[aiN,show AO fold []=[] by rw[Fg];rfl,Cx,Z,Lu (AX Z)]
 |cons c b ih=>
  rw[acj,ih (KU Z c).1,akH,Nm,Nm,BO,CE]
  rfl
theorem JY{z:Nat}(Z:z<(AB ws).length)(b:List Int):Bp fold ws z b<(AB ws).length:=(AP.1 (adr (Ar Z) b)).1
theorem ahP(h0:∀y∈ws,y.length≠0)(b:List Int):∀{z:Nat}{x:List Int}(at_:Int),(AB ws)[z]?=some x->BQ fold ws z at_ b=Cd ws x at_ (AO fold b):=by
 have Z:[] ∉ ws:=λX=>h0 [] X rfl
 induction b with
 |nil=>intros;rw[show AO fold []=[] by rw[Fg];rfl];rfl
 |cons c b ih=>
  intro z x at_ Y;have h1:=(KU (fold:=fold) Y c).1;have e:AO fold (c::b)=fcB fold c::AO fold b:=by rw[Nm,Nm];rfl
  rw[e];simp only[BQ,Cd];rw[ih _ h1,OU h0 h1,ajd Z,LU Z]
end
theorem afY{wss:Lq}(V:wss.length<=1000000)(X:wss.Nodup)(h0:∀x∈wss,x.length≠0)(node:Int):∀v∈Dz wss node,I64 v:=by
 intro v Z;unfold Dz at Z
 split at Z
 ·obtain⟨x,Y⟩:∃x,(AB wss)[node.toNat]?=some x:=⟨_,Ar om⟩;rw[OU h0 Y,KY X h0]at Z;obtain⟨k,y,h1,_,rfl⟩:=Z;have:=(AP.1 h1).1;unfold I64;omega
 ·simp at Z
section
attribute[local go_sem] Oper.semAt_some
attribute[local simp] Ak Al
attribute[local go_sem] Ak Al
theorem afL{Z:Lq}{i:Nat}{x:List Int}(h:Z[i]?=some x)(j:Nat):(Z.take i).flatten++x.take j <+: Z.flatten:=by
 have e:Z=Z.take i++x::Z.drop (i+1):=by obtain⟨Y,rfl⟩:=AP.1 h;rw[<-List.drop_eq_getElem_cons Y,Dx]
 have e2:Z.flatten=(Z.take i).flatten++(x++(Z.drop (i+1)).flatten):=by
  conv=>lhs;rw[e]
  simp
 rw[e2];exact(List.prefix_append_right_inj _).2 ((List.take_prefix j x).trans (List.prefix_append _ _))
theorem af4{Z:Lq}{i:Nat}{x:List Int}(h:Z[i]?=some x):(Z.take (i+1)).flatten=(Z.take i).flatten++x:=by rw[As h];simp
end
section
attribute[local go_sem] Oper.semAt_some
attribute[local simp] Ak Al
attribute[local go_sem] Ak Al
def KA(n:Nat)(z at_:Int):Bool:=decide ((0<=z/\z<(n:Int))/\0<=at_/\at_<=4611686020574871551)
end
section
attribute[local go_sem] Oper.semAt_some
attribute[local simp] Ak Al
attribute[local go_sem] Ak Al
def amS(b base:Nat)(l:List AF)(W:World):Prop:=∃v,Boxed W b 69 v/\Ax W base v l
theorem aho{Z:Lq}{i:Nat}{x:List Int}(h:Z[i]?=some x):(Z.take (i+1)).flatten.length=(Z.take i).flatten.length+x.length/\(Z.take (i+1)).flatten.length<=Z.flatten.length:=by have h1:=(afL h x.length).length_le;rw[Ap (AC _),List.length_append]at h1;rw[af4 h,List.length_append];exact⟨rfl,h1⟩
end
theorem Mx{fold:Bool}{ws:Lq}:∀(b:List Int)(z:Nat)(at_:Int),z<(AB ws).length->(BQ fold ws z at_ b).length<=(AB ws).length*b.length
 |[],z,at_,_=>by simp[BQ]
 |c::b,z,at_,hz=>by have Z:(AB ws)[z]?=some (AB ws)[z]:=Ar hz;have Y:=(AP.1 (KU (fold:=fold) Z c).1).1;have X:=Mx (fold:=fold) b (EN fold ws z c) (at_+1) Y;have h9:=LL ws (EN fold ws z c);simp only[BQ,List.length_append,BP,Ao];rw[Nat.mul_succ];omega
theorem act(a:Option Addr)(n cn:Nat)(Z:Lq)(w:World)(D:Wds w a n Z)(hn:n<=1000000)(hT:Z.flatten.length<=1000000000) :Calls ZP 12 #[slice a n cn] w λe w'=>∃(B:Option Addr)(c1:Nat),e=.returned (slice B Z.flatten.length c1)/\Z.flatten.length<=c1/\Bys w' B Z.flatten.length Z.flatten/\Br w w':=by
 obtain⟨iU,hj,o,y,A⟩:=Vk Gs;have ab:=AA D.len;have HC:=AA D;have H:∀x∈Z.flatten,0<=x/\x<=255:=λx V=>by obtain⟨l,hl,V⟩:=List.mem_flatten.1 V;exact D.bytes l hl x V
 have ac:=AA H;clear D H;go_enter func12,ntmps12;go_wp2
 go_loopw[3,4] (λv s4 wr=>∃i:Nat,i<=n/\s4=int i64 (i:Int)/\Hid (Br w wr)/\Ch wr w.heap.size v (Z.take i).flatten.length (Z.take i).flatten) (λ_ s _=>n-(intOf s).toNat)
 case atStart=>exact⟨0,AR _,rfl,AH _ _,BN _ _ _ _⟩
 case round=>
  obtain⟨i,hi,rfl,X,Y⟩:=hrel
  by_cases a2:i<n
  ·have hd:decide ((i:Int)<(n:Int))=true:=by simp;omega
   obtain⟨bb,off,a',lx,cx,x,rfl,ae,a6,V,hX,af⟩:=(HC.out.below X.out).at_ a2;obtain⟨C,g2⟩:=aho V;have J:=hX.len;rw[J]at C;have i1:(0:Int)<=(i:Int):=by omega
   have i2:(i:Int)<(n:Int):=by omega
   obtain⟨k,hk⟩:∃k:Nat,(Z.take i).flatten.length=k:=⟨_,rfl⟩;rw[hk]at C Y;have HX:=AA V;have HK:=AA hk;have a8:=AA C;have ag:k+lx<=1000000000:=by omega
   have I:w.heap.size<=wr.heap.size:=X.out.size;clear V hk C g2 J
   go_wp2_with (at_builtin;refine Mf rfl _ _ 32 rfl JB w.heap.size 5 iU (.int .u8 0) 1 underlying32 hj o y A rfl _ k _ rfl Y a' lx cx x rfl hX.1 (by unfold maxLen;omega) om I ?_;intro v' w5 U N ai)
   have a7:Br w w5:=X.out.grown N I (λj hj=>(Y.lt j hj).1)
   go_roundw
   case rel=>
    refine⟨i+1,by omega,by go_num,a7,?_⟩;unfold Ch;rw[a8.out,af4 HX.out,Aj];exact U
   case measure=>simp[intOf];omega
  ·obtain rfl:n=i:=by omega
   have hd:decide ((n:Int)<(n:Int))=false:=by simp
   have aa:Hid ((Z.take n).flatten=Z.flatten):=by rw[Hid,Ap (by rw[ab.out];exact AC _)]
   rw[aa.out]at Y;obtain⟨B,c1,rfl,hc,hs⟩:=KL Y ac.out;go_wp2;go_ret;exact⟨B,c1,rfl,hc,hs,X.out⟩
theorem Ja{W:World}{b:Nat}{t:TypeId}{wk bl rg Y X Z fr:Int}(h:W.heap[b]?=some (.cells (Ee wk bl rg Y X Z fr) t (0,0))) :W.cell? ⟨b,0,none⟩=some (int i64 wk)/\W.cell? ⟨b,1,none⟩=some (int i64 bl)/\W.cell? ⟨b,2,none⟩=some (int i64 rg)/\W.cell? ⟨b,3,none⟩=some (int i64 Y)/\W.cell? ⟨b,4,none⟩=some (int i64 X)/\W.cell? ⟨b,5,none⟩=some (int i64 Z)/\W.cell? ⟨b,6,none⟩=some (int i64 fr):=by simp[cell?,h]
theorem afW:EA 3 3 2 2147483647=2147483647:=by
 have h:=Oc (L:=3) (B:=3) (S:=2) om (k0:=1) (by decide) 715827881;unfold EA;rw[show((2147483647:Int) / 3).toNat=1+715827881 from by decide,h];rw[Vb (by decide),show Eo 3 3 2 1=2 from by decide,show CK 2 (3-1+3)=3 from by decide];have Z:=akE (L:=3) (B:=3) om (i:=1) (j:=1+715827881) om (by decide);rw[Z]
 decide
theorem Sl1.lits(w:World)(zs:List Int)(t:TypeId):Sl1 (int i64) (w.alloc (.cells (zs.map (int i64)).toArray t)) (some ⟨w.heap.size,0,none⟩) zs.length zs:=by refine⟨rfl,.inr ⟨w.heap.size,0,rfl,by simp,λi x Z=>?_⟩⟩;have:=AT w (.cells (zs.map (int i64)).toArray t);unfold cell?;dsimp only;rw[this];simp[Z]
theorem apz(w:World):Calls ZP 51 #[int i64 3,slice (some ⟨w.heap.size,0,none⟩) 4 4] (w.alloc (.cells #[int i64 6,int i64 7,int i64 0,int i64 (-1)] 3)) λe w'=>e=.returned (int i64 5)/\w.alloc (.cells #[int i64 6,int i64 7,int i64 0,int i64 (-1)] 3)=w':=by
 have h:=aap 3 (some ⟨w.heap.size,0,none⟩) 4 4 [6,7,0,-1] (w.alloc (.cells #[int i64 6,int i64 7,int i64 0,int i64 (-1)] 3)) om om sm (Sl1.lits w [6,7,0,-1] 3)
 rwa[show Ez 3 [6,7,0,-1]=5 from by decide]at h
theorem apw(W:World)(b:Nat)(Z:W.cell? ⟨b,0,none⟩=some (int i64 6))(Y:b<W.heap.size):Calls ZP 51 #[int i64 0,slice (some ⟨b,0,none⟩) 1 1] W λe w'=>e=.returned (int i64 0)/\W=w':=by
 have h:=aap 0 (some ⟨b,0,none⟩) 1 1 [6] W om om sm (Sl1.one Z Y)
 rwa[show Ez 0 [6]=0 from by decide]at h
theorem LP(w:World):Calls ZP 13 #[] w λe w'=>e=.returned (bool true)/\Br w w':=by
 go_enter func13,ntmps13
 go_wp2_with fail
 have o:Br w (w.alloc (.cells (Ee 2 3 2 1 1 2 0) 26)):=(AH _ _).alloc (AC _) _;have H:(w.alloc (.cells (Ee 2 3 2 1 1 2 0) 26)).heap[w.heap.size]?=some (.cells (Ee 2 3 2 1 1 2 0) 26 (0,0)):=AT _ _;refine(aaT 2 3 2 1 1 2 0 3 6 _).mono ?_;rintro e w1 ⟨rfl,Z⟩;rw[(show IU 2 3 2 1 1 2 0 3 6=5 from by decide),(show Hv 2 3 2 1 1 2 0 3 6=0 from by decide)];have s:Br w w1:=o.trans (Z.mono o.size);have I:=(Z.block w.heap.size (AD.1 H).1).trans H;clear Z o H;obtain⟨c0,c1,c2,c3,c4,c5,Y⟩:=Ja I
 go_wp2_with fail
 clear c0 c1 c2 c3 c4 c5 Y;refine(Og 2 3 2 1 1 2 0 3 6 2 3 _).mono ?_;rintro e w2 ⟨rfl,Z⟩;rw[(show Hs 2 3 2 1 1 2 0 3 6 2 3=32 from by decide),(show Ht 2 3 2 1 1 2 0 3 6 2 3=0 from by decide)];have v:Br w w2:=s.trans (Z.mono s.size);have J:=(Z.block w.heap.size (AD.1 I).1).trans I;clear Z s I;obtain⟨c0,c1,c2,c3,c4,c5,Y⟩:=Ja J
 go_wp2_with fail
 clear c0 c1 c2 c3 c4 c5 Y;refine(aen 2 3 2 1 1 2 0 _).mono ?_;rintro e w3 ⟨rfl,Z⟩;rw[(show MI 2 3 2 1 1 2 0=9 from by decide),(show MJ 2 3 2 1 1 2 0=0 from by decide)];have y:Br w w3:=v.trans (Z.mono v.size);have N:=(Z.block w.heap.size (AD.1 J).1).trans J;clear Z v J;obtain⟨c0,c1,c2,c3,c4,c5,Y⟩:=Ja N
 go_wp2_with fail
 clear c0 c1 c2 c3 c4 c5 Y;refine(alw 2 3 2 1 1 2 0 3 _).mono ?_;rintro e w4 ⟨rfl,Z⟩;rw[(show La 2 3 2 1 1 2 0 3=10 from by decide),(show Lb 2 3 2 1 1 2 0 3=0 from by decide)];have A:Br w w4:=y.trans (Z.mono y.size);have U:=(Z.block w.heap.size (AD.1 N).1).trans N;clear Z y N;obtain⟨c0,c1,c2,c3,c4,c5,Y⟩:=Ja U
 go_wp2_with fail
 clear c0 c1 c2 c3 c4 c5 Y;refine(Og 2 3 2 1 1 2 0 0 6 2 3 _).mono ?_;rintro e w5 ⟨rfl,Z⟩;rw[(show Hs 2 3 2 1 1 2 0 0 6 2 3=0 from by decide),(show Ht 2 3 2 1 1 2 0 0 6 2 3=2 from by decide)];have B:Br w w5:=A.trans (Z.mono A.size);have V:=(Z.block w.heap.size (AD.1 U).1).trans U;clear Z A U;obtain⟨c0,c1,c2,c3,c4,c5,Y⟩:=Ja V
 go_wp2_with fail
 clear c0 c1 c2 c3 c4 c5 Y;refine(aen 0 0 0 0 0 0 0 _).mono ?_;rintro e w6 ⟨rfl,Z⟩;rw[(show MI 0 0 0 0 0 0 0=0 from by decide),(show MJ 0 0 0 0 0 0 0=2 from by decide)];have C:Br w w6:=B.trans (Z.mono B.size);have X:=(Z.block w.heap.size (AD.1 V).1).trans V;clear Z B V;obtain⟨c0,c1,c2,c3,c4,c5,Y⟩:=Ja X
 go_wp2_with fail
 clear c0 c1 c2 c3 c4 c5 Y;refine(aaT 2 3 2 1 1 2 0 3 2147483647 _).mono ?_;rintro e w7 ⟨rfl,Z⟩;rw[(show IU 2 3 2 1 1 2 0 3 2147483647=2147483647 from by rw[IU,Vb (by decide),afW]),(show Hv 2 3 2 1 1 2 0 3 2147483647=0 from by decide)];have D:Br w w7:=C.trans (Z.mono C.size);have j:=(Z.block w.heap.size (AD.1 X).1).trans X;clear Z C X;obtain⟨c0,c1,c2,c3,c4,c5,Y⟩:=Ja j
 go_wp2_with fail
 clear c0 c1 c2 c3 c4 c5 Y;refine(apz w7).mono ?_;rintro e w8 ⟨rfl,rfl⟩
 go_wp2_with fail
 refine(apw _ _ ?_ ?_).mono ?_
 ·simp
 ·simp
 rintro e w8 ⟨rfl,rfl⟩;go_wp2;go_ret;exact⟨rfl,(D.alloc D.size _).alloc (by simp;have:=D.size;omega) _⟩
theorem Hts.take{w:World}{a:Option Addr}{n:Nat}{l:List AF}(h:Hts w a n l){m:Nat}(N:m<=n):Hts w a m (l.take m):=by
 have J:=h.len;refine⟨⟨by rw[GF];simp;omega,?_⟩,λx V=>h.2 x (EG V)⟩
 by_cases h0:m=0
 ·exact .inl h0
 ·right
  obtain⟨b,off,rfl,Y,Z⟩:=h.1.2.resolve_left om;refine⟨b,off,rfl,Y,λi u X=>Z i u ?_⟩;have U:AV l=AV (l.take m)++AV (l.drop m):=by rw[<-JT,Dx]
  rw[U,By (AP.1 X).1];exact X
theorem Hts.drop{w:World}{a:Option Addr}{n:Nat}{l:List AF}(h:Hts w a n l){m:Nat}(Y:m<=n):Hts w (a.map (·.add (m*2))) (n-m) (l.drop m):=by
 have Z:=h.cut (lo:=m) (m:=n-m) om
 rwa[Ap (by rw[List.length_drop,h.len];exact AC _)]at Z
theorem Hts.none_{w:World}{a:Option Addr}{n:Nat}{l:List AF}(X:∀h∈l,I64 h.1/\I64 h.2)(Y:l.length=n){m:Nat}(Z:m=n):Hts w a (n-m) (l.drop m):=by have:l.drop m=[]:=List.drop_eq_nil_of_le om;rw[this,show n-m=0 by omega];exact⟨⟨rfl,.inl rfl⟩,by simp⟩
theorem Hts.rest{V:World}{b:Option Addr}{Z Y n:Nat}{l:List AF}(h:Hts V b Z l)(X:n<=Z)(U:Z<=Y):Hts V (if Y=n then b else Option.map (λx=>x.add (n*2)) b) (Z-n) (l.drop n):=by
 split
 ·exact Hts.none_ h.2 h.len om
 ·exact h.drop X
theorem aiU(fold:Bool)(a:Option Addr)(Y H:Nat)(k:Int)(wss:Lq)(w:World)(N:Wds w a Y wss)(B:Y<=1000000) :Calls ZP 212 #[.agg (AM fold a Y H),int i64 k] w λe w'=>e=.returned (int i64 (Bt wss k))/\Br w w':=by
 have D:=AA N.len;have Z:Br w (w.alloc (.cells (AM fold a Y H) 24)):=(AH _ _).alloc (AC _) _;have V:=N.below Z
 by_cases h0:0<=k
 ·by_cases h1:k<Y
  ·obtain⟨n,rfl⟩:∃n:Nat,k=n:=⟨k.toNat,by omega⟩;obtain⟨y,off,v,l,c,x,rfl,A,U,J,I,C⟩:=V.at_ (show n<Y by omega);have X:Hid (Bt wss n=l):=by
    unfold Hid Bt;rw[Vb ⟨h0,by rw[D.out];exact h1⟩,Aa,J,CG,I.len]
   clear J I N V;go_enter func212,ntmps212;go_wp2;go_ret;exact⟨by rw[X.out];rfl,Z⟩
  ·have X:Hid (Bt wss k=0):=by
    unfold Hid Bt;rw[Va (by rw[D.out];omega)]
   go_enter func212,ntmps212;go_wp2;go_ret;exact⟨by rw[X.out];rfl,Z⟩
 ·have X:Hid (Bt wss k=0):=by
   unfold Hid Bt;rw[Va om]
  go_enter func212,ntmps212;go_wp2;go_ret;exact⟨by rw[X.out];rfl,Z⟩
theorem ani{wss:Lq}{x y:AF}(h:x.1≠y.1):BD wss x y=decide (x.1<y.1):=by rw[Db,Gd,decide_eq_true_eq];omega
theorem amZ{wss:Lq}{x y:AF}(h:x.1=y.1)(h2:Bt wss x.2≠Bt wss y.2):BD wss x y=decide (Bt wss y.2<Bt wss x.2):=by rw[Db,Gd,decide_eq_true_eq];omega
theorem anH{wss:Lq}{x y:AF}(h:x.1=y.1)(h2:Bt wss x.2=Bt wss y.2):BD wss x y=decide (x.2<y.2):=by rw[Db,Gd,decide_eq_true_eq];omega
theorem ah7(fold:Bool)(a:Option Addr)(V N:Nat)(x y:AF)(wss:Lq)(w:World)(hA:Wds w a V wss)(B:V<=1000000) :Calls ZP 162 #[.agg (AM fold a V N),.agg #[int i64 x.1,int i64 x.2],.agg #[int i64 y.1,int i64 y.2]] w λe w'=>e=.returned (bool (BD wss x y))/\Br w w':=by
 have U:Br w (((w.alloc (.cells (AM fold a V N) 24)).alloc (.cells #[int i64 x.1,int i64 x.2] 116)).alloc (.cells #[int i64 y.1,int i64 y.2] 116)):=
  (((AH _ _).alloc (AC _) _).alloc sm _).alloc (by simp;omega) _
 by_cases h1:x.1=y.1
 ·have D:((x.1:Int) != y.1)=false:=by simp[h1]
  have H1:=AA h1;clear h1;obtain⟨Y,Z⟩:∃Y,Y=(((w.alloc (.cells (AM fold a V N) 24)).alloc (.cells #[int i64 x.1,int i64 x.2] 116)).alloc (.cells #[int i64 y.1,int i64 y.2] 116)):=⟨_,rfl⟩;have hz:w.heap.size+1+1<Y.heap.size:=by rw[Z];simp
  have A:Y.heap[w.heap.size]?=some (.cells (AM fold a V N) 24 (0,0)):=by rw[Z];exact(Bg _ _ _ (by simp;omega)).trans ((Bg _ _ _ sm).trans (AT _ _))
  have b1:Y.heap[w.heap.size+1]?=some (.cells #[int i64 x.1,int i64 x.2] 116 (0,0)):=by rw[Z];exact(Bg _ _ _ sm).trans (Hf sm _)
  have b2:Y.heap[w.heap.size+1+1]?=some (.cells #[int i64 y.1,int i64 y.2] 116 (0,0)):=by rw[Z];exact Hf sm _
  have J:∀d os,Wds (grow (redrawn Y d) os) a V wss:=λd os=>(hA.below (Z ▸ U)).below (Vf Y d os);have cell:∀(n i:Nat)(cs:Array Value)(t:TypeId)(v:Value),n<Y.heap.size->Y.heap[n]?=some (.cells cs t (0,0))->cs[i]?=some v->∀d os,(grow (redrawn Y d) os).cell? ⟨n,i,none⟩=some v:=λn i cs t v hn hb hv d os=>
   ((Vf Y d os).cell (p:=⟨n,i,none⟩) hn).trans (by simp[cell?,hb,hv])
  have s0:=cell w.heap.size 0 _ _ (bool fold) om A rfl;have s1:=cell w.heap.size 1 _ _ (slice a V N) om A rfl;have j:=cell (w.heap.size+1) 1 _ _ (int i64 x.2) om b1 rfl;have o:=cell (w.heap.size+1+1) 1 _ _ (int i64 y.2) om b2 rfl;have s:=AA (Z ▸ U);clear A b1 b2 cell U hA;go_enter func162,ntmps162;go_wp2;rw[<-Z];clear Z;refine wp_region_quiet_below mixed kr ?_
  repeat (go_big_quiet_step (exact Eu (aiU fold a V N _ wss _ (J _ _) B)))
  refine wpQuiet_nil ?_;rintro _ ⟨⟨H,X⟩,rfl⟩;have a2:=j H X;have a1:=o H X;have hB:Br w (grow (redrawn Y H) X):=s.out.trans ((Vf Y H X).mono om);clear s0 s1 j o J
  by_cases h2:Bt wss x.2=Bt wss y.2
  ·have C:(Bt wss x.2 != Bt wss y.2)=false:=by simp[h2]
   have I:=AA (anH H1.out h2);clear h2;go_wp2;go_ret;exact⟨by rw[I.out];rfl,hB⟩
  ·have C:(Bt wss x.2 != Bt wss y.2)=true:=by simp[h2]
   have I:=AA (amZ H1.out h2);clear h2;go_wp2;go_ret;exact⟨by rw[I.out];rfl,hB⟩
 ·have D:((x.1:Int) != y.1)=true:=by simp[h1]
  have I:=AA (ani (wss:=wss) h1);clear h1;go_enter func162,ntmps162;go_wp2;go_ret;exact⟨by rw[I.out];rfl,U⟩
theorem akQ(fold:Bool)(a b:Option Addr)(J A N cb:Nat)(l:List AF)(h:AF)(wss:Lq)(w:World)(hA:Wds w a J wss)(hL:Hts w b N l)(ak:J<=1000000)(ay:N<=1000000000)(am:N<=cb) :Calls ZP 106 #[.agg (AM fold a J A),slice b N cb,.agg #[int i64 h.1,int i64 h.2]] w λe w'=>∃v,e=.returned v/\Ax w' w.heap.size v (Es wss l h)/\Br w w':=by
 obtain⟨i0,hi,a1,o,s⟩:=Vk IG;have a8:=AA hL.len;have a7:Br w ((w.alloc (.cells (AM fold a J A) 24)).alloc (.cells #[int i64 h.1,int i64 h.2] 116)):=
  ((AH _ _).alloc (AC _) _).alloc sm _
 have y:((w.alloc (.cells (AM fold a J A) 24)).alloc (.cells #[int i64 h.1,int i64 h.2] 116)).heap[w.heap.size]?=some (.cells (AM fold a J A) 24 (0,0)):=
  (Bg _ _ _ sm).trans (AT _ _)
 have H:((w.alloc (.cells (AM fold a J A) 24)).alloc (.cells #[int i64 h.1,int i64 h.2] 116)).heap[w.heap.size+1]?=some (.cells #[int i64 h.1,int i64 h.2] 116 (0,0)):=
  Hf sm _
 go_enter func106,ntmps106
 go_upto_block 0 with fail
 go_cut[7] (λs7 wx=>∃k:Nat,k<=N/\s7=int i64 k/\Hid (putN wss l h=k)/\Br w wx/\wx.heap[w.heap.size+1]?=some (.cells #[int i64 h.1,int i64 h.2] 116 (0,0)))
 case first=>
  go_wp2_with fail
  go_loopw[7] (λs7 wr=>∃k:Nat,k<=N/\s7=int i64 k/\Hid (∀x∈l.drop k,BD wss h x=true)/\Br w wr/\wr.heap[w.heap.size]?=some (.cells (AM fold a J A) 24 (0,0))/\wr.heap[w.heap.size+1]?=some (.cells #[int i64 h.1,int i64 h.2] 116 (0,0))) (λi _=>(intOf i).toNat)
  case atStart=>exact⟨N,AC _,rfl,(by rw[Hid,List.drop_of_length_le (by rw[a8.out];exact AC _)];simp),a7,y,H⟩
  case round=>
   clear a7 y H;obtain⟨k,hk,rfl,HK,V,y,H⟩:=hrel
   by_cases h0:0<k
   ·obtain⟨j,rfl⟩:∃j,k=j+1:=⟨k-1,by omega⟩;have ab:=hL.below V;obtain⟨bb,off,x,rfl,aa,ai,ag,hx,_,_⟩:=ab.at_ (show j<N by omega);have U:w.heap.size+1<wr.heap.size:=(AD.1 H).1;have cell:∀(n i:Nat)(cs:Array Value)(t:TypeId)(v:Value),n<wr.heap.size->wr.heap[n]?=some (.cells cs t (0,0))->cs[i]?=some v->∀d os,(grow (redrawn wr d) os).cell? ⟨n,i,none⟩=some v:=λn i cs t v hn hb hv d os=>
     ((Vf wr d os).cell (p:=⟨n,i,none⟩) hn).trans (by simp[cell?,hb,hv])
    have s0:=cell w.heap.size 0 _ _ (bool fold) om y rfl;have s1:=cell w.heap.size 1 _ _ (slice a J A) om y rfl;have aq:=cell (w.heap.size+1) 0 _ _ (int i64 h.1) om H rfl;have ap:=cell (w.heap.size+1) 1 _ _ (int i64 h.2) om H rfl;have x0:∀d os,(grow (redrawn wr d) os).cell? ⟨bb,off+j*2,none⟩=some (int i64 x.1):=λd os=>((Vf wr d os).cell (p:=⟨bb,off+j*2,none⟩) aa).trans ai;have x1:∀d os,(grow (redrawn wr d) os).cell? ⟨bb,off+j*2+1,none⟩=some (int i64 x.2):=λd os=>((Vf wr d os).cell (p:=⟨bb,off+j*2+1,none⟩) aa).trans ag;have af:∀d os,Wds (grow (redrawn wr d) os) a J wss:=λd os=>(hA.below V).below (Vf wr d os);have HX:=AA hx;have az:j<N:=by omega
    clear cell ai ag hx h0 ab;go_wp2;refine wp_region_quiet_below mixed kr ?_
    repeat (go_big_quiet_step (exact Eu (ah7 fold a J A h x wss _ (af _ _) ak)))
    refine wpQuiet_nil ?_;rintro _ ⟨⟨dq,D⟩,rfl⟩;have B:=Vf wr dq D;have ae:Br w (grow (redrawn wr dq) D):=V.trans (B.mono V.size);have c0:(grow (redrawn wr dq) D).heap[w.heap.size]?=_:=(B.block _ om).trans y;have c1:(grow (redrawn wr dq) D).heap[w.heap.size+1]?=_:=(B.block _ U).trans H;clear s0 s1 aq ap x0 x1 af y H V B
    cases e:BD wss h x with
    |true=>
     have ar:Hid (∀x∈l.drop j,BD wss h x=true):=by
      have al:j<l.length:=(AP.1 HX.out).1;have e2:l.drop j=x::l.drop (j+1):=by rw[List.drop_eq_getElem_cons al,(AP.1 HX.out).2]
      rw[Hid,e2];intro z U
      rcases CR.1 U with rfl|U
      ·exact e
      ·exact HK.out z U
     go_wp2
     go_roundw
     case rel=>exact⟨j,by omega,by go_num,ar,ae,c0,c1⟩
     case measure=>simp[intOf];try omega
    |false=>
     have HP:Hid (putN wss l h=j+1):=afK (by rw[a8.out];exact hk) HK.out (λz _ U=>by rw[Jl,HX.out]at U;rw[<-AK U];exact e)
     go_wp2_with fail
     go_meet
     exact⟨j+1,hk,by go_num,HP,ae,c1⟩
   ·obtain rfl:k=0:=by omega
    have HP:Hid (putN wss l h=0):=afK om HK.out (λz U _=>absurd U om);go_wp2
    go_quiet (fail)
    go_wp2_with fail
    go_meet
    exact⟨0,by omega,by go_num,HP,V.trans ⟨rfl,rfl,rfl,AC _,λ_ _=>rfl⟩,H⟩
 case rest=>
  obtain⟨k,hk,rfl,HP,hB,c1⟩:=hcut;clear a7 y H;have hT:=(hL.below hB).take hk;have U:w.heap.size+1<wc.heap.size:=(AD.1 c1).1;go_upto_region 6 with(at_builtin;refine JA rfl _ _ 69 rfl w.heap.size 116 i0 (.agg #[.int .i64 0,.int .i64 0]) 2 16 underlying69 hi a1 o s rfl (by decide) _ _ _ rfl (BN wc w.heap.size 116 2) b k cb (AV (l.take k)) rfl hT.1 (MC _) (by unfold maxLen;omega) om om ?_;intro v1 w3 Y Z av)
  simp only[DD,Av]at Y;have ac:Br w w3:=hB.grown Z om (λj hj=>by cases hj);have d1:w3.heap[w.heap.size+1]?=some (.cells #[int i64 h.1,int i64 h.2] 116 (0,0)):=(Z.block _ U (by intro e;cases e)).trans c1;have q0:w3.cell? ⟨w.heap.size+1,0,none⟩=some (int i64 h.1):=by simp[cell?,d1]
  have q1:w3.cell? ⟨w.heap.size+1,1,none⟩=some (int i64 h.2):=by simp[cell?,d1]
  have ax:=ac.size;go_upto_region 7 with(at_builtin;refine wpList_append_own _ rfl _ _ 69 rfl w.heap.size 116 i0 (.agg #[.int .i64 0,.int .i64 0]) 2 16 underlying69 hi a1 o s rfl (by decide) _ _ _ rfl (Y.alloc _) ⟨w3.heap.size,0,none⟩ 1 1 [.int .i64 h.1,.int .i64 h.2] rfl rfl (GI _ _ sm) (by simp[Value.oneCell']) (by unfold maxLen;omega) om (by simp;omega) ?_;intro v2 w4 I X aj)
  have a6:Br w w4:=aa7 (base:=0) ac Y X;have hR:=(hL.below a6).rest hk am;have aw:=a6.size;have E1:Hid ((Es wss l h).length=k+1+(N-k)):=by unfold Hid Es;rw[HP.out,List.length_append,Ao,Ag,List.length_drop,a8.out];omega
  have E2:Hid (AV (Es wss l h)=AV (l.take k)++[int i64 h.1,int i64 h.2]++AV (l.drop k)):=by unfold Hid Es;rw[HP.out];simp[AV,IH]
  clear q0 q1 Z X
  go_wp2_with (at_builtin;refine JA rfl _ _ 69 rfl w.heap.size 116 i0 (.agg #[.int .i64 0,.int .i64 0]) 2 16 underlying69 hi a1 o s rfl (by decide) _ _ _ rfl I (if cb=k then b else Option.map (λx=>x.add (k*2)) b) (N-k) (cb-k) (AV (l.drop k)) rfl hR.1 (MC _) (by unfold maxLen;omega) om om ?_;intro v3 w5 a2 C au)
  all_goals
   have ao:Br w w5:=a6.grown C om (λj hj=>(I.lt j hj).1);go_ret;refine⟨_,rfl,?_,ao⟩;unfold Ax;rw[E1.out,E2.out];exact a2
theorem Ax.below{w w':World}{base:Nat}{v:Value}{l:List AF}(h:Ax w base v l)(U:Br w w'):Ax w' base v l:=by
 obtain⟨h1,h2|⟨g,cap,Z,e,V,Y,X⟩⟩:=h
 ·exact⟨h1,.inl h2⟩
 ·exact⟨h1,.inr ⟨g,cap,Z,e,V,(U.block g (AD.1 Y).1).trans Y,X⟩⟩
theorem am6{fold:Bool}{wss:Lq}{frm:Int}{text:List Int}{p n:Nat}(h0:0<=frm)(h1:frm<=4611686018427387904)(Y:p<=1000001)(X:n<=1000000):∀h∈Do fold wss frm text p n,I64 h.1/\I64 h.2:=by intro h Z;obtain⟨k,hk,_,rfl⟩:=Na.1 Z;unfold I64;dsimp only;omega
theorem ad7(fold:Bool)(wss:Lq)(frm:Int)(text:List Int)(p n:Nat):(Do fold wss frm text p n).length<=n:=by
 rw[ab3];have:=List.length_filter_le (λk=>FP fold wss text p k) (List.range n)
 simpa using this
theorem agD(fold:Bool)(wss:Lq)(frm:Int)(text:List Int):∀n,(Et fold wss frm text n).length<=n*wss.length
 |0=>by simp[Et]
 |n+1=>by have h1:=agD fold wss frm text n;have h2:=ad7 fold wss frm text n wss.length;rw[NU,List.length_append,Nat.add_mul,Nat.one_mul];omega
theorem alV(fold:Bool)(a b:Option Addr)(X y H cb:Nat)(frm:Int)(text:List Int)(wss:Lq)(w:World)(hA:Wds w a X wss)(hL:Bys w b H text)(aF:X<=1000)(aE:H<=1000000)(aI:H<=cb)(hM:∀x∈wss,x.length<=1000000)(hm:KZ fold wss frm=true) :Calls ZP 56 #[.agg (AM fold a X y),int i64 frm,slice b H cb] w λe w'=>∃v,e=.returned (.tuple #[v,int i64 0])/\Ax w' w.heap.size v (EL fold wss frm text)/\Br w w':=by
 obtain⟨i0,hi,az,ay,ax⟩:=Vk IG;have ag:Br w (w.alloc (.cells (AM fold a X y) 24)):=(AH _ _).alloc (AC _) _;have aa:=AT w (.cells (AM fold a X y) 24);obtain⟨ak,aj⟩:=am8 hm;unfold KZ at hm;rw[NF,Ve ⟨ak,aj⟩,FJ]at hm;have HM:=AA hm;have au:=AA hA.len;have aM:=AA hL.len;clear hm;go_enter func56,ntmps56
 go_wp2_with fail
 refine(acH fold a X y wss _ (hA.below ag) om hM).mono ?_;rintro e w1 ⟨rfl,hb⟩;rw[HM.out];have aq:Br w w1:=ag.trans (hb.mono sm);have U:w1.heap[w.heap.size]?=some (.cells (AM fold a X y) 24 (0,0)):=(hb.block _ sm).trans aa;clear hb aa ag;go_wp2
 go_loopw[8,9,10,11] (λs8 s9 _ _ wr=>∃(p:Nat)(v:Value),v=s8/\p<=H+1/\s9=int i64 p/\Ax wr w.heap.size v (Et fold wss frm text p)/\Br w wr/\wr.heap[w.heap.size]?=some (.cells (AM fold a X y) 24 (0,0))) (λ_ s9 _ _ _=>H+1-(intOf s9).toNat)
 case atStart=>exact⟨0,_,rfl,by omega,rfl,BN _ _ _ _,aq,U⟩
 case round=>
  clear aq U;obtain⟨p,v,rfl,hp,rfl,Z,Y,U⟩:=hrel;have aA:=agD fold wss frm text p;have aQ:p*wss.length<=1000001*1000:=GR om (by rw[au.out];exact aF)
  by_cases aR:p<=H
  ·have hd:decide ((p:Int)<=H)=true:=by simp;omega
   go_upto_block 2 with fail
   go_cut[10] (λac wx=>∃(o:Option Addr)(s:Nat)(l:List AF),ac=slice o l.length s/\l.length<=s/\Hid (l=Do fold wss frm text p X)/\Hts wx o l.length l/\Ax wx w.heap.size v (Et fold wss frm text p)/\Br w wx/\wx.heap[w.heap.size]?=some (.cells (AM fold a X y) 24 (0,0)))
   case first=>
    go_wp2_with fail
    go_loopw[10,11] (λac ab wx=>∃(k:Nat)(o:Option Addr)(s:Nat)(l:List AF),k<=X/\ab=int i64 k/\ac=slice o l.length s/\l.length<=s/\Hid (l=Do fold wss frm text p k)/\Hts wx o l.length l/\Ax wx w.heap.size v (Et fold wss frm text p)/\Br w wx/\wx.heap[w.heap.size]?=some (.cells (AM fold a X y) 24 (0,0))) (λ_ ab _=>X-(intOf ab).toNat)
    case atStart=>exact⟨0,none,0,[],AR _,rfl,rfl,AC _,rfl,⟨⟨rfl,.inl rfl⟩,by simp⟩,Z,Y,U⟩
    case round=>
     clear Z Y U;obtain⟨k,o,s,l,hk,rfl,rfl,a1,HH,hts,Z,Y,U⟩:=hrel;have n0:w.heap.size<wr.heap.size:=(AD.1 U).1;have s0:∀d os,(grow (redrawn wr d) os).cell? ⟨w.heap.size,0,none⟩=some (bool fold):=λd os=>((Vf wr d os).cell (p:=⟨w.heap.size,0,none⟩) n0).trans (by simp[cell?,U]);have s1:∀d os,(grow (redrawn wr d) os).cell? ⟨w.heap.size,1,none⟩=some (slice a X y):=λd os=>((Vf wr d os).cell (p:=⟨w.heap.size,1,none⟩) n0).trans (by simp[cell?,U]);have t1:wr.cell? ⟨w.heap.size,1,none⟩=some (slice a X y):=by simp[cell?,U]
     by_cases aG:k<X
     ·obtain⟨bb,off,aw,lw,cw,x,rfl,aK,B,hx,hX,aP⟩:=(hA.below Y).at_ aG;have aC:lw<=1000000:=by have:=Ff hM hx;rw[hX.len]at this;exact this
      have a6:∀d os,(grow (redrawn wr d) os).cell? ⟨bb,off+k,none⟩=some (slice aw lw cw):=λd os=>((Vf wr d os).cell (p:=⟨bb,off+k,none⟩) aK).trans B;have am:∀d os,Bys (grow (redrawn wr d) os) aw lw x:=λd os=>hX.below (Vf wr d os);have ap:∀d os,Bys (grow (redrawn wr d) os) b H text:=λd os=>(hL.below Y).below (Vf wr d os);have av:Hid (FP fold wss text p k=atL fold text (p:Int) x):=aiw hx;have aH:decide ((k:Int)<X)=true:=by simp;omega
      clear hx B;go_wp2;refine wp_region_quiet_below mixed kr ?_
      repeat (go_big_quiet_step (exact Eu (ao1 fold b aw H cb lw cw (p:Int) text x _ (ap _ _) (am _ _) aI aE aC om)))
      refine wpQuiet_nil ?_;rintro _ ⟨⟨dq,I⟩,rfl⟩;have A:=Vf wr dq I;have N:Br w (grow (redrawn wr dq) I):=Y.trans (A.mono Y.size);have m1:(grow (redrawn wr dq) I).heap[w.heap.size]?=_:=(A.block _ n0).trans U;have V:=Z.below A;have J:=hts.below A;have q0:=s0 dq I;have q1:=s1 dq I;clear s0 s1 t1 a6 am ap hX U Y Z hts;obtain⟨W5,ao⟩:∃W5,W5=grow (redrawn wr dq) I:=⟨_,rfl⟩;rw[<-ao]at N m1 V J q0 q1⊢;clear ao A
      cases e:atL fold text (p:Int) x with
      |false=>
       have a8:Hid (l=Do fold wss frm text p (k+1)):=by rw[Hid,Lz,av.out,e,HH.out];rfl
       go_wp2
       go_roundw
       case rel=>exact⟨k+1,o,s,l,by omega,by go_num,rfl,a1,a8,J,V,N,m1⟩
       case measure=>simp[intOf];omega
      |true=>
       have a8:Hid (Es wss l (frm+(p:Int),(k:Int))=Do fold wss frm text p (k+1)):=by rw[Hid,Lz,av.out,e,HH.out];rfl
       have aD:l.length<=1000000:=by rw[HH.out];have:=ad7 fold wss frm text p k;omega
       have al:∀x∈Es wss l (frm+(p:Int),(k:Int)),I64 x.1/\I64 x.2:=by rw[a8.out];exact am6 ak aj om om
       have aO:=AA al;have ar:=hA.below N;clear al
       go_wp2_with fail
       refine(akQ fold _ o X y l.length s l (frm+(p:Int),(k:Int)) wss _ ar J om om a1).mono ?_;rintro e w6 ⟨v6,rfl,D,a7⟩;obtain⟨a2,c2,rfl,aJ,ai⟩:=D.hts aO.out;have aL:Br w w6:=N.trans (a7.mono N.size);have m6:w6.heap[w.heap.size]?=_:=(a7.block _ (AD.1 m1).1).trans m1;have ae:=V.below a7;clear D V J q0 q1 a7 m1 N ar;go_wp2
       go_roundw
       case rel=>exact⟨k+1,a2,c2,_,by omega,by go_num,rfl,aJ,a8,ai,ae,aL,m6⟩
       case measure=>simp[intOf];omega
     ·obtain rfl:k=X:=by omega
      have aH:decide ((k:Int)<k)=false:=by simp
      go_wp2_with fail
      go_meet
      exact⟨o,s,l,rfl,a1,HH,hts,Z,Y,U⟩
   case rest=>
    clear Z Y U;obtain⟨o,s,l,rfl,a1,HH,hts,Z,Y,U⟩:=hcut;have n0:w.heap.size<wc.heap.size:=(AD.1 U).1;have aD:l.length<=1000000:=by rw[HH.out];have:=ad7 fold wss frm text p X;omega
    have aB:=Gz Z U (Vc kr);have HS:Hid (Et fold wss frm text (p+1)=Et fold wss frm text p++l):=by rw[Hid,NU,au.out,HH.out]
    obtain⟨m,hm⟩:∃m,(Et fold wss frm text p).length=m:=⟨_,rfl⟩;unfold Ax at Z;rw[hm]at Z aA;have aN:=AA hm;clear hm
    go_wp2_with (at_builtin;refine JA rfl _ _ 69 rfl w.heap.size 116 i0 (.agg #[.int .i64 0,.int .i64 0]) 2 16 underlying69 hi az ay ax rfl (by decide) _ _ _ rfl Z o l.length s (AV l) rfl hts.1 (MC l) (by unfold maxLen;omega) om Y.size ?_;intro v' w5 af C aS)
    have N:Br w w5:=Y.grown C Y.size (λj hj=>(Z.lt j hj).1);have n5:w5.heap[w.heap.size]?=_:=(C.block _ n0 (Ne.symm aB)).trans U
    go_roundw
    case rel=>
     refine⟨p+1,_,rfl,by omega,by go_num,?_,N,n5⟩;unfold Ax;rw[HS.out,List.length_append,aN.out,JT];exact af
    case measure=>simp[intOf];omega
  ·obtain rfl:p=H+1:=by omega
   have HO:Hid (Et fold wss frm text (H+1)=EL fold wss frm text):=by unfold Hid EL;rw[aM.out]
   rw[HO.out]at Z;go_wp2;go_ret2;exact⟨_,rfl,Z,Y⟩
theorem My{fold:Bool}{ws:Lq}(U:ws.Nodup)(h0:∀y∈ws,y.length≠0):∀(b:List Int)(z:Nat)(at_:Int),z<(AB ws).length->∀h∈BQ fold ws z at_ b,(at_<h.1/\h.1<=at_+b.length)/\0<=h.2/\h.2<(ws.length:Int)
 |[],z,at_,_,h,Z=>by simp[BQ]at Z
 |c::b,z,at_,hz,h,Z=>by
  have N:(AB ws)[z]?=some (AB ws)[z]:=Ar hz;have Y:=(KU (fold:=fold) N c).1;have X:=(AP.1 Y).1;simp only[BQ,Bf,Be]at Z;rw[Ao]
  rcases Z with⟨v,V,rfl⟩|Z
  ·rw[OU h0 Y,KY U h0]at V;obtain⟨k,y,h1,_,rfl⟩:=V;have:=(AP.1 h1).1;dsimp only;omega
  ·have:=My U h0 b _ (at_+1) X h Z;omega
theorem ajI(k:Nat):∀(l:Lq),(∀x∈l,x.length<=k)->l.flatten.length<=l.length*k
 |[],_=>by simp
 |x::l,h=>by have h1:=h x sm;have h2:=ajI k l (λy Z=>h y (MT _ Z));simp only[List.flatten_cons,List.length_append,Ao,Nat.add_mul,Nat.one_mul];omega
theorem ah1{Z:Lq}(h:Ev Z=false):Z.length<=80/\(∀x∈Z,x.length<=3000)/\Z.flatten.length<=240000:=by obtain⟨h1,h2,_⟩:=ako h false;have h3:=ajI 3000 Z h2;have h4:Z.length*3000<=80*3000:=IO _ h1;exact⟨h1,h2,by omega⟩
theorem abE{fold:Bool}{wss:Lq}(Z:An fold wss=true):(AB wss).length<=1000/\∀(node:Int),∀v∈Dz wss node,I64 v:=by have h1:(AB wss).length<=400:=Hx (Fy.2 ⟨IY Z,rfl,rfl⟩);obtain⟨V,_,X,_⟩:=EI Z;exact⟨by omega,λnode=>afY om (Fv Z).1 (λx Y=>(X x Y).1) node⟩
def DS(fold:Bool)(a:Option Addr)(V J:Nat)(wk bl rg Y X Z fr:Int)(br:Bool)(b:Option Addr)(n N:Nat)(d:Option Addr)(m U:Nat):Array Value:=
 #[bool fold,slice a V J,int i64 wk,int i64 bl,int i64 rg,int i64 Y,int i64 X,int i64 Z,int i64 fr,bool br,slice b n N,slice d m U]
def GV(fold:Bool)(wss:Lq)(wk bl rg X V Y fr:Int)(Z:Lq)(m:Nat):Bool:=!Ev wss&&Fw fold wss&&Ce wk bl rg X V Y fr&&decide (Z.length<=20)&&!Ev Z&&decide (Z.flatten.length<=60)&&decide (m<=12)
theorem abk(fold:Bool)(a:Option Addr)(B ca:Nat)(wk bl rg I H J fr:Int)(br:Bool)(b:Option Addr)(n cb:Nat)(d:Option Addr)(m cd:Nat)(wss Z:Lq)(w:World)(hA:Wds w a B wss)(hB:Wds w b n Z) :Calls ZP 11 #[.agg (DS fold a B ca wk bl rg I H J fr br b n cb d m cd)] w λe w'=>e=.returned (bool (GV fold wss wk bl rg I H J fr Z m))/\Br w w':=by
 obtain⟨W,hW⟩:∃W,W=w.alloc (.cells (DS fold a B ca wk bl rg I H J fr br b n cb d m cd) 29):=⟨_,rfl⟩;have A:Br w W:=by rw[hW];exact(AH _ _).alloc (AC _) _
 have hO:Bx w.heap.size [.cells (DS fold a B ca wk bl rg I H J fr br b n cb d m cd) 29] W:=by rw[hW];exact(Bx.nil _ w).snoc _ rfl
 have HC:Hid (∀V,Br W V->V.cell? ⟨w.heap.size,0,none⟩=some (bool fold)/\V.cell? ⟨w.heap.size,1,none⟩=some (slice a B ca)/\V.cell? ⟨w.heap.size,2,none⟩=some (int i64 wk)/\V.cell? ⟨w.heap.size,3,none⟩=some (int i64 bl)/\V.cell? ⟨w.heap.size,4,none⟩=some (int i64 rg)/\V.cell? ⟨w.heap.size,5,none⟩=some (int i64 I)/\V.cell? ⟨w.heap.size,6,none⟩=some (int i64 H)/\V.cell? ⟨w.heap.size,7,none⟩=some (int i64 J)/\V.cell? ⟨w.heap.size,8,none⟩=some (int i64 fr)/\V.cell? ⟨w.heap.size,10,none⟩=some (slice b n cb)/\V.cell? ⟨w.heap.size,11,none⟩=some (slice d m cd)):=λV hV=>by have h:=hO.below hV;exact⟨h.cell (i:=0) rfl rfl,h.cell (i:=0) rfl rfl,h.cell (i:=0) rfl rfl,h.cell (i:=0) rfl rfl,h.cell (i:=0) rfl rfl,h.cell (i:=0) rfl rfl,h.cell (i:=0) rfl rfl,h.cell (i:=0) rfl rfl,h.cell (i:=0) rfl rfl,h.cell (i:=0) rfl rfl,h.cell (i:=0) rfl rfl⟩
 have hn:Z.length=n:=hB.len;have a6:=hA.below A;have a2:=hB.below A;unfold GV;rw[hn];have k1:Hid (Calls ZP 45 #[.agg (AM fold a B ca)] W λe w'=>e=.returned (bool (Ev wss))/\Br W w'):=ai3 fold a B ca wss W a6;have k2:Hid (Ev wss=false->∀V,Br W V->Calls ZP 46 #[.agg (AM fold a B ca)] V λe w'=>e=.returned (bool (Fw fold wss))/\Br V w'):=λhg V hV=>by obtain⟨b1,b2,_⟩:=ako hg fold;have hl:=hA.len;exact acH fold a B ca wss V (a6.below hV) om (λx hx=>AS (b2 x hx) om)
 have k3:Hid (∀V,Calls ZP 25 #[.agg (Ee wk bl rg I H J fr)] V λe w'=>e=.returned (bool (Ce wk bl rg I H J fr))/\Br V w'):=λV=>afn wk bl rg I H J fr V;have k4:Hid (∀V,Br W V->Calls ZP 47 #[slice b n cb] V λe w'=>e=.returned (bool (Ev Z))/\V=w'):=λV hV=>acB b n cb Z V (a2.below hV);have k5:Hid (Ev Z=false->∀V,Br W V->Calls ZP 12 #[slice b n cb] V λe w'=>∃(a1:Option Addr)(c1:Nat),e=.returned (slice a1 Z.flatten.length c1)/\Br V w'):=λhg V hV=>by obtain⟨b1,b2,b3⟩:=ah1 hg;refine(act b n cb Z V (a2.below hV) om om).mono ?_;rintro e w' ⟨a1,c1,h1,_,_,h2⟩;exact⟨a1,c1,h1,h2⟩
 obtain⟨G,hG⟩:∃G,Ev wss=G:=⟨_,rfl⟩;obtain⟨R,hR⟩:∃G,Fw fold wss=G:=⟨_,rfl⟩;obtain⟨C,hC⟩:∃G,Ce wk bl rg I H J fr=G:=⟨_,rfl⟩;obtain⟨G3,ae⟩:∃G,Ev Z=G:=⟨_,rfl⟩;obtain⟨N,hN⟩:∃G,Z.flatten.length=G:=⟨_,rfl⟩;obtain⟨D1,s⟩:∃D,decide (n<=20)=D:=⟨_,rfl⟩;obtain⟨D2,v⟩:∃D,decide (N<=60)=D:=⟨_,rfl⟩;obtain⟨D3,y⟩:∃D,decide (m<=12)=D:=⟨_,rfl⟩;rw[hG]at k1 k2⊢;rw[hR]at k2⊢;rw[hC]at k3⊢;rw[ae]at k4 k5⊢;rw[hN]at k5⊢;rw[s,v,y];have d1:decide ((n:Int)<=20)=D1:=by rw[<-s,decide_eq_decide];omega
 have d2:decide ((N:Int)<=60)=D2:=by rw[<-v,decide_eq_decide];omega
 have d3:decide ((m:Int)<=12)=D3:=by rw[<-y,decide_eq_decide];omega
 have U:=AA A;obtain⟨q0,q1,q2,q3,q4,q5,q6,j,o,X,Y⟩:=HC.out W (AH _ _);clear hA hB hO A hn a6 a2 hG hR hC ae hN;go_enter func11,ntmps11;go_upto_region 1 with fail
 rw[<-hW];clear hW
 go_wp2_with fail
 refine k1.out.mono ?_;rintro e w1 ⟨rfl,ac⟩;have X1:=AA ac;clear q0 q1 q2 q3 q4 q5 q6 j o X Y k1 ac;obtain⟨q0,q1,q2,q3,q4,q5,q6,j,o,X,Y⟩:=HC.out w1 X1.out
 cases G with
 |true=>
  go_wp2;go_ret;exact⟨rfl,U.out.trans (X1.out.mono U.out.size)⟩
 |false=>
  have a7:=k2.out rfl;have K2:=AA (a7 w1 X1.out);clear k2 a7
  go_wp2_with fail
  refine K2.out.mono ?_;rintro e w2 ⟨rfl,ab⟩;have X2:=AA (X1.out.trans (ab.mono X1.out.size));clear q0 q1 q2 q3 q4 q5 q6 j o X Y ab K2;obtain⟨q0,q1,q2,q3,q4,q5,q6,j,o,X,Y⟩:=HC.out w2 X2.out
  cases R with
  |false=>
   go_wp2;go_ret;exact⟨rfl,U.out.trans (X2.out.mono U.out.size)⟩
  |true=>
   go_wp2_with fail
   refine(k3.out w2).mono ?_;rintro e w3 ⟨rfl,aa⟩;have X3:=AA (X2.out.trans (aa.mono X2.out.size));clear q0 q1 q2 q3 q4 q5 q6 j o X Y aa;obtain⟨q0,q1,q2,q3,q4,q5,q6,j,o,X,Y⟩:=HC.out w3 X3.out
   cases C with
   |false=>
    go_wp2;go_ret;exact⟨rfl,U.out.trans (X3.out.mono U.out.size)⟩
   |true=>
    cases D1 with
    |false=>
     have e1:decide (n<=20)=false:=s;go_wp2;go_ret;exact⟨rfl,U.out.trans (X3.out.mono U.out.size)⟩
    |true=>
     have e1:decide (n<=20)=true:=s
     go_wp2_with fail
     refine(k4.out w3 X3.out).mono ?_;rintro e w4 ⟨rfl,rfl⟩
     cases G3 with
     |true=>
      go_wp2;go_ret;exact⟨rfl,U.out.trans (X3.out.mono U.out.size)⟩
     |false=>
      have K5:=AA (k5.out rfl w3 X3.out)
      go_wp2_with fail
      refine K5.out.mono ?_;rintro e w4 ⟨a1,c1,rfl,a8⟩;have X4:=AA (X3.out.trans (a8.mono X3.out.size));clear q0 q1 q2 q3 q4 q5 q6 j o X Y a8 K5 k5;obtain⟨q0,q1,q2,q3,q4,q5,q6,j,o,X,Y⟩:=HC.out w4 X4.out
      cases D2 with
      |false=>
       have e2:decide (N<=60)=false:=v;go_wp2;go_ret;exact⟨rfl,U.out.trans (X4.out.mono U.out.size)⟩
      |true=>
       have e2:decide (N<=60)=true:=v
       cases D3 with
       |false=>
        have e3:decide (m<=12)=false:=y;go_wp2;go_ret;exact⟨rfl,U.out.trans (X4.out.mono U.out.size)⟩
       |true=>
        have e3:decide (m<=12)=true:=y;go_wp2;go_ret;exact⟨rfl,U.out.trans (X4.out.mono U.out.size)⟩
def JI(l:List Int)(t:Nat):Int:=if l.length=0 then 0 else l.getD (t % l.length) 0
theorem aes(a:Option Addr)(n c:Nat)(l:List Int)(t:Nat)(w:World)(h:Sl1 (int i64) w a n l)(A:n<=1000000)(B:t<=1000000) :Calls ZP 18 #[slice a n c,int i64 (t:Int)] w λe w'=>e=.returned (int i64 (JI l t))/\w=w':=by
 have C:l.length=n:=h.1;unfold JI;rw[C]
 by_cases h0:n=0
 ·subst h0;rw[Vb rfl];go_enter func18,ntmps18;go_wp2;go_ret;exact⟨rfl,rfl⟩
 ·rw[Va h0];have H:t % n<n:=Ek _ om;obtain⟨r,X⟩:∃r,t % n=r:=⟨_,rfl⟩;rw[X]at H⊢;obtain⟨b,o,e,D,J⟩:=h.2.resolve_left h0;subst e;have V:l[r]?=some (l.getD r 0):=by rw[DZ,Ar om];rfl
  have Z:=J r _ V;obtain⟨x,Y⟩:∃x,l.getD r 0=x:=⟨_,rfl⟩;rw[Y]at Z⊢;have I:((n:Int)==0)=false:=by simp[h0]
  have U:decide ((n:Int)=0)=false:=by simp[h0]
  have N:Int.tmod (t:Int) (n:Int)=(r:Int):=by rw[<-X];rfl
  clear X V Y J h;go_enter func18,ntmps18;go_wp2;go_ret;exact⟨rfl,rfl⟩
section
open Go.ChangeShapes Go.WideShapes Go.ChangeAt Go.RowKit Go.Joins Go.Deep
theorem afa:ZP.cellsOf 29=12:=by kernel_rfl
theorem afy:ZP.cellsOf 27=1:=by kernel_rfl
section
variable {H:Type}{enc:TypeId×Value->H}{W:World}{r:Reach}{base:Nat}{d:DataW H}{p:List MemPlace}{v:Value}
theorem afu{C:Nat}{v:Value}{x:DataW H×List MemPlace}(hf:DataW.trod enc ZP W 0 (λ_=>true) true C 27 [v]=some x) :∃(a:Option Addr)(len cap:Nat)(zs:List Bool),v=slice a len cap/\Sl1 bool W a len zs/\len<=cap/\cap<=maxLen:=by
 rcases open_slice underlying27 hf with⟨Z,_⟩|⟨x,l,c,m,n,D,Pl,Z,_,j,hm,U,_,X⟩
 ·simp at Z;exact⟨none,0,0,[],Z,⟨rfl,.inl rfl⟩,AC _,by unfold maxLen;omega⟩
 ·simp at Z;simp only[if_true]at U;subst U;rw[aaL]at X;have Y:∀i,i<m->∃q:Bool,W.cell? ((x.add (i*1)).add 0)=some (bool q):=by
   intro i y;obtain⟨o,B,ht⟩:=X i y;obtain⟨_,N,s⟩:=World.cells?_some B
   match o,N with
   |[c0],_=>
    obtain⟨q,e,_⟩:=DataW.trod_bool underlying4 ht;simp at e;exact⟨q,by rw[<-e];exact s 0 sm⟩
  let f:Nat->Bool:=λi=>if X:i<m then Classical.choose (Y i X) else false
  have I:∀i,i<m->W.cell? ((x.add (i*1)).add 0)=some (bool (f i)):=by
   intro i X;have e:f i=Classical.choose (Y i X):=by simp only[f,dif_pos X]
   rw[e];exact Classical.choose_spec (Y i X)
  refine⟨some x,l,_,(List.range l).map f,Z,⟨by simp,?_⟩,j,hm⟩
  by_cases h0:l=0
  ·exact .inl h0
  ·right
   have a1:=j;obtain⟨b,off,V⟩:=x;have B:=I 0 om;obtain rfl:V=none:=by simpa[Addr.add]using World.cell?_spot B
   refine⟨b,off,rfl,?_,λi u A=>?_⟩
   ·have:=DO W _ B
    rwa[Cf,Cf]at this
   ·have J:=(AP.1 A).1;simp at J;have:=I i om;rw[Cf,Cf,Hk,DQ]at this;simp[J]at A;rw[this,A]
theorem ajL{Y:Nat}{c0 c1:Value}{x:DataW H×List MemPlace}(h:DataW.trod enc ZP W 0 (λ_=>true) true Y 24 [c0,c1]=some x):∃(fold:Bool)(a:Option Addr)(len cap:Nat)(wss:Lq),c0=bool fold/\c1=slice a len cap/\Wds W a len wss/\len<=cap/\cap<=maxLen:=by obtain⟨xs,n,_,_,_,Z,N⟩:=DataW.trod_struct underlying24 h;have U:xs.length=2:=Z;obtain⟨s,V⟩:∃y,xs[0]?=some y:=⟨xs[0]'om,by simp⟩;obtain⟨A,X⟩:∃y,xs[1]?=some y:=⟨xs[1]'om,by simp⟩;have h0:=N 0;simp only[pD,pE,pF,DC,forall_eq',aaL,V]at h0;obtain⟨b,J,_⟩:=DataW.trod_bool underlying4 h0;have h1:=N 1;simp only[pD,pE,pF,DC,forall_eq',adF,X]at h1;simp[Value.cells]at J h1;obtain⟨a,len,cap,wss,B,I,C,D⟩:=adU h1;exact⟨b,a,len,cap,wss,J,B,I,C,D⟩
theorem afP{U:Nat}{c0 c1 c2 c3 c4 c5 A:Value}{x:DataW H×List MemPlace}(h:DataW.trod enc ZP W 0 (λ_=>true) true U 26 [c0,c1,c2,c3,c4,c5,A]=some x):∃C m1 D m3 I J N:Int,c0=int i64 C/\c1=int i64 m1/\c2=int i64 D/\c3=int i64 m3/\c4=int i64 I/\c5=int i64 J/\A=int i64 N:=by
 obtain⟨xs,n,_,_,_,V,X⟩:=DataW.trod_struct underlying26 h;have B:xs.length=7:=V;have Z:∀i:Nat,i<7->∃m:Int,([c0,c1,c2,c3,c4,c5,A]:List Value)[i]?=some (.int .i64 m):=by
  intro i hi;obtain⟨y,Y⟩:∃y,xs[i]?=some y:=⟨xs[i]'om,by simp⟩
  match i,hi with
  |0,_=>have this:=X 0;simp only[pD,pE,pF,DC,forall_eq',Jd,Y]at this;obtain⟨m,e,_⟩:=DataW.trod_int underlying3 this;simp[Value.cells]at e;exact⟨m,by simp[e]⟩
  |1,_=>have this:=X 1;simp only[pD,pE,pF,DC,forall_eq',Jd,Y]at this;obtain⟨m,e,_⟩:=DataW.trod_int underlying3 this;simp[Value.cells]at e;exact⟨m,by simp[e]⟩
  |2,_=>have this:=X 2;simp only[pD,pE,pF,DC,forall_eq',Jd,Y]at this;obtain⟨m,e,_⟩:=DataW.trod_int underlying3 this;simp[Value.cells]at e;exact⟨m,by simp[e]⟩
  |3,_=>have this:=X 3;simp only[pD,pE,pF,DC,forall_eq',Jd,Y]at this;obtain⟨m,e,_⟩:=DataW.trod_int underlying3 this;simp[Value.cells]at e;exact⟨m,by simp[e]⟩
  |4,_=>have this:=X 4;simp only[pD,pE,pF,DC,forall_eq',Jd,Y]at this;obtain⟨m,e,_⟩:=DataW.trod_int underlying3 this;simp[Value.cells]at e;exact⟨m,by simp[e]⟩
  |5,_=>have this:=X 5;simp only[pD,pE,pF,DC,forall_eq',Jd,Y]at this;obtain⟨m,e,_⟩:=DataW.trod_int underlying3 this;simp[Value.cells]at e;exact⟨m,by simp[e]⟩
  |6,_=>have this:=X 6;simp only[pD,pE,pF,DC,forall_eq',Jd,Y]at this;obtain⟨m,e,_⟩:=DataW.trod_int underlying3 this;simp[Value.cells]at e;exact⟨m,by simp[e]⟩
 obtain⟨C,e0⟩:=Z 0 om;obtain⟨m1,e1⟩:=Z 1 om;obtain⟨D,e2⟩:=Z 2 om;obtain⟨m3,e3⟩:=Z 3 om;obtain⟨I,j⟩:=Z 4 om;obtain⟨J,o⟩:=Z 5 om;obtain⟨N,s⟩:=Z 6 om;simp at e0 e1 e2 e3 j o s;exact⟨C,m1,D,m3,I,J,N,e0,e1,e2,e3,j,o,s⟩
theorem aii(hv:Value.okWide ZP W r base 29 v)(h:DataW.Trod enc ZP W 0 (λ_=>true) true 29 v d p) :∃(fold:Bool)(a:Option Addr)(V ca:Nat)(wk bl rg qu ou sl fr:Int)(br:Bool)(b:Option Addr)(n j:Nat)(e:Option Addr)(m o:Nat)(wss Z:Lq)(ans:List Bool),v=.agg (DS fold a V ca wk bl rg qu ou sl fr br b n j e m o)/\Wds W a V wss/\Wds W b n Z/\Sl1 bool W e m ans:=by
 obtain⟨cs,rfl,C⟩:=okWide_struct underlying29 hv;obtain⟨l⟩:=cs
 match l,C.trans afa with
 |[c0,c1,c2,c3,c4,c5,c6,c7,c8,c9,c10,c11],_=>
  obtain⟨a1,hf⟩:=h;obtain⟨xs,n,_,_,_,X,Y⟩:=DataW.trod_struct underlying29 hf;have B:xs.length=5:=X;obtain⟨y0,D⟩:∃y,xs[0]?=some y:=⟨xs[0]'om,by simp⟩;obtain⟨y1,I⟩:∃y,xs[1]?=some y:=⟨xs[1]'om,by simp⟩;obtain⟨y2,J⟩:∃y,xs[2]?=some y:=⟨xs[2]'om,by simp⟩;obtain⟨y3,N⟩:∃y,xs[3]?=some y:=⟨xs[3]'om,by simp⟩;obtain⟨y4,U⟩:∃y,xs[4]?=some y:=⟨xs[4]'om,by simp⟩;have h0:=Y 0;simp only[pD,pE,pF,DC,forall_eq',aj2,D]at h0;obtain⟨fold,a,V,ca,wss,e0,e1,hA,_,_⟩:=ajL h0;have h1:=Y 1;simp only[pD,pE,pF,DC,forall_eq',ahH,I]at h1;obtain⟨m0,m1,m2,m3,m4,m5,m6,e2,e3,e4,e5,e6,e7,e8⟩:=afP h1;have h2:=Y 2;simp only[pD,pE,pF,DC,forall_eq',aaL,J]at h2;obtain⟨br,e9,_⟩:=DataW.trod_bool underlying4 h2;have h3:=Y 3;simp only[pD,pE,pF,DC,forall_eq',adF,N]at h3;have h4:=Y 4;simp only[pD,pE,pF,DC,forall_eq',afy,U]at h4;simp[Value.cells]at e9 h3 h4;obtain⟨b,nb,j,Z,s,hR,_,_⟩:=adU h3;obtain⟨e,ne,o,ans,A,hD,_,_⟩:=afu h4;exact⟨fold,a,V,ca,m0,m1,m2,m3,m4,m5,m6,br,b,nb,j,e,ne,o,wss,Z,ans,by rw[e0,e1,e2,e3,e4,e5,e6,e7,e8,e9,s,A];rfl,hA,hR,hD⟩
end
end
structure Chg(X:Nat->Prop)(w w':World):Prop where
 os:w'.os=w.os
 tape:w'.tape=w.tape
 output:w'.output=w.output
 size:w.heap.size<=w'.heap.size
 block:∀k,k<w.heap.size->¬X k->w'.heap[k]?=w.heap[k]?
section
variable {X Y:Nat->Prop}{a b c:World}
theorem Chg.refl(X:Nat->Prop)(w:World):Chg X w w:=⟨rfl,rfl,rfl,AC _,λ_ _ _=>rfl⟩
theorem Chg.of_below{B:Nat}(h:Below B a b)(U:∀k,B<=k->k<a.heap.size->X k):Chg X a b:=⟨h.os,h.tape,h.output,h.size,λk hk V=>h.block k (Nat.lt_of_not_le λZ=>V (U k Z hk))⟩
theorem Chg.of_same(h:Br a b):Chg X a b:=.of_below h λk h1 h2=>by omega
theorem Chg.mono(h:Chg X a b)(V:∀k,k<a.heap.size->X k->Y k):Chg Y a b:=⟨h.os,h.tape,h.output,h.size,λk hk U=>h.block k hk λZ=>U (V k hk Z)⟩
theorem Chg.trans(h:Chg X a b)(k:Chg Y b c)(N:∀i,i<a.heap.size->Y i->X i):Chg X a c:=⟨k.os.trans h.os,k.tape.trans h.tape,k.output.trans h.output,AS h.size k.size,λi Z V=>(k.block i (Af Z h.size) λU=>V (N i Z U)).trans (h.block i Z V)⟩
theorem Chg.then(h:Chg X a b)(k:Chg X b c):Chg X a c:=h.trans k λ_ _ Z=>Z
theorem Chg.same(h:Chg X a b)(k:Br b c):Chg X a c:=h.then (.of_same k)
theorem Chg.grown{row:Option Nat}(h:Chg X a b)(k:b.grownBy c row)(U:∀g,row=some g->g<a.heap.size->X g):Chg X a c:=⟨k.os.trans h.os,k.tape.trans h.tape,k.output.trans h.output,AS h.size k.size,λi Z V=>(k.block i (Af Z h.size) λe=>V (U i e.symm Z)).trans (h.block i Z V)⟩
theorem Chg.set(h:Chg X a b){g i:Nat}{v:Value}(Z:X g):Chg X a (b.setCell ⟨g,i,none⟩ v):=h.grown (BH b g i v) λk e _=>by cases e;exact Z
theorem Chg.below{B:Nat}(h:Chg X a b)(hB:B<=a.heap.size)(Z:∀k,k<B->¬X k):Below B a b:=⟨h.os,h.tape,h.output,h.size,λk hk=>h.block k (Af hk hB) (Z k hk)⟩
end
theorem Gw{w:World}{base n size:Nat}{e:TypeId}{v:Value}{xs:List Value}(h:w.ownsRow base e size v n xs):∀k,v.ownBlock=some k->base<=k/\k<w.heap.size:=λk hk=>by
 rcases h.2 with⟨rfl,_⟩|⟨g,cap,U,rfl,V,Z,_⟩
 ·cases hk
 ·cases hk
  exact⟨V,(AD.1 Z).1⟩
theorem NC{w:World}{base Z n size:Nat}{e:TypeId}{v:Value}{xs:List Value}(h:w.ownsRow base e size v n xs)(U:Z<=base):w.ownsRow Z e size v n xs:=⟨h.1,h.2.imp id λ⟨g,cap,V,h1,h2,r⟩=>⟨g,cap,V,h1,by omega,r⟩⟩
theorem Fu{W V:World}{base size n:Nat}{e:TypeId}{v:Value}{xs:List Value}(h:W.ownsRow base e size v n xs)(U:∀k,v.ownBlock=some k->V.heap[k]?=W.heap[k]?):V.ownsRow base e size v n xs:=by refine⟨h.1,h.2.imp id ?_⟩;rintro⟨g,cap,Z,rfl,h1,h2,r⟩;exact⟨g,cap,Z,rfl,h1,(U g rfl).trans h2,r⟩
def CO(X:Nat->Prop)(w:World)(e:TypeId)(size:Nat)(v:Value)(n:Nat)(xs:List Value):Prop:=w.ownsRow 0 e size v n xs/\∀g,v.ownBlock=some g->X g
section
variable {X Y:Nat->Prop}{w w':World}{e:TypeId}{size n:Nat}{v:Value}{xs:List Value}
theorem CO.lt(h:CO X w e size v n xs):∀g,v.ownBlock=some g->g<w.heap.size:=λg Z=>(Gw h.1 g Z).2
theorem CO.keep(h:CO X w e size v n xs)(U:Chg Y w w')(V:∀g,v.ownBlock=some g->¬Y g):CO X w' e size v n xs:=⟨Fu h.1 λg Z=>U.block g (h.lt g Z) (V g Z),h.2⟩
theorem CO.wide(h:CO X w e size v n xs)(V:∀k,k<w.heap.size->X k->Y k):CO Y w e size v n xs:=⟨h.1,λg Z=>V g (h.lt g Z) (h.2 g Z)⟩
theorem CO.nil(X:Nat->Prop)(w:World)(e:TypeId)(size:Nat):CO X w e size (slice none 0 0) 0 []:=⟨BN _ _ _ _,λg Z=>by cases Z⟩
end
def Fz(n:Int)(k:Nat):Nat:=((Int.tmod n k+k).tmod k).toNat
theorem alR{n:Int}{k:Nat}(hk:k≠0):(Int.tmod n k+k).tmod k=(Fz n k:Int)/\Fz n k<k/\-(k:Int)<Int.tmod n k/\Int.tmod n k<k:=by
 have h1:-(k:Int)<Int.tmod n k/\Int.tmod n k<k:=by
  have Z:(0:Int)<k:=by omega
  have a:=Int.tmod_lt_of_pos n Z;have b:=Int.tmod_lt_of_pos (-n) Z;rw[Int.neg_tmod]at b;omega
 have h2:0<=(Int.tmod n k+k).tmod k:=Int.tmod_nonneg _ om;have h3:(Int.tmod n k+k).tmod k<k:=Int.tmod_lt_of_pos _ om;unfold Fz;refine⟨by omega,by omega,h1.1,h1.2⟩
theorem acE(n:Int)(a:Option Addr)(k c:Nat)(zs:List Int)(w:World)(Z:Sl1 (int i64) w a k zs)(hk:k<=1000000) :Calls ZP 43 #[int i64 n,slice a k c] w λe w'=>e=.returned (.tuple (if k=0 then #[int i64 0,bool false] else #[int i64 (zs.getD (Fz n k) 0),bool true]))/\w'=w:=by
 by_cases h0:k=0
 ·subst h0;rw[Vb rfl];go_enter func43,ntmps43;go_wp2;go_ret2;exact⟨rfl,rfl⟩
 ·rw[Va h0];obtain⟨h1,h2,h3,h4⟩:=alR (n:=n) h0;obtain⟨b,off,rfl,I,U⟩:=Z.2.resolve_left h0;have X:zs[Fz n k]?=some (zs.getD (Fz n k) 0):=by
   rw[DZ,Ar (by rw[Z.1];exact h2),CG]
  have c0:=U _ _ X;obtain⟨z,Y⟩:∃z,zs.getD (Fz n k) 0=z:=⟨_,rfl⟩;obtain⟨p,V⟩:∃p,Fz n k=p:=⟨_,rfl⟩;rw[Y]at c0⊢;rw[V]at c0 h1 h2;have C:decide ((k:Int)=0)=false:=by simp;omega
  have D:((k:Int)==0)=false:=by simp;omega
  have e2:decide (k=0)=false:=decide_eq_false h0;have H:IntKind.i64.wrap (Int.tmod n k+k)=Int.tmod n k+k:=by rw[BK];omega
  have J:(0:Int)<=(p:Int):=by omega
  have p1:(p:Int)<(k:Int):=by omega
  have N:=AA h0;clear U X Z Y V h3 h4;go_enter func43,ntmps43;go_wp2;go_ret2;exact⟨rfl,rfl⟩
end Go.Proofs.YtaamacoicojhnaaGreat
