/- Proofs over the given program, part 10. -/
import Derived.Test.YtaamacoicojhnaaGreatZR9
set_option linter.unusedVariables false
set_option linter.unusedSimpArgs false
set_option maxRecDepth 100000
set_option maxHeartbeats 16000000
open Go.Proofs.Tryz
open Go.Proofs.Tryz renaming prog→ZP
open Go.World(cell? frozen?)
open Go.Value(int slice pointer bool)
open Go.IntKind(i64)
namespace Go.Proofs.YtaamacoicojhnaaGreat
open Go.RowKit Go.Sort
theorem GU{P:Program}{o:Oper}{a:Act}{Q:Exit->Act->World->Prop}{K:Act->World->Prop}{w w':World}{v V v':Value}(s x:Operand)(t:TypeId)(Z:o.guard=none)(y:Nat->Option Bool)(b:Prop)
  (ho:o.op=.call {callee:=.builtin .append,args:=#[s,x],argTypes:=#[t,t]}) (N:a.eval s=v) (U:a.eval x=V) (J:(Builtin.append_ #[t,t] o.type #[v,V]).run P w=.ok v' w') (h:K (a.put o.dst v') w'):if Region.wanted o y=true then Oper.wp P o a w K Q else b:=by
 rw[Lc (by unfold Region.wanted;rw[Z])];unfold Oper.wp execOp;simp only[ho,resolve,invoke,builtin,IN,IM,Result.andThen_ok,LI,BO,DE,N,U,J];exact h
structure CN(X:Nat->Prop)(K:Nat)(a:Option Addr)(n c:Nat)(tv:Value)(ans:List Bool)(tk:List AF)(off:Nat)(w:World):Prop where
 box:w.heap[K]?=some (.cells #[slice a n c,tv,int i64 (off:Int)] 113 (0,0))
 inX:X K
 an:Sl1 bool w a n ans
 anX:n≠0->∀q,a=some q->X q.block/\q.block≠K/\tv.ownBlock≠some q.block
 row:CO X w 116 2 tv tk.length (AV tk)
 tkK:tv.ownBlock≠some K
def EH(ans:List Bool)(off:Nat):Bool:=ans.isEmpty || ans.getD (off % ans.length) false
section
variable {X Y:Nat->Prop}{K n c off:Nat}{a:Option Addr}{tv:Value}{ans:List Bool}{tk:List AF}{w w':World}
theorem CN.keep(h:CN X K a n c tv ans tk off w)(Z:Chg Y w w')(U:∀k,k<w.heap.size->X k->¬Y k):CN X K a n c tv ans tk off w':=by
 have J:=(AD.1 h.box).1;refine⟨(Z.block K J (U K J h.inX)).trans h.box,h.inX,⟨h.an.1,?_⟩,h.anX,h.row.keep Z λg N=>U g (h.row.lt g N) (h.row.2 g N),h.tkK⟩
 by_cases h0:n=0
 ·exact .inl h0
 ·obtain⟨b,o,e,V,I⟩:=h.an.2.resolve_left h0;refine .inr ⟨b,o,e,Af V Z.size,λi x H=>?_⟩;have D:=Z.block b V (U b V (h.anX h0 _ e).1);rw[BC (a:=⟨b,o+i,none⟩) D];exact I i x H
theorem CN.wide(h:CN X K a n c tv ans tk off w)(Z:∀k,k<w.heap.size->X k->Y k):CN Y K a n c tv ans tk off w:=by
 refine⟨h.box,Z K (AD.1 h.box).1 h.inX,h.an,λh0 q V=>?_,h.row.wide Z,h.tkK⟩;obtain⟨h1,h2,h3⟩:=h.anX h0 q V;obtain⟨b,o,e,U,_⟩:=h.an.2.resolve_left h0;rw[V]at e
 cases AK e
 exact⟨Z b U h1,h2,h3⟩
theorem CN.turn{Z:Value}{tk':List AF}{V:Nat}(h:CN X K a n c tv ans tk off w)(N:w.heap.size<=w'.heap.size)(y:w'.heap[K]?=some (.cells #[slice a n c,Z,int i64 (V:Int)] 113 (0,0)))
  (ha:∀k,k<w.heap.size->k≠K->tv.ownBlock≠some k->w'.heap[k]?=w.heap[k]?) (B:CO Y w' 116 2 Z tk'.length (AV tk')) (s:Z.ownBlock≠some K) (z:∀g,Z.ownBlock=some g->tv.ownBlock=some g∨w.heap.size<=g)
  (D:∀k,k<w.heap.size->X k->Y k):CN Y K a n c Z ans tk' V w':=by
 have J:=(AD.1 h.box).1;refine⟨y,D K J h.inX,⟨h.an.1,?_⟩,λh0 q H=>?_,B,s⟩
 ·by_cases h0:n=0
  ·exact .inl h0
  ·obtain⟨b,o,e,U,I⟩:=h.an.2.resolve_left h0;obtain⟨_,h2,h3⟩:=h.anX h0 _ e;refine .inr ⟨b,o,e,Af U N,λi x A=>?_⟩;rw[BC (a:=⟨b,o+i,none⟩) (ha b U h2 h3)];exact I i x A
 ·obtain⟨b,o,e,U,I⟩:=h.an.2.resolve_left h0;obtain⟨h1,h2,h3⟩:=h.anX h0 q H;rw[H]at e
  cases AK e
  refine⟨D b U h1,h2,λj=>?_⟩
  rcases z b j with C|C
  ·exact h3 C
  ·omega
end
section
variable {X:Nat->Prop}{K n c off m c1:Nat}{a a1:Option Addr}{tv:Value}{ans:List Bool}{tk:List AF}{w w':World}
theorem CN.count(h:CN X K a n c tv ans tk off w):CN X K a n c tv ans tk (off+1) (w.setCell ⟨K,2,none⟩ (int i64 ((off+1:Nat):Int))):=by have hk:∀k,k≠K->(w.setCell ⟨K,2,none⟩ (int i64 ((off+1:Nat):Int))).heap[k]?=w.heap[k]?:=λk hk=>AQ w ⟨K,2,none⟩ _ k hk;refine h.turn (by simp[World.setCell]) (AJ (i:=2) h.box _) (λk _ Z _=>hk k Z) ⟨Fu h.row.1 λg V=>hk g (λe=>h.tkK (by rw[<-e];exact V)),h.row.2⟩ h.tkK (λg V=>.inl V) λ_ _ U=>U
theorem CN.app(h:CN X K a n c (slice a1 m c1) ans tk off w)(q:AF){V:Value}{U:World}(ho:U.ownsRow 0 116 2 V (tk.length+1) (AV tk++[int i64 q.1,int i64 q.2]))(x:(w.alloc (.cells #[int i64 q.1,int i64 q.2] 116)).grownBy U (slice a1 m c1).ownBlock)
  (s:V.ownBlock=(slice a1 m c1).ownBlock∨V.ownBlock=some (w.alloc (.cells #[int i64 q.1,int i64 q.2] 116)).heap.size) :
  U.frozen? ⟨K,1,none⟩=false/\CN (λk=>X k∨w.heap.size<=k) K a n c V ans (tk++[q]) off (U.setCell ⟨K,1,none⟩ V)/\Chg X w (U.setCell ⟨K,1,none⟩ V):=by
 have j:=(AD.1 h.box).1;have A:=AL w (.cells #[int i64 q.1,int i64 q.2] 116);have z:(w.alloc (.cells #[int i64 q.1,int i64 q.2] 116)).heap.size=w.heap.size+1:=by simp
 have a2:=x.size;have Z:∀k,k<w.heap.size->(slice a1 m c1).ownBlock≠some k->U.heap[k]?=w.heap[k]?:=λk hk H=>(x.block k om (λe=>H e.symm)).trans (A.block k hk);have B:U.heap[K]?=some (.cells #[slice a n c,slice a1 m c1,int i64 (off:Int)] 113 (0,0)):=(Z K j h.tkK).trans h.box;have I:∀g,V.ownBlock=some g->(slice a1 m c1).ownBlock=some g∨w.heap.size<=g:=λg e=>by
  rcases s with C|C
  ·rw[C]at e;exact .inl e
  ·rw[C,z]at e;have:=AK e
   right
   omega
 have N:V.ownBlock≠some K:=λe=>by
  rcases I K e with C|C
  ·exact h.tkK C
  ·omega
 have J:∀k,k≠K->(U.setCell ⟨K,1,none⟩ V).heap[k]?=U.heap[k]?:=λk hk=>AQ U ⟨K,1,none⟩ _ k hk;refine⟨by simp[frozen?,B],?_,?_⟩
 ·refine h.turn (by simp[World.setCell];omega) (AJ (i:=1) B V) (λk hk y H=>(J k y).trans (Z k hk H)) ⟨?_,λg D=>?_⟩ N I (λk _ hx=>.inl hx)
  ·have e1:AV (tk++[q])=AV tk++[int i64 q.1,int i64 q.2]:=by simp[AV,IH]
   rw[e1,List.length_append];exact Fu ho λg D=>J g λe=>N (by rw[<-e];exact D)
  ·rcases I g D with e|e
   ·exact .inl (h.row.2 g e)
   ·exact .inr e
 ·refine((Chg.of_same A).grown x λg e _=>h.row.2 g e).set h.inX
theorem On(w:World)(q:AF):SlK 2 (w.alloc (.cells #[int i64 q.1,int i64 q.2] 116)) (some ⟨w.heap.size,0,none⟩) 1 [int i64 q.1,int i64 q.2]:=by
 have Z:(w.alloc (.cells #[int i64 q.1,int i64 q.2] 116)).heap[w.heap.size]?=some (.cells #[int i64 q.1,int i64 q.2] 116 (0,0)):=AT _ _;refine⟨rfl,.inr ⟨_,0,rfl,by simp,λi u V=>?_⟩⟩;have e:(w.alloc (.cells #[int i64 q.1,int i64 q.2] 116)).cell? ⟨w.heap.size,0+i,none⟩=(#[int i64 q.1,int i64 q.2]:Array Value)[0+i]?:=by simp only[cell?,Z];simp
 rw[e,DD];show(List.toArray [int i64 q.1,int i64 q.2])[i]?=some u;rw[Dy];exact V
end
theorem ado{X:Nat->Prop}{K n c off:Nat}{a:Option Addr}{tv:Value}{ans:List Bool}{tk:List AF}(w:World)(h:CN X K a n c tv ans tk off w)(ho:off<=4611686018427387904) :Calls ZP 250 #[pointer (some ⟨K,0,none⟩),int i64 (off:Int)] w λe w'=>e=.returned (bool (EH ans off))/\Bt w w':=by
 have c0:w.cell? ⟨K,0,none⟩=some (slice a n c):=by simp[cell?,h.box]
 have D:=AA (λq=>AN w q)
 by_cases h0:n=0
 ·have V:EH ans off=true:=by
   have:ans=[]:=OL.1 (by rw[h.an.1,h0]);rw[this];rfl
  have z:decide ((n:Int)=0)=true:=by simp;omega
  have A:((n:Int)==0)=true:=by simp;omega
  rw[V];clear h V h0;go_enter func250,ntmps250;go_upto_region 1 with fail
  go_big_quiet (fail)
  go_wp2;go_ret;exact⟨rfl,D.out _⟩
 ·obtain⟨b,o,rfl,j,I⟩:=h.an.2.resolve_left h0;have Z:=h.an.1;have J:off % n<n:=Ek _ om;obtain⟨y,U⟩:∃y,ans[off % n]?=some y:=⟨ans[off % n]'om,Ar _⟩;have C:=I _ _ U;have V:EH ans off=y:=by
   unfold EH;have N:ans.isEmpty=false:=by cases ans with|nil=>exact absurd Z.symm h0|cons _ _=>rfl
   rw[N,Z,DZ,U]
   rfl
  rw[V];have z:decide ((n:Int)=0)=false:=by simp;omega
  have A:((n:Int)==0)=false:=by simp;omega
  have B:(off:Int).tmod (n:Int)=((off % n:Nat):Int):=by rw[Jq om];simp
  obtain⟨p,H⟩:∃p,off % n=p:=⟨_,rfl⟩;rw[H]at B J C;have s:(0:Int)<=(p:Int):=by omega
  have x:(p:Int)<(n:Int):=by omega
  clear h V h0 I U H Z;go_enter func250,ntmps250;go_upto_region 1 with fail
  go_big_quiet (fail)
  go_wp2;go_ret;exact⟨rfl,D.out _⟩
theorem aed{X:Nat->Prop}{K n c off:Nat}{a:Option Addr}{tv:Value}{ans:List Bool}{tk:List AF}(h:AF)(w:World)(hS:CN X K a n c tv ans tk off w)(ho:off<=1000000)(ht:tk.length<=1000000) :Calls ZP 209 #[pointer (some ⟨K,0,none⟩),.agg #[int i64 h.1,int i64 h.2]] w λe w'=>e=.returned (bool (EH ans off))/\(∃aq,CN (λk=>X k∨w.heap.size<=k) K a n c aq ans (if EH ans off then tk++[h] else tk) (off+1) w')/\Chg X w w':=by
 obtain⟨W,hW⟩:∃W,W=w.alloc (.cells #[int i64 h.1,int i64 h.2] 116):=⟨_,rfl⟩;have hB:Bt w W:=by rw[hW];exact AL _ _
 have hO:Bx w.heap.size [.cells #[int i64 h.1,int i64 h.2] 116] W:=by rw[hW];exact(Bx.nil _ w).snoc _ rfl
 have aA:W.heap.size=w.heap.size+1:=by rw[hW];simp
 have aB:=(AD.1 hS.box).1;have j:∀V,Bt W V->CN X K a n c tv ans tk off V:=λV hV=>hS.keep (Y:=λ_=>False) (.of_same (hB.trans (hV.mono hB.size))) λ_ _ _ h=>h;have af:∀d os,Calls ZP 250 #[pointer (some ⟨K,0,none⟩),int i64 (off:Int)] (grow (redrawn W d) os) λe w'=>e=.returned (bool (EH ans off))/\RowKit.Below (grow (redrawn W d) os).heap.size (grow (redrawn W d) os) w':=λd os=>ado _ (j _ (Kf W d os)) om;have ay:=AA j;have k2:∀d os,(grow (redrawn W d) os).cell? ⟨K,2,none⟩=some (int i64 (off:Int)):=Vc (by have:=(j W (AH _ _)).box;simp[cell?,this]);have az:IntKind.i64.wrap ((off:Int)+1)=(off:Int)+1:=by rw[BK];omega
 obtain⟨Y,hY⟩:∃y,EH ans off=y:=⟨_,rfl⟩;rw[hY]at af⊢;have HO:=AA hO;have HB:=AA hB;have HS:=AA hS;clear hS hB hO j hY;go_enter func209,ntmps209;go_upto_region 3 with fail
 rw[<-hW];clear hW;refine wp_region_quiet_below mixed kr ?_
 repeat (go_big_quiet_step (exact Eu (af _ _)))
 refine wpQuiet_nil ?_;rintro _ ⟨⟨dq,ag⟩,rfl⟩;have C:=Kf W dq ag;obtain⟨V,hV⟩:∃V,V=grow (redrawn W dq) ag:=⟨_,rfl⟩;rw[<-hV]at C⊢;clear hV af k2;have a6:=ay.out V C;have ah:Bt w V:=HB.out.trans (C.mono HB.out.size);have c2:V.cell? ⟨K,2,none⟩=some (int i64 (off:Int)):=by simp[cell?,a6.box]
 have f2:V.frozen? ⟨K,2,none⟩=false:=by simp[frozen?,a6.box]
 have al:=HO.out.below C;obtain⟨J,N⟩:∃U,U=V.setCell ⟨K,2,none⟩ (int i64 ((off:Int)+1)):=⟨_,rfl⟩;have ak:CN X K a n c tv ans tk (off+1) J:=by rw[N,show(off:Int)+1=((off+1:Nat):Int) by omega];exact a6.count
 have ao:Chg X w J:=by rw[N];exact(Chg.of_same ah).set HS.out.inX
 have am:∀i v,(#[int i64 h.1,int i64 h.2]:Array Value)[i]?=some v->J.cell? ⟨w.heap.size,i,none⟩=some v:=λi v hv=>by
  have ax:=(AD.1 HS.out.box).1;have e:J.heap[w.heap.size]?=V.heap[w.heap.size]?:=by rw[N];exact AQ V ⟨K,2,none⟩ _ _ (by show w.heap.size≠K;omega)
  have h1:=al 0 _ rfl;rw[DQ]at h1;simp only[cell?,e,h1];exact hv
 have a8:=AA ak;have x:=AA ao;have ap:=AA am;clear a6 al ah C ak ao am
 cases Y with
 |false=>
  go_upto_region 5 with fail
  rw[<-N];clear N;go_wp2;go_ret;exact⟨rfl,⟨tv,a8.out.wide λ_ _ hx=>.inl hx⟩,x.out⟩
 |true=>
  go_upto_region 6 with fail
  rw[<-N];clear N c2 f2;obtain⟨a1,c1,rfl,_,_⟩:=SlK.own a8.out.row.1;obtain⟨i0,hi,av,au,ar⟩:=Ve IG;have aC:J.cell? ⟨K,1,none⟩=some (slice a1 tk.length c1):=by simp[cell?,a8.out.box]
  have x0:J.cell? ⟨w.heap.size,0,none⟩=some (int i64 h.1):=ap.out 0 _ rfl;have x1:J.cell? ⟨w.heap.size,1,none⟩=some (int i64 h.2):=ap.out 1 _ rfl;obtain⟨D,hD⟩:∃D,D=J.drew:=⟨_,rfl⟩;have I:Bt J D:=by rw[hD];exact AN J 1
  have z:CN X K a n c (.slice a1 tk.length c1) ans tk (off+1) D:=a8.out.keep (Y:=λ_=>False) (.of_same I) λ_ _ _ h=>h;have H:=DJ z.row.1 (AL D (.cells #[.int .i64 h.1,.int .i64 h.2] 116));have ab:=On D h;obtain⟨v1,W1,hr,ad,s,ac⟩:=Gu (P:=ZP) (D.alloc (.cells #[.int .i64 h.1,.int .i64 h.2] 116)) 0 69 69 116 i0 (.agg #[.int .i64 0,.int .i64 0]) 2 16 underlying69 hi av au ar rfl (by decide) (.slice a1 tk.length c1) tk.length (AV tk) H (some ⟨D.heap.size,0,none⟩) 1 1 [.int .i64 h.1,.int .i64 h.2] ab (by simp[Value.oneCell']) (by unfold maxLen;omega) om (AR _);obtain⟨a2,c2,aw,_,_⟩:=SlK.own ad;subst aw;obtain⟨g1,g2,g3⟩:=z.app h ad s ac;have G2:=AA g2;have G3:=AA g3;have ax:=(AD.1 HS.out.box).1;have ai:w.heap.size<D.heap.size:=by have h1:=DO J (a:=⟨w.heap.size,0,none⟩) x0;exact Af h1 I.size
  have aj:(slice a1 tk.length c1).ownBlock≠some w.heap.size:=λe=>by have:=HS.out.row.lt _ e;omega
  have B:∀i v,D.cell? ⟨w.heap.size,i,none⟩=some v->(D.alloc (.cells #[int i64 h.1,int i64 h.2] 116)).cell? ⟨w.heap.size,i,none⟩=some v:=λi v hv=>((AL D _).cell (p:=⟨w.heap.size,i,none⟩) ai).trans hv;have A:∀i v,D.cell? ⟨w.heap.size,i,none⟩=some v->W1.cell? ⟨w.heap.size,i,none⟩=some v:=λi v hv=>by have e:W1.heap[w.heap.size]?=D.heap[w.heap.size]?:=(s.block _ (by simp;omega) (λe=>aj e.symm)).trans ((AL D _).block _ ai);rw[BC (a:=⟨w.heap.size,i,none⟩) e];exact hv
  have y0:D.cell? ⟨w.heap.size,0,none⟩=some (int i64 h.1):=(I.cell (p:=⟨w.heap.size,0,none⟩) (DO J _ x0)).trans x0;have y1:D.cell? ⟨w.heap.size,1,none⟩=some (int i64 h.2):=(I.cell (p:=⟨w.heap.size,1,none⟩) (DO J _ x1)).trans x1;have ae:=AA (Lq (B 0 _ y0) (B 1 _ y1));have e1:∀i v,W1.cell? ⟨w.heap.size,i,none⟩=some v->(W1.setCell ⟨K,1,none⟩ (slice a2 (tk.length+1) c2)).cell? ⟨w.heap.size,i,none⟩=some v:=λi v hv=>by have e:(W1.setCell ⟨K,1,none⟩ (slice a2 (tk.length+1) c2)).heap[w.heap.size]?=W1.heap[w.heap.size]?:=AQ W1 ⟨K,1,none⟩ _ _ (by show w.heap.size≠K;omega);rw[BC (a:=⟨w.heap.size,i,none⟩) e];exact hv
  have a7:=AA (Lq (Lq (A 0 _ y0) (A 1 _ y1)) (Lq (e1 0 _ (A 0 _ y0)) (e1 1 _ (A 1 _ y1))));have z1:D.cell? ⟨K,1,none⟩=some (slice a1 tk.length c1):=by simp[cell?,z.box]
  have z2:(D.alloc (.cells #[int i64 h.1,int i64 h.2] 116)).cell? ⟨K,1,none⟩=some (slice a1 tk.length c1):=((AL D _).cell (p:=⟨K,1,none⟩) (DO D _ z1)).trans z1;have z3:∃u,W1.cell? ⟨K,1,none⟩=some u:=by have e:W1.heap[K]?=D.heap[K]?:=(s.block _ (by have:=DO D _ z1;simp;exact Nat.lt_succ_of_lt this) (λe=>z.tkK e.symm)).trans ((AL D _).block _ (DO D _ z1));exact⟨_,(BC (a:=⟨K,1,none⟩) e).trans z1⟩
  obtain⟨u3,z3⟩:=z3;have HR:=AA hr;have aa:=AA I;clear g2 g3 ad s ac H ab z hr B A e1 I aj;refine Vb ?_;refine Va (S:=λY=>Y.cell? ⟨w.heap.size,0,none⟩=some (int i64 h.1)/\Y.cell? ⟨w.heap.size,1,none⟩=some (int i64 h.2)) kr ⟨x0,x1⟩ (λhHeld=>?_);rw[<-hD]at hHeld⊢;clear hD;refine tkA 0 ?_;refine tkA 1 ?_;refine tkA 2 ?_;refine tkA 3 ?_;refine tkW 5 (v:=?_) ?_ ?_;rotate_left
  ·intro V hV;obtain⟨q0,q1⟩:=hV
   first|(go_simp;done)|(go_simp;with_reducible rfl)
  try simp only[pq]
  refine apE 4 6 (λK Z=>?_) (λK Z=>?_)
  ·go_simp;refine Z.out _ _ hHeld (λh4=>?_);clear Z K
   try simp only[pq]
   refine rdy 6 (λK Z=>?_);go_simp;refine Z.out _ _ (ae.out) (λh6=>?_);clear Z K
   try simp only[pq]
   refine rdy 7 (λK Z=>?_);refine GU (.tmp 28) (.tmp 30) 69 rfl _ _ rfl rfl rfl HR.out ?_;refine Z.out _ _ a7.out.1 (λh7=>?_);clear Z K
   try simp only[pq]
   refine tkA 8 ?_;refine tkA 9 ?_;refine rdy 10 (λK Z=>?_);go_simp;refine Z.out _ _ a7.out.2 (λh10=>?_);clear Z K
   try simp only[pq]
   refine Vd kr ?_ _;refine At ?_;go_wp2;go_ret;exact⟨rfl,⟨(slice a2 (tk.length+1) c2),(G2.out).wide λk _ hx=>hx.elim .inl λh2=>.inr (AS (AS x.out.size aa.out.size) h2)⟩,(x.out.same aa.out).then G3.out⟩
  ·go_simp;refine Z.out _ _ ae.out (λh6=>?_);clear Z K
   try simp only[pq]
   refine rdy 4 (λK Z=>?_);go_simp;refine Z.out _ _ ae.out (λh4=>?_);clear Z K
   try simp only[pq]
   refine rdy 7 (λK Z=>?_);refine GU (.tmp 28) (.tmp 30) 69 rfl _ _ rfl rfl rfl HR.out ?_;refine Z.out _ _ a7.out.1 (λh7=>?_);clear Z K
   try simp only[pq]
   refine tkA 8 ?_;refine tkA 9 ?_;refine rdy 10 (λK Z=>?_);go_simp;refine Z.out _ _ a7.out.2 (λh10=>?_);clear Z K
   try simp only[pq]
   refine Vd kr ?_ _;refine At ?_;go_wp2;go_ret;exact⟨rfl,⟨(slice a2 (tk.length+1) c2),(G2.out).wide λk _ hx=>hx.elim .inl λh2=>.inr (AS (AS x.out.size aa.out.size) h2)⟩,(x.out.same aa.out).then G3.out⟩
theorem ahb:(ZP.info? 4).map (λi=>(i.zero,i.size,i.bytes))=some (some (bool false),1,1):=by kernel_rfl
theorem Jz{α:Type}{enc:α->Value}{w:World}{a:Option Addr}{n:Nat}{xs:List α}(h:Sl1 enc w a n xs):SlK 1 w a n (xs.map enc):=by refine⟨by rw[BP,h.1,Hk],h.2.imp id ?_⟩;rintro⟨b,off,e,X,V⟩;refine⟨b,off,e,X,λi u Z=>?_⟩;rw[BU]at Z;obtain⟨x,Y,rfl⟩:=Fo.1 Z;exact V i x Y
theorem acP(a:Option Addr)(n c:Nat)(cs:List Value)(w:World)(H:SlK 1 w a n cs)(Z:∀u∈cs,u.oneCell'=true)(hn:n<=1000000) :Calls ZP 104 #[slice a n c] w λe w'=>∃v,e=.returned v/\w'.ownsRow w.heap.size 5 1 v n cs/\Bt w w':=by
 go_enter func104,ntmps104;go_upto_region 1 with fail
 have s:ZP.underlying 32=some (.slice 5):=underlying32;have z:=Lib.run_eql_slice_nil (P:=ZP) w 32 5 a n c 0 0 s
 cases a with
 |none=>
  have h0:n=0:=by
   rcases H.2 with h|⟨b,off,e,_⟩
   ·exact h
   ·cases e
  subst h0;have hl:cs=[]:=OL.1 (by rw[H.1,Nat.zero_mul]);subst hl;clear H hn;simp only[Option.isNone]at z;go_wp2;go_ret;exact⟨_,rfl,BN _ _ _ _,AH _ _⟩
 |some p=>
  have HH:=AA H;have D:=AA Z;clear H Z;simp only[Option.isNone]at z;go_upto_region 3 with fail
  clear z;obtain⟨i0,hi,A,B,C⟩:=Ve Gs;have X:(w.alloc (.cells #[] 5)).ownsRow w.heap.size 5 1 (slice (some ⟨w.heap.size,0,none⟩) 0 0) 0 []:=⟨rfl,.inr ⟨w.heap.size,0,#[],rfl,AC _,AT w _,AR _,AR _,rfl,by simp⟩⟩;have Y:=AL w (.cells #[] 5);have U:=HH.out.below Y;have Z:∀u∈cs,u.oneCell'=true:=D.out;have V:w.heap.size<=(w.alloc (.cells #[] 5)).heap.size:=by simp
  go_wp2_with (at_builtin;refine JA rfl _ _ 32 rfl w.heap.size 5 i0 (.int .u8 0) 1 1 s hi A B C rfl (by decide) (slice (some ⟨w.heap.size,0,none⟩) 0 0) 0 [] rfl X (some p) n c cs rfl U Z (by unfold maxLen;omega) om V ?_;intro v1 W1 N J I;have y:=AA N;have x:=AA J;clear N J I X U Z)
  go_ret;refine⟨v1,rfl,?_,(Y).grown x.out Y.size (λj e=>by injection e with e;exact Gq e)⟩;have:=y.out;rw[DD,Av]at this;exact this
theorem ahT(a:Option Addr)(n c:Nat)(cs:List Value)(w:World)(H:SlK 1 w a n cs)(Z:∀u∈cs,u.oneCell'=true)(hn:n<=1000000) :Calls ZP 238 #[slice a n c] w λe w'=>∃v,e=.returned v/\w'.ownsRow w.heap.size 5 1 v n cs/\Bt w w':=by
 go_enter func238,ntmps238;go_upto_region 1 with fail
 have s:ZP.underlying 32=some (.slice 5):=underlying32;have z:=Lib.run_eql_slice_nil (P:=ZP) w 32 5 a n c 0 0 s
 cases a with
 |none=>
  have h0:n=0:=by
   rcases H.2 with h|⟨b,off,e,_⟩
   ·exact h
   ·cases e
  subst h0;have hl:cs=[]:=OL.1 (by rw[H.1,Nat.zero_mul]);subst hl;clear H hn;simp only[Option.isNone]at z;go_wp2;go_ret;exact⟨_,rfl,BN _ _ _ _,AH _ _⟩
 |some p=>
  have HH:=AA H;have D:=AA Z;clear H Z;simp only[Option.isNone]at z;go_upto_region 3 with fail
  clear z;obtain⟨i0,hi,A,B,C⟩:=Ve Gs;have X:(w.alloc (.cells #[] 5)).ownsRow w.heap.size 5 1 (slice (some ⟨w.heap.size,0,none⟩) 0 0) 0 []:=⟨rfl,.inr ⟨w.heap.size,0,#[],rfl,AC _,AT w _,AR _,AR _,rfl,by simp⟩⟩;have Y:=AL w (.cells #[] 5);have U:=HH.out.below Y;have Z:∀u∈cs,u.oneCell'=true:=D.out;have V:w.heap.size<=(w.alloc (.cells #[] 5)).heap.size:=by simp
  go_wp2_with (at_builtin;refine JA rfl _ _ 32 rfl w.heap.size 5 i0 (.int .u8 0) 1 1 s hi A B C rfl (by decide) (slice (some ⟨w.heap.size,0,none⟩) 0 0) 0 [] rfl X (some p) n c cs rfl U Z (by unfold maxLen;omega) om V ?_;intro v1 W1 N J I;have y:=AA N;have x:=AA J;clear N J I X U Z)
  go_ret;refine⟨v1,rfl,?_,(Y).grown x.out Y.size (λj e=>by injection e with e;exact Gq e)⟩;have:=y.out;rw[DD,Av]at this;exact this
theorem ahR(a:Option Addr)(n c:Nat)(cs:List Value)(w:World)(H:SlK 1 w a n cs)(Z:∀u∈cs,u.oneCell'=true)(hn:n<=1000000) :Calls ZP 94 #[slice a n c] w λe w'=>∃v,e=.returned v/\w'.ownsRow w.heap.size 4 1 v n cs/\Bt w w':=by
 go_enter func94,ntmps94;go_upto_region 1 with fail
 have s:ZP.underlying 27=some (.slice 4):=underlying27;have z:=Lib.run_eql_slice_nil (P:=ZP) w 27 4 a n c 0 0 s
 cases a with
 |none=>
  have h0:n=0:=by
   rcases H.2 with h|⟨b,off,e,_⟩
   ·exact h
   ·cases e
  subst h0;have hl:cs=[]:=OL.1 (by rw[H.1,Nat.zero_mul]);subst hl;clear H hn;simp only[Option.isNone]at z;go_wp2;go_ret;exact⟨_,rfl,BN _ _ _ _,AH _ _⟩
 |some p=>
  have HH:=AA H;have D:=AA Z;clear H Z;simp only[Option.isNone]at z;go_upto_region 3 with fail
  clear z;obtain⟨i0,hi,A,B,C⟩:=Ve ahb;have X:(w.alloc (.cells #[] 4)).ownsRow w.heap.size 4 1 (slice (some ⟨w.heap.size,0,none⟩) 0 0) 0 []:=⟨rfl,.inr ⟨w.heap.size,0,#[],rfl,AC _,AT w _,AR _,AR _,rfl,by simp⟩⟩;have Y:=AL w (.cells #[] 4);have U:=HH.out.below Y;have Z:∀u∈cs,u.oneCell'=true:=D.out;have V:w.heap.size<=(w.alloc (.cells #[] 4)).heap.size:=by simp
  go_wp2_with (at_builtin;refine JA rfl _ _ 27 rfl w.heap.size 4 i0 (bool false) 1 1 s hi A B C rfl (by decide) (slice (some ⟨w.heap.size,0,none⟩) 0 0) 0 [] rfl X (some p) n c cs rfl U Z (by unfold maxLen;omega) om V ?_;intro v1 W1 N J I;have y:=AA N;have x:=AA J;clear N J I X U Z)
  go_ret;refine⟨v1,rfl,?_,(Y).grown x.out Y.size (λj e=>by injection e with e;exact Gq e)⟩;have:=y.out;rw[DD,Av]at this;exact this
theorem aqB(a:Option Addr)(n c:Nat)(cs:List Value)(w:World)(H:SlK 2 w a n cs)(Z:∀u∈cs,u.oneCell'=true)(hn:n<=1000000) :Calls ZP 77 #[slice a n c] w λe w'=>∃v,e=.returned v/\w'.ownsRow w.heap.size 116 2 v n cs/\Bt w w':=by
 go_enter func77,ntmps77;go_upto_region 1 with fail
 have s:ZP.underlying 69=some (.slice 116):=underlying69;have z:=Lib.run_eql_slice_nil (P:=ZP) w 69 116 a n c 0 0 s
 cases a with
 |none=>
  have h0:n=0:=by
   rcases H.2 with h|⟨b,off,e,_⟩
   ·exact h
   ·cases e
  subst h0;have hl:cs=[]:=OL.1 (by rw[H.1,Nat.zero_mul]);subst hl;clear H hn;simp only[Option.isNone]at z;go_wp2;go_ret;exact⟨_,rfl,BN _ _ _ _,AH _ _⟩
 |some p=>
  have HH:=AA H;have D:=AA Z;clear H Z;simp only[Option.isNone]at z;go_upto_region 3 with fail
  clear z;obtain⟨i0,hi,A,B,C⟩:=Ve IG;have X:(w.alloc (.cells #[] 116)).ownsRow w.heap.size 116 2 (slice (some ⟨w.heap.size,0,none⟩) 0 0) 0 []:=⟨rfl,.inr ⟨w.heap.size,0,#[],rfl,AC _,AT w _,AR _,AR _,rfl,by simp⟩⟩;have Y:=AL w (.cells #[] 116);have U:=HH.out.below Y;have Z:∀u∈cs,u.oneCell'=true:=D.out;have V:w.heap.size<=(w.alloc (.cells #[] 116)).heap.size:=by simp
  go_wp2_with (at_builtin;refine JA rfl _ _ 69 rfl w.heap.size 116 i0 (.agg #[int i64 0,int i64 0]) 2 16 s hi A B C rfl (by decide) (slice (some ⟨w.heap.size,0,none⟩) 0 0) 0 [] rfl X (some p) n c cs rfl U Z (by unfold maxLen;omega) om V ?_;intro v1 W1 N J I;have y:=AA N;have x:=AA J;clear N J I X U Z)
  go_ret;refine⟨v1,rfl,?_,(Y).grown x.out Y.size (λj e=>by injection e with e;exact Gq e)⟩;have:=y.out;rw[DD,Av]at this;exact this
abbrev PlW:=(Option Addr×Nat×Nat)×Bool
def plE(p:PlW):List Value:=[slice p.1.1 p.1.2.1 p.1.2.2,bool p.2]
def plC(l:List PlW):List Value:=l.flatMap plE
theorem air(l:List PlW):(plC l).length=l.length*2:=by
 induction l with
 |nil=>rfl
 |cons p l ih=>
  unfold plC at ih⊢;rw[List.flatMap_cons,List.length_append,ih];simp[plE];omega
theorem Hz:∀{l:List PlW}{i:Nat}{p:PlW},l[i]?=some p->(plC l)[i*2]?=some (slice p.1.1 p.1.2.1 p.1.2.2)/\(plC l)[i*2+1]?=some (bool p.2)
 |[],i,p,h=>by simp at h
 |q::l,0,p,h=>by
  cases AK h
  exact⟨rfl,rfl⟩
 |q::l,i+1,p,h=>by
  have:=Hz (l:=l) (i:=i) (p:=p) (by simpa using h);have e:plC (q::l)=slice q.1.1 q.1.2.1 q.1.2.2::bool q.2::plC l:=by simp[plC,plE]
  rw[e,show(i+1)*2=i*2+1+1 by omega];exact this
theorem ak2:∀(l:List PlW)(i:Nat)(p:PlW),plC (l.set i p)=((plC l).set (i*2) (slice p.1.1 p.1.2.1 p.1.2.2)).set (i*2+1) (bool p.2)
 |[],i,p=>by simp[plC]
 |q::l,0,p=>by simp[plC,plE]
 |q::l,i+1,p=>by
  have:=ak2 l i p;have e:∀(q:PlW)(l:List PlW),plC (q::l)=slice q.1.1 q.1.2.1 q.1.2.2::bool q.2::plC l:=λq l=>by simp[plC,plE]
  rw[List.set_cons_succ,e,e,this,show(i+1)*2=i*2+1+1 by omega]
  rfl
structure BZ(X:Nat->Prop)(Q B next:Nat)(pl:List PlW)(w:World):Prop where
 box:w.heap[Q]?=some (.cells #[slice (some ⟨B,0,none⟩) pl.length pl.length,int i64 (next:Int)] 199 (0,0))
 places:w.heap[B]?=some (.cells (plC pl).toArray 264 (0,0))
 inX:X Q/\X B
 ne:Q≠B
 room:1<=pl.length/\pl.length<=16
section
variable {X Y:Nat->Prop}{Q B next:Nat}{pl:List PlW}{w w':World}
theorem BZ.keep(h:BZ X Q B next pl w)(N:Chg Y w w')(U:∀k,k<w.heap.size->X k->¬Y k):BZ X Q B next pl w':=by have Z:∀k o,w.heap[k]?=some o->X k->w'.heap[k]?=some o:=λk o hk V=>(N.block k (AD.1 hk).1 (U k (AD.1 hk).1 V)).trans hk;exact⟨Z _ _ h.box h.inX.1,Z _ _ h.places h.inX.2,h.inX,h.ne,h.room⟩
theorem BZ.wide(h:BZ X Q B next pl w)(Z:∀k,k<w.heap.size->X k->Y k):BZ Y Q B next pl w:=⟨h.box,h.places,⟨Z _ (AD.1 h.box).1 h.inX.1,Z _ (AD.1 h.places).1 h.inX.2⟩,h.ne,h.room⟩
theorem BZ.setP(h:BZ X Q B next pl w)(i:Nat)(p:PlW):BZ X Q B next (pl.set i p) ((w.setCell ⟨B,i*2,none⟩ (slice p.1.1 p.1.2.1 p.1.2.2)).setCell ⟨B,i*2+1,none⟩ (bool p.2))/\Chg X w ((w.setCell ⟨B,i*2,none⟩ (slice p.1.1 p.1.2.1 p.1.2.2)).setCell ⟨B,i*2+1,none⟩ (bool p.2)):=by
 obtain⟨V,Z⟩:∃W,W=w.setCell ⟨B,i*2,none⟩ (slice p.1.1 p.1.2.1 p.1.2.2):=⟨_,rfl⟩;have h1:=AJ (i:=i*2) h.places (slice p.1.1 p.1.2.1 p.1.2.2);rw[<-Z]at h1⊢;have h2:=AJ (i:=i*2+1) h1 (bool p.2);rw[Fp,Fp,<-ak2]at h2;have U:(V.setCell ⟨B,i*2+1,none⟩ (bool p.2)).heap[Q]?=w.heap[Q]?:=by rw[AQ V ⟨B,i*2+1,none⟩ _ Q h.ne,Z,AQ w ⟨B,i*2,none⟩ _ Q h.ne]
 refine⟨⟨by rw[BG];exact U.trans h.box,h2,h.inX,h.ne,by rw[BG];exact h.room⟩,?_⟩;rw[Z];exact((Chg.refl X w).set h.inX.2).set h.inX.2
theorem BZ.step(h:BZ X Q B next pl w)(Z:Nat):BZ X Q B Z pl (w.setCell ⟨Q,1,none⟩ (int i64 (Z:Int)))/\Chg X w (w.setCell ⟨Q,1,none⟩ (int i64 (Z:Int))):=⟨⟨AJ (i:=1) h.box _,(AQ w ⟨Q,1,none⟩ _ B h.ne.symm).trans h.places,h.inX,h.ne,h.room⟩,(Chg.refl X w).set h.inX.1⟩
end
theorem abJ{X:Nat->Prop}{Q B next:Nat}{pl:List PlW}(w:World)(h:BZ X Q B next pl w) :Calls ZP 231 #[pointer (some ⟨Q,0,none⟩)] w λe w'=>e=.returned (int i64 (pl.length:Int))/\w'=w:=by
 have c0:w.cell? ⟨Q,0,none⟩=some (slice (some ⟨B,0,none⟩) pl.length pl.length):=by simp[cell?,h.box]
 clear h;go_enter func231,ntmps231;go_wp2;go_ret;exact⟨rfl,rfl⟩
theorem ah6{X:Nat->Prop}{Q B next:Nat}{pl:List PlW}(w:World)(h:BZ X Q B next pl w) :Calls ZP 66 #[pointer (some ⟨Q,0,none⟩)] w λe w'=>e=.returned (int i64 (next:Int))/\w'=w:=by
 have c1:w.cell? ⟨Q,1,none⟩=some (int i64 (next:Int)):=by simp[cell?,h.box]
 clear h;go_enter func66,ntmps66;go_wp2;go_ret;exact⟨rfl,rfl⟩
theorem abP{X:Nat->Prop}{Q B next:Nat}{pl:List PlW}(n:Nat)(w:World)(h:BZ X Q B next pl w)(z:n<=4611686018427387904) :Calls ZP 170 #[pointer (some ⟨Q,0,none⟩),int i64 (n:Int)] w λe w'=>e=.returned (pointer (some ⟨B,n % pl.length*2,none⟩))/\Bt w w':=by
 have c0:w.cell? ⟨Q,0,none⟩=some (slice (some ⟨B,0,none⟩) pl.length pl.length):=by simp[cell?,h.box]
 have H:=AA (λq=>AN w q);obtain⟨J,N⟩:=h.room;obtain⟨L,U⟩:∃L,pl.length=L:=⟨_,rfl⟩;rw[U]at c0 J N⊢;have I:(n:Int).tmod (L:Int)=((n % L:Nat):Int):=by rw[Jq om];simp
 have Z:n % L<L:=Ek _ om;obtain⟨p,V⟩:∃p,n % L=p:=⟨_,rfl⟩;rw[V]at I Z⊢;have A:(0:Int)<=(p:Int):=by omega
 have C:(p:Int)<(L:Int):=by omega
 have z0:¬(L:Int)=0:=by omega
 have D:¬L=0:=by omega
 clear h V U;go_enter func170,ntmps170;go_upto_region 1 with fail
 go_big_quiet (fail)
 go_wp2;go_ret;exact⟨by simp,H.out _⟩
def Du(next room n:Nat):Bool:=decide (next<=n)&&decide (n-next<room)
theorem aaC{X:Nat->Prop}{Q B next:Nat}{I:List PlW}(n:Nat)(w:World)(h:BZ X Q B next I w)(hn:n<=1000000000)(hx:next<=1000000000) :Calls ZP 189 #[pointer (some ⟨Q,0,none⟩),int i64 (n:Int)] w λe w'=>e=.returned (bool (Du next I.length n))/\Bt w w':=by
 have c1:w.cell? ⟨Q,1,none⟩=some (int i64 (next:Int)):=by simp[cell?,h.box]
 have k1:∀d os,(grow (redrawn w d) os).cell? ⟨Q,1,none⟩=some (int i64 (next:Int)):=Vc c1;have H:∀d os,Calls ZP 231 #[pointer (some ⟨Q,0,none⟩)] (grow (redrawn w d) os) λe w'=>e=.returned (int i64 (I.length:Int))/\RowKit.Below (grow (redrawn w d) os).heap.size (grow (redrawn w d) os) w':=λd os=>(abJ _ (h.keep (Y:=λ_=>False) (.of_same (Kf w d os)) λ_ _ _ h=>h)).mono λe w' ⟨h1,h2⟩=>⟨h1,by rw[h2];exact AH _ _⟩;obtain⟨L,z⟩:∃L,I.length=L:=⟨_,rfl⟩;rw[z]at H⊢;have J:=AA (λC V=>Kf w C V);clear h z c1
 by_cases Z:next<=n
 ·have j:decide ((n:Int)>=(next:Int))=true:=by simp;omega
  have U:decide (next<=n)=true:=Lz Z;have s:IntKind.i64.wrap ((n:Int)-(next:Int))=((n-next:Nat):Int):=by rw[BK];omega
  have N:Du next L n=decide (n-next<L):=by unfold Du;rw[U];rfl
  rw[N];obtain⟨m,A⟩:∃m,n-next=m:=⟨_,rfl⟩;rw[A]at s⊢;obtain⟨D,y⟩:∃b,decide (m<L)=b:=⟨_,rfl⟩;have x:decide ((m:Int)<(L:Int))=D:=by rw[<-y,Db];simp
  rw[y];clear N A Z;go_enter func189,ntmps189;go_upto_region 1 with fail
  refine wp_region_quiet_below mixed kr ?_
  repeat (go_big_quiet_step (exact Eu (H _ _)))
  refine wpQuiet_nil ?_;rintro _ ⟨⟨C,V⟩,rfl⟩;go_wp2;go_ret;exact⟨rfl,J.out _ _⟩
 ·have j:decide ((n:Int)>=(next:Int))=false:=by simp;omega
  have U:decide (next<=n)=false:=decide_eq_false Z;have N:Du next L n=false:=by unfold Du;rw[U];rfl
  rw[N];clear N Z;go_enter func189,ntmps189;go_upto_region 1 with fail
  refine wp_region_quiet_below mixed kr ?_
  repeat (go_big_quiet_step (exact Eu (H _ _)))
  refine wpQuiet_nil ?_;rintro _ ⟨⟨C,V⟩,rfl⟩;go_wp2;go_ret;exact⟨rfl,J.out _ _⟩
theorem ai7{X:Nat->Prop}{Q B next:Nat}{Z:List PlW}(n m c:Nat)(a:Option Addr)(x:Option Addr×Nat×Nat)(w:World)(h:BZ X Q B next Z w)(hn:n<=1000000000)(hx:next<=1000000000)(U:Du next Z.length n=true)(hp:Z[n % Z.length]?=some (x,false)) :Calls ZP 201 #[pointer (some ⟨Q,0,none⟩),int i64 (n:Int),slice a m c] w λe w'=>e=.returned (bool true)/\BZ X Q B next (Z.set (n % Z.length) ((a,m,c),true)) w'/\Chg X w w':=by
 have s:=aaC n w h hn hx;rw[U]at s;have s:=AA s;have A:Hid (∀V,Bt w V->BZ X Q B next Z V/\Calls ZP 170 #[pointer (some ⟨Q,0,none⟩),int i64 (n:Int)] V λe w'=>e=.returned (pointer (some ⟨B,n % Z.length*2,none⟩))/\Bt V w'):=λV hV=>by have:=h.keep (Y:=λ_=>False) (.of_same hV) λ_ _ _ h=>h;exact⟨this,abP n V this om⟩
 obtain⟨p,H⟩:∃p,n % Z.length=p:=⟨_,rfl⟩;rw[H]at A hp⊢;have HP:=AA hp;clear h U H hp;go_enter func201,ntmps201
 go_wp2_with (go_at_call 189;refine s.out.mono ?_;rintro e w1 ⟨rfl,N⟩)
 have a2:=AA (A.out w1 N).2;have z:=AA N;clear N
 go_wp2_with fail
 refine a2.out.mono ?_;rintro e j ⟨rfl,C⟩;have J:=z.out.trans (C.mono z.out.size);obtain⟨h2,_⟩:=A.out j J;have x1:j.cell? ⟨B,p*2+1,none⟩=some (bool false):=by have:=(Hz HP.out).2;simp[cell?,h2.places];exact this
 have I:=AA J;clear C J h2;go_upto_region 3 with fail
 have a1:=AA (A.out j I.out).2;clear x1
 go_wp2_with fail
 refine a1.out.mono ?_;rintro e y ⟨rfl,D⟩;have J:=I.out.trans (D.mono I.out.size);obtain⟨h3,_⟩:=A.out y J;have y0:y.cell? ⟨B,p*2,none⟩=some (slice x.1 x.2.1 x.2.2):=by have:=(Hz HP.out).1;simp[cell?,h3.places];exact this
 have y1:y.cell? ⟨B,p*2+1,none⟩=some (bool false):=by have:=(Hz HP.out).2;simp[cell?,h3.places];exact this
 have f0:∀i,y.frozen? ⟨B,i,none⟩=false:=λi=>by simp[frozen?,h3.places]
 have f1:=f0 (p*2);have f2:=f0 (p*2+1);obtain⟨g1,g2⟩:=h3.setP p ((a,m,c),true);have G1:=AA g1;have G2:=AA ((Chg.of_same J).then g2);clear D J h3 g1 g2 f0;go_wp2;go_ret;exact⟨rfl,G1.out,G2.out⟩
abbrev TVw:=Option Addr×Nat×Nat
abbrev svW(v:TVw):Value:=slice v.1 v.2.1 v.2.2
structure BY(X:Nat->Prop)(S:Nat)(a:Option Addr)(n c:Nat)(vs:List TVw)(rs:La)(br:Bool)(told:Nat)(w:World):Prop where
 box:w.heap[S]?=some (.cells #[slice a n c,bool br,int i64 (told:Int)] 186 (0,0))
 inX:X S
 row:Sl1 svW w a n vs
 rowB:n≠0->∀q,a=some q->X q.block/\q.block≠S/\∃cur,w.heap[q.block]?=some (.cells cur 32 (0,0))
 len:vs.length=rs.length
 cap:n<=c
 el:∀(i:Nat)(v:TVw)(xs:List Int),vs[i]?=some v->rs[i]?=some xs->Bys w v.1 v.2.1 xs/\v.2.1<=v.2.2/\(v.2.1≠0->∀q,v.1=some q->X q.block/\q.block≠S/\∀q',a=some q'->q.block≠q'.block)
section
variable {X Y:Nat->Prop}{S n c told m:Nat}{a b:Option Addr}{vs:List TVw}{rs:La}{br:Bool}{w w':World}{xs:List Int}
theorem Bys.same(h:Bys w b m xs)(Z:w.heap.size<=w'.heap.size)(hk:m≠0->∀q,b=some q->w'.heap[q.block]?=w.heap[q.block]?):Bys w' b m xs:=by
 refine⟨⟨h.1.1,?_⟩,h.2⟩
 by_cases h0:m=0
 ·exact .inl h0
 ·obtain⟨g,o,e,U,V⟩:=h.1.2.resolve_left h0;refine .inr ⟨g,o,e,Af U Z,λi x N=>?_⟩;have J:w'.heap[g]?=w.heap[g]?:=hk h0 ⟨g,o,none⟩ e;rw[BC (a:=⟨g,o+i,none⟩) J];exact V i x N
theorem Bys.lt(h:Bys w b m xs)(h0:m≠0):∀q,b=some q->q.block<w.heap.size:=λq Z=>by
 obtain⟨g,o,e,V,_⟩:=h.1.2.resolve_left h0;rw[Z]at e
 cases AK e
 exact V
theorem BY.keep(h:BY X S a n c vs rs br told w)(N:Chg Y w w')(C:∀k,k<w.heap.size->X k->¬Y k):BY X S a n c vs rs br told w':=by
 have B:=(AD.1 h.box).1;have U:∀k,k<w.heap.size->X k->w'.heap[k]?=w.heap[k]?:=λk hk Z=>N.block k hk (C k hk Z);refine⟨(U S B h.inX).trans h.box,h.inX,⟨h.row.1,?_⟩,λh0 q V=>?_,h.len,h.cap,λi v xs H Z=>?_⟩
 ·by_cases h0:n=0
  ·exact .inl h0
  ·obtain⟨b,o,e,I,Z⟩:=h.row.2.resolve_left h0;refine .inr ⟨b,o,e,Af I N.size,λi x D=>?_⟩;rw[BC (a:=⟨b,o+i,none⟩) (U b I (h.rowB h0 _ e).1)];exact Z i x D
 ·obtain⟨h1,h2,J,h3⟩:=h.rowB h0 q V;exact⟨h1,h2,J,(U _ (AD.1 h3).1 h1).trans h3⟩
 ·obtain⟨h1,h2,h3⟩:=h.el i v xs H Z;exact⟨h1.same N.size λh0 q V=>U _ (h1.lt h0 q V) (h3 h0 q V).1,h2,h3⟩
theorem BY.wide(h:BY X S a n c vs rs br told w)(V:∀k,k<w.heap.size->X k->Y k):BY Y S a n c vs rs br told w:=by
 refine⟨h.box,V S (AD.1 h.box).1 h.inX,h.row,λh0 q Z=>?_,h.len,h.cap,λi v xs J N=>?_⟩
 ·obtain⟨h1,h2,U,h3⟩:=h.rowB h0 q Z;exact⟨V _ (AD.1 h3).1 h1,h2,U,h3⟩
 ·obtain⟨h1,h2,h3⟩:=h.el i v xs J N;exact⟨h1,h2,λh0 q Z=>⟨V _ (h1.lt h0 q Z) (h3 h0 q Z).1,(h3 h0 q Z).2⟩⟩
theorem BY.turn{a2:Option Addr}{I c2 Z:Nat}{V:List TVw}{U:La}(h:BY X S a n c vs rs br told w)(s:w.heap.size<=w'.heap.size)(hb:w'.heap[S]?=some (.cells #[slice a2 I c2,bool br,int i64 (Z:Int)] 186 (0,0)))
  (ho:∀k,k<w.heap.size->k≠S->(∀q,a=some q->k≠q.block)->w'.heap[k]?=w.heap[k]?) (hr:Sl1 svW w' a2 I V) (hn:I≠0->n≠0/\∀q,a2=some q->(∃q',a=some q'/\q.block=q'.block)/\∃N,w'.heap[q.block]?=some (.cells N 32 (0,0)))
  (hl:V.length=U.length) (hc:I<=c2) (a6:∀B,a2=some B->∃q',a=some q'/\B.block=q'.block)
  (he:∀(i:Nat)(v:TVw)(xs:List Int),V[i]?=some v->U[i]?=some xs->∃(j:Nat)(v0:TVw)(z:List Int),vs[j]?=some v0/\rs[j]?=some z/\Bys w v.1 v.2.1 xs/\v.2.1<=v.2.2/\(v.2.1≠0->∀q,v.1=some q->v0.2.1≠0/\∃J,v0.1=some J/\q.block=J.block)) :
  BY X S a2 I c2 V U br Z w':=by
 refine⟨hb,h.inX,hr,λh0 q A=>?_,hl,hc,λi v xs hv hx=>?_⟩
 ·obtain⟨h1,h2⟩:=hn h0;obtain⟨⟨q',e1,e2⟩,N,h3⟩:=h2 q A;obtain⟨g1,g2,_⟩:=h.rowB h1 q' e1;rw[e2]at h3⊢;exact⟨g1,g2,N,h3⟩
 ·obtain⟨j,v0,z,j1,j2,C,a1,A⟩:=he i v xs hv hx;obtain⟨_,_,g3⟩:=h.el j v0 z j1 j2;refine⟨C.same s λh0 q e=>?_,a1,λh0 q e=>?_⟩
  ·obtain⟨h1,J,e0,eb⟩:=A h0 q e;obtain⟨y,D,H⟩:=g3 h1 J e0;rw[<-eb]at D H;exact ho _ (C.lt h0 q e) D H
  ·obtain⟨h1,J,e0,eb⟩:=A h0 q e;obtain⟨y,D,H⟩:=g3 h1 J e0;rw[<-eb]at y D H;refine⟨y,D,λB e2=>?_⟩;obtain⟨q',e3,e4⟩:=a6 B e2;rw[e4];exact H q' e3
end
theorem ahB{X:Nat->Prop}{S n c told:Nat}{a:Option Addr}{vs:List TVw}{rs:La}{br:Bool}(w:World)(h:BY X S a n c vs rs br told w) :Calls ZP 234 #[pointer (some ⟨S,0,none⟩)] w λe w'=>e=.returned (bool (decide (n=0)))/\w'=w:=by
 have c0:w.cell? ⟨S,0,none⟩=some (slice a n c):=by simp[cell?,h.box]
 have V:((n:Int)==0)=decide (n=0):=by rw[Db];simp
 have Z:decide ((n:Int)=0)=decide (n=0):=by rw[Db];simp
 clear h;go_enter func234,ntmps234;go_wp2;go_ret;refine⟨?_,rfl⟩
 first|rfl|simp|(simp;omega)
theorem aqc{X:Nat->Prop}{S n c told:Nat}{a:Option Addr}{vs:List TVw}{rs:La}{br:Bool}(w:World)(h:BY X S a n c vs rs br told w) :Calls ZP 76 #[pointer (some ⟨S,0,none⟩)] w λe w'=>e=.returned (bool br)/\Bt w w':=by
 have c1:w.cell? ⟨S,1,none⟩=some (bool br):=by simp[cell?,h.box]
 have Z:=AA (λq=>AN w q);clear h;go_enter func76,ntmps76;go_wp2;go_ret;exact⟨rfl,AH _ _⟩
section
variable {X:Nat->Prop}{S n c told m R o:Nat}{a2:Option Addr}{v v2:TVw}{vt:List TVw}{x x2:List Int}{t:La}{br:Bool}{w:World}
theorem BY.shift(h:BY X S (some ⟨R,o,none⟩) (m+1) c (v::vt) (x::t) br told w)(u:Value)(ha:a2=some ⟨R,o,none⟩/\m=0∨a2=some ⟨R,o+1,none⟩) :BY X S a2 m (c-1) vt t br told ((w.setCell ⟨R,o,none⟩ u).setCell ⟨S,0,none⟩ (slice a2 m (c-1)))/\Chg X w ((w.setCell ⟨R,o,none⟩ u).setCell ⟨S,0,none⟩ (slice a2 m (c-1))):=by
 obtain⟨j,D,a6,N⟩:=h.rowB om _ rfl;obtain⟨J,V⟩:∃U,U=w.setCell ⟨R,o,none⟩ u:=⟨_,rfl⟩;rw[<-V];have A:∀k,k≠R->J.heap[k]?=w.heap[k]?:=λk hk=>by rw[V];exact AQ w ⟨R,o,none⟩ _ k hk
 have I:∀k,k≠S->(J.setCell ⟨S,0,none⟩ (slice a2 m (c-1))).heap[k]?=J.heap[k]?:=λk hk=>AQ J ⟨S,0,none⟩ _ k hk;have z:J.heap.size=w.heap.size:=by rw[V];simp[World.setCell]
 have s:J.heap[S]?=some (.cells #[slice (some ⟨R,o,none⟩) (m+1) c,bool br,int i64 (told:Int)] 186 (0,0)):=(A S λe=>D e.symm).trans h.box;have C:J.heap[R]?=some (.cells (a6.setIfInBounds o u) 32 (0,0)):=by rw[V];exact AJ N u
 obtain⟨R',o',e,a7,a1⟩:=h.row.2.resolve_left om
 cases AK e
 have H:∀i,0<i->J.cell? ⟨R,o+i,none⟩=w.cell? ⟨R,o+i,none⟩:=λi hi=>by simp only[cell?,C,show w.heap[R]?=_ from N];simp[Array.getElem?_setIfInBounds];omega
 have Z:∀q,a2=some q->q.block=R:=λq B=>by rcases ha with⟨e,_⟩|e<;>(rw[B]at e;cases AK e;rfl)
 refine⟨h.turn (by simp[World.setCell]at z⊢;omega) (AJ (i:=0) s _) (λk _ h1 h2=>(I k h1).trans (A k (h2 _ rfl))) ⟨by have:=h.row.1;simpa using this,?_⟩ (λh0=>⟨by omega,λq B=>⟨⟨_,rfl,Z q B⟩,?_⟩⟩) (by have:=h.len;simpa using this) (by have:=h.cap;omega) (λq B=>⟨_,rfl,Z q B⟩) (λi v3 xs hv hx=>?_),?_⟩
 ·by_cases h0:m=0
  ·exact .inl h0
  ·have ea:a2=some ⟨R,o+1,none⟩:=ha.elim (λh=>absurd h.2 h0) id;refine .inr ⟨R,o+1,ea,by simp[World.setCell];have:=(AD.1 C).1;exact this,λi y hy=>?_⟩;rw[BC (a:=⟨R,o+1+i,none⟩) (I R D),show o+1+i=o+(i+1) by omega,H (i+1) om];exact a1 (i+1) y hy
 ·rw[Z q B,I R D];exact⟨_,C⟩
 ·obtain⟨g1,g2,g3⟩:=h.el (i+1) v3 xs hv hx;exact⟨i+1,v3,xs,hv,hx,g1,g2,λh0 q e=>⟨h0,q,e,rfl⟩⟩
 ·rw[V];exact((Chg.refl X w).set j).set h.inX
theorem BY.trim(h:BY X S (some ⟨R,o,none⟩) n c (v::vt) (x::t) br told w)(B:n≠0)(D:Bys w v2.1 v2.2.1 x2)(A:v2.2.1<=v2.2.2)(N:v2.2.1≠0->∀q,v2.1=some q->v.2.1≠0/\∃q0,v.1=some q0/\q.block=q0.block) :BY X S (some ⟨R,o,none⟩) n c (v2::vt) (x2::t) br told (w.setCell ⟨R,o,none⟩ (svW v2))/\Chg X w (w.setCell ⟨R,o,none⟩ (svW v2)):=by
 obtain⟨s,j,U,Z⟩:=h.rowB B _ rfl;have J:∀k,k≠R->(w.setCell ⟨R,o,none⟩ (svW v2)).heap[k]?=w.heap[k]?:=λk hk=>AQ w ⟨R,o,none⟩ _ k hk;have z:=(J S λe=>j e.symm).trans h.box;have V:(w.setCell ⟨R,o,none⟩ (svW v2)).heap[R]?=some (.cells (U.setIfInBounds o (svW v2)) 32 (0,0)):=AJ Z _;obtain⟨R',o',e,a1,I⟩:=h.row.2.resolve_left B
 cases AK e
 have ho:o<U.size:=by
  have h1:=I 0 v rfl;simp only[cell?,show w.heap[R]?=_ from Z]at h1;have h2:U[o+0]?=some (svW v):=by simpa using h1
  exact(AD.1 h2).1
 refine⟨h.turn (by simp[World.setCell]) z (λk _ h1 h2=>J k (h2 _ rfl)) ⟨by have:=h.row.1;simpa using this,.inr ⟨R,o,rfl,(AD.1 V).1,λi y hy=>?_⟩⟩ (λh0=>⟨B,λq N=>⟨⟨q,N,rfl⟩,by cases AK N;exact⟨_,V⟩⟩⟩) (by have:=h.len;simpa using this) h.cap (λq N=>⟨q,N,rfl⟩) (λi v3 xs C H=>?_),(Chg.refl X w).set s⟩
 ·cases i with
  |zero=>
   cases AK hy
   simp only[cell?,V];simp[ho]
  |succ i=>
   have h1:=I (i+1) y hy;simp only[cell?,show w.heap[R]?=_ from Z]at h1;simp only[cell?,V];simp[Array.getElem?_setIfInBounds]at h1⊢;exact h1
 ·cases i with
  |zero=>
   cases AK C
   cases AK H
   exact⟨0,v,x,rfl,rfl,D,A,N⟩
  |succ i=>
   obtain⟨g1,g2,g3⟩:=h.el (i+1) v3 xs C H;exact⟨i+1,v3,xs,C,H,g1,g2,λh0 q e=>⟨h0,q,e,rfl⟩⟩
end
def Dg(Z:Int)(x:List Int):List Int:=if(x.length:Int)<=Z then x else x.take Z.toNat
def GX(Z:Int)(x:List Int)(t:La):La:=if(x.length:Int)<=Z then t else x.drop Z.toNat::t
def OA(X:Nat->Prop)(S told n:Nat)(x:List Int)(t:La)(br:Bool)(Z:Int)(w:World)(e:Ending)(w':World):Prop:=
 ∃(b':Option Addr)(N J:Nat)(a2:Option Addr)(U c2:Nat)(V:List TVw),e=.returned (slice b' N J)/\Bys w' b' N (Dg Z x)/\BY X S a2 U c2 V (GX Z x t) br told w'/\Chg X w w'/\U<=n
theorem ai2{X:Nat->Prop}{S n c told:Nat}{a:Option Addr}{vs:List TVw}{x:List Int}{t:La}{br:Bool}(Z:Int)(w:World)(h:BY X S a n c vs (x::t) br told w)(hm:1<=Z)(hn:n<=1000000) :Calls ZP 235 #[pointer (some ⟨S,0,none⟩),int i64 Z] w (OA X S told n x t br Z w):=by
 obtain⟨v,vt,rfl⟩:∃v vt,vs=v::vt:=by
  cases vs with
  |nil=>have:=h.len;simp at this
  |cons v vt=>exact⟨v,vt,rfl⟩
 have ae:n=vt.length+1:=by rw[<-h.row.1];rfl
 subst ae;obtain⟨R,o,rfl,ak,j⟩:=h.row.2.resolve_left om;obtain⟨aj,ah,am,C⟩:=h.rowB om _ rfl;obtain⟨s,ac,A⟩:=h.el 0 v x rfl rfl;obtain⟨a0,N,c0⟩:=v;dsimp only at s ac A;have J:x.length=N:=s.1.1;have s0:w.cell? ⟨S,0,none⟩=some (slice (some ⟨R,o,none⟩) (vt.length+1) c):=by simp[cell?,h.box]
 have r0:w.cell? ⟨R,o,none⟩=some (slice a0 N c0):=j 0 _ rfl;have f0:w.frozen? ⟨R,o,none⟩=false:=by simp[frozen?,C]
 have ad:=h.cap;have z:∀k,N≠0->(∃q,a0=some q/\q.block=k)->k≠S/\k≠R:=λk h0 ⟨q,e,e2⟩=>by obtain⟨_,B,g3⟩:=A h0 q e;exact⟨by rw[<-e2];exact B,by rw[<-e2];exact g3 _ rfl⟩
 have HH:=AA h;have HV:=AA s
 by_cases I:(N:Int)<=Z
 ·have d0:decide ((N:Int)<=Z)=true:=Lz I;have ht:Dg Z x=x:=by unfold Dg;rw[J,Lc I]
  have hr:GX Z x t=t:=by unfold GX;rw[J,Lc I]
  have HT:=AA ht;have a1:=AA hr;obtain⟨W1,D⟩:∃U,U=w.setCell ⟨R,o,none⟩ (slice none 0 0):=⟨_,rfl⟩;have aa:W1.heap[S]?=some (.cells #[slice (some ⟨R,o,none⟩) (vt.length+1) c,bool br,int i64 (told:Int)] 186 (0,0)):=by rw[D,AQ w ⟨R,o,none⟩ _ S (λe=>ah e.symm)];exact h.box
  have s1:W1.cell? ⟨S,0,none⟩=some (slice (some ⟨R,o,none⟩) (vt.length+1) c):=by simp[cell?,aa]
  have f1:W1.frozen? ⟨S,0,none⟩=false:=by simp[frozen?,aa]
  have ab:Hid (∀u,Bys ((w.setCell ⟨R,o,none⟩ (slice none 0 0)).setCell ⟨S,0,none⟩ u) a0 N x):=λu=>s.same (by simp[World.setCell]) λh0 q e=>by obtain⟨y,B⟩:=z q.block h0 ⟨q,e,rfl⟩;rw[AQ _ ⟨S,0,none⟩ _ _ y,AQ _ ⟨R,o,none⟩ _ _ B]
  by_cases ag:c=1
  ·subst ag;have h0:vt.length=0:=by omega
   obtain⟨y,B⟩:=h.shift (a2:=some ⟨R,o,none⟩) (slice none 0 0) (.inl ⟨rfl,h0⟩);have G1:=AA y;have G2:=AA B;clear y B h s A z j h0 ht hr J C I ad;go_enter func235,ntmps235;go_upto_region 4 with fail
   rw[<-D];have a6:=AA D;clear D s0 r0 f0;go_wp2;go_ret;unfold OA;rw[a6.out,HT.out,a1.out];exact⟨a0,N,c0,_,_,_,vt,rfl,ab.out _,G1.out,G2.out,by omega⟩
  ·obtain⟨y,B⟩:=h.shift (a2:=some ⟨R,o+1,none⟩) (slice none 0 0) (.inr rfl);have G1:=AA y;have G2:=AA B;clear y B h s A z j ht hr J C I;go_enter func235,ntmps235;go_upto_region 4 with fail
   rw[<-D];have a6:=AA D;clear D s0 r0 f0;go_wp2;go_ret;unfold OA;rw[a6.out,HT.out,a1.out];exact⟨a0,N,c0,_,_,_,vt,rfl,ab.out _,G1.out,G2.out,by omega⟩
 ·have d0:decide ((N:Int)<=Z)=false:=decide_eq_false I;obtain⟨k,rfl⟩:=Mb (show 0<=Z by omega);have ht:Dg (k:Int) x=x.take k:=by unfold Dg;rw[J,Lb I,Aa]
  have hr:GX (k:Int) x t=x.drop k::t:=by unfold GX;rw[J,Lb I,Aa]
  have HT:=AA ht;have a1:=AA hr;have af:k<N:=by omega
  have al:decide (N<=k)=false:=decide_eq_false om;obtain⟨g,H,rfl,_,_⟩:=s.1.2.resolve_left om;have a8:∀V,Bys V (some ⟨g,H,none⟩) N x->Bys V (some ⟨g,H+k,none⟩) (N-k) (x.drop k):=λV hV=>by have:=hV.cut (lo:=k) (m:=N-k) om;rw[Ap (by rw[List.length_drop,J];exact AC _),Dw,Cf]at this;exact this
  have a7:∀V,Bys V (some ⟨g,H,none⟩) N x->Bys V (some ⟨g,H,none⟩) k (x.take k):=λV hV=>by
   have:=hV.cut (lo:=0) (m:=k) om;rw[List.drop_zero]at this;have e:(some (⟨g,H,none⟩:Addr)).map (·.add 0)=some ⟨g,H,none⟩:=rfl
   rwa[e]at this
  have k0:(0:Int)<=(k:Int):=by omega
  have k1:(k:Int)<=(N:Int):=by omega
  have k2:k<=N:=by omega
  have k3:(k:Int)<=(c0:Int):=by omega
  have k4:k<=c0:=by omega
  have k5:¬c0=k:=by omega
  have ai:Hid (∀q,BY X S (some ⟨R,o,none⟩) (vt.length+1) c ((some ⟨g,H,none⟩,N,c0)::vt) (x::t) br told (w.drewN q)/\Bys (w.drewN q) (some ⟨g,H,none⟩) N x/\Bt w (w.drewN q)):=λq=>⟨h.keep (Y:=λ_=>False) (.of_same (AN w q)) λ_ _ _ h=>h,s.same (AC _) λ_ _ _=>rfl,AN w q⟩;have HF:Hid (∀V,BY X S (some ⟨R,o,none⟩) (vt.length+1) c ((some ⟨g,H,none⟩,N,c0)::vt) (x::t) br told V->Bys V (some ⟨g,H,none⟩) N x->BY X S (some ⟨R,o,none⟩) (vt.length+1) c ((some ⟨g,H+k,none⟩,N-k,c0-k)::vt) (x.drop k::t) br told (V.setCell ⟨R,o,none⟩ (slice (some ⟨g,H+k,none⟩) (N-k) (c0-k)))/\Chg X V (V.setCell ⟨R,o,none⟩ (slice (some ⟨g,H+k,none⟩) (N-k) (c0-k)))/\Bys (V.setCell ⟨R,o,none⟩ (slice (some ⟨g,H+k,none⟩) (N-k) (c0-k))) (some ⟨g,H,none⟩) k (x.take k)):=λV hV hb=>by obtain⟨y,B⟩:=hV.trim (v2:=(some ⟨g,H+k,none⟩,N-k,c0-k)) (x2:=x.drop k) om (a8 V hb) (by show N-k<=c0-k;omega) (λh0 q e=>⟨by show N≠0;omega,_,rfl,by cases AK e;rfl⟩);refine⟨y,B,a7 _ (hb.same (by simp[World.setCell]) λh0 q e=>?_)⟩;exact AQ V ⟨R,o,none⟩ _ _ (z q.block h0 ⟨q,e,rfl⟩).2
  clear h s A j ht hr J C I a8 a7 z af;go_enter func235,ntmps235;go_upto_region 6 with fail
  go_region
  go_wp2;go_ret;unfold OA;rw[HT.out,a1.out];obtain⟨h1,h2,h3⟩:=ai.out 1;obtain⟨y,B,g3⟩:=HF.out _ h1 h2;exact⟨some ⟨g,H,none⟩,k,c0,_,_,_,_,rfl,g3,y,(Chg.of_same h3).then B,AC _⟩
def BR(Z:Int):La->List Int
 |[]=>[]
 |x::_=>if Z<1 then [] else Dg Z x
def EB(Z:Int):La->La
 |[]=>[]
 |x::t=>if Z<1 then x::t else GX Z x t
theorem BY.told{X:Nat->Prop}{S n c told:Nat}{a:Option Addr}{J:List TVw}{rs:La}{br:Bool}{w:World}(h:BY X S a n c J rs br told w)(Z:Nat) :BY X S a n c J rs br Z (w.setCell ⟨S,2,none⟩ (int i64 (Z:Int)))/\Chg X w (w.setCell ⟨S,2,none⟩ (int i64 (Z:Int))):=by
 have hk:∀k,k≠S->(w.setCell ⟨S,2,none⟩ (int i64 (Z:Int))).heap[k]?=w.heap[k]?:=λk hk=>AQ w ⟨S,2,none⟩ _ k hk;refine⟨h.turn (by simp[World.setCell]) (AJ (i:=2) h.box _) (λk _ h1 _=>hk k h1) ⟨h.row.1,?_⟩ (λh0=>⟨h0,λq U=>?_⟩) h.len h.cap (λq U=>⟨q,U,rfl⟩) (λi v xs I V=>?_),(Chg.refl X w).set h.inX⟩
 ·by_cases h0:n=0
  ·exact .inl h0
  ·obtain⟨b,o,e,H,V⟩:=h.row.2.resolve_left h0;obtain⟨_,Y,_⟩:=h.rowB h0 _ e;refine .inr ⟨b,o,e,by simpa[World.setCell]using H,λi x D=>?_⟩;rw[BC (a:=⟨b,o+i,none⟩) (hk b Y)];exact V i x D
 ·obtain⟨_,Y,N,C⟩:=h.rowB h0 q U;exact⟨⟨q,U,rfl⟩,N,(hk _ Y).trans C⟩
 ·obtain⟨A,B,z⟩:=h.el i v xs I V;exact⟨i,v,xs,I,V,A,B,λh0 q e=>⟨h0,q,e,rfl⟩⟩
def anM(X:Nat->Prop)(S told n:Nat)(rs:La)(br:Bool)(Z:Int)(w:World)(e:Ending)(w':World):Prop:=
 ∃(v:Value)(a2:Option Addr)(V c2:Nat)(Y:List TVw),e=.returned (.tuple #[v,bool rs.isEmpty])/\Ch w' w.heap.size v (BR Z rs).length (BR Z rs)/\(∀x∈BR Z rs,0<=x/\x<=255)/\BY X S a2 V c2 Y (EB Z rs) br (told+(BR Z rs).length) w'/\Chg X w w'/\V<=n
theorem age{X:Nat->Prop}{S n c told:Nat}{a:Option Addr}{vs:List TVw}{rs:La}{br:Bool}(Z:Int)(w:World)(h:BY X S a n c vs rs br told w)(hn:n<=1000000)(hl:∀x∈rs,x.length<=1000000)(ht:told<=1000000000) :Calls ZP 192 #[pointer (some ⟨S,0,none⟩),int i64 Z] w (anM X S told n rs br Z w):=by
 have H:=ahB w h;have HH:=AA h
 cases rs with
 |nil=>
  have h0:n=0:=by have h1:=h.len;have h2:=h.row.1;simp at h1;rw[h1]at h2;exact h2.symm
  rw[Lz h0]at H;have HE:=AA H;clear h H h0;go_enter func192,ntmps192
  go_wp2_with (go_at_call 234;refine HE.out.mono ?_;rintro e w1 ⟨rfl,rfl⟩)
  go_ret2;exact⟨_,_,_,_,_,rfl,BN _ _ _ _,(by intro x hx;simp[BR]at hx),HH.out,Chg.refl _ _,AC _⟩
 |cons x t=>
  have h0:n≠0:=by have h1:=h.len;have h2:=h.row.1;simp at h1;omega
  rw[decide_eq_false h0]at H;have HE:=AA H;have ad:=AA h0;clear h H h0
  by_cases J:Z<1
  ·have d0:decide (Z<1)=true:=Lz J;have z:BR Z (x::t)=[]:=Lc J;have A:EB Z (x::t)=x::t:=Lc J;have V:=AA (Lq z A);clear z A J;go_enter func192,ntmps192
   go_wp2_with (go_at_call 234;refine HE.out.mono ?_;rintro e w1 ⟨rfl,rfl⟩)
   go_ret2;unfold anM;rw[V.out.1,V.out.2];exact⟨_,_,_,_,_,rfl,BN _ _ _ _,(by intro x hx;simp[BR]at hx),HH.out,Chg.refl _ _,AC _⟩
  ·have d0:decide (Z<1)=false:=decide_eq_false J;have z:BR Z (x::t)=Dg Z x:=Lb J;have A:EB Z (x::t)=GX Z x t:=Lb J;have V:=AA (Lq z A);have HC:=AA (ai2 Z w HH.out om hn);have D:(Dg Z x).length<=1000000:=by
    have:=hl x sm;unfold Dg
    split
    ·exact this
    ·rw[Ag];omega
   have y:=AA D;clear z A J D;go_enter func192,ntmps192;go_upto_region 5 with(go_at_call 234;refine HE.out.mono ?_;rintro e w1 ⟨rfl,rfl⟩)
   go_wp2_with fail
   refine HC.out.mono ?_;rintro e w1 ⟨b',I,c',a2,n2,c2,a1,rfl,N,hs,hc,B⟩;have C:(Dg Z x).length=I:=N.1.1;have aa:=AA (acP b' I c' ((Dg Z x).map (Value.int .u8)) w1 (Jz N.1) (λu hu=>by obtain⟨x,_,rfl⟩:=Be.1 hu;rfl) (by have:=y.out;omega));have ab:=AA N;have HS:=AA hs;have s:=AA hc;have a8:=AA B;have HM:=AA C;clear N hs hc B C
   go_wp2_with fail
   refine aa.out.mono ?_;rintro e j ⟨v2,rfl,ho,hb⟩;obtain⟨b2,k2,a6,_,_⟩:=SlK.own ho;subst a6;have U:BY X S a2 n2 c2 a1 (GX Z x t) br told j:=HS.out.keep (Y:=λ_=>False) (.of_same hb) λ_ _ _ h=>h;have ac:I<=1000000:=by have:=y.out;have:=HM.out;omega
   have s2:j.cell? ⟨S,2,none⟩=some (int i64 (told:Int)):=by simp[cell?,U.box]
   have f2:j.frozen? ⟨S,2,none⟩=false:=by simp[frozen?,U.box]
   have hw:IntKind.i64.wrap ((told:Int)+(I:Int))=((told+I:Nat):Int):=by rw[BK];omega
   obtain⟨T,hT⟩:∃T,told+I=T:=⟨_,rfl⟩;rw[hT]at hw;obtain⟨g1,g2⟩:=U.told T;have G1:=AA g1;have G2:=AA (s.out.same hb |>.then g2);have HO:=AA ho;have HB:=AA hb;have HT:=AA hT;have a7:Hid (∀g,(slice b2 I k2).ownBlock=some g->g≠S):=λg e=>by have h1:=(Gw ho g e).1;have h2:=(AD.1 HS.out.box).1;omega
   clear ho hb U g1 g2 hT;go_wp2;go_ret2;unfold anM;rw[V.out.1,V.out.2,HM.out,HT.out];refine⟨_,_,_,_,_,rfl,?_,ab.out.2,G1.out,G2.out,a8.out⟩;refine NC (Fu HO.out λg e=>?_) s.out.size;exact AQ j ⟨S,2,none⟩ _ g (a7.out g e)
def NM(p:AF):List Value:=[int i64 p.1,int i64 p.2]
def CJ(l:List AF):List Value:=l.flatMap NM
theorem Lh(p:AF)(l:List AF):CJ (p::l)=NM p++CJ l:=by simp[CJ]
theorem agi(l:List AF):(CJ l).length=l.length*2:=by
 induction l with
 |nil=>rfl
 |cons p l ih=>
  rw[Lh,List.length_append,ih,Ao];show 2+l.length*2=_;omega
theorem NO:∀{l:List AF}{i:Nat}{p:AF},l[i]?=some p->(CJ l)[i*2]?=some (int i64 p.1)/\(CJ l)[i*2+1]?=some (int i64 p.2)
 |[],i,p,h=>by simp at h
 |q::l,0,p,h=>by
  cases AK h
  exact⟨rfl,rfl⟩
 |q::l,i+1,p,h=>by have:=NO (l:=l) (i:=i) (p:=p) (by simpa using h);rw[Lh,show(i+1)*2=i*2+1+1 by omega];exact this
theorem agv:∀(l:List AF)(i:Nat)(p:AF),CJ (l.set i p)=((CJ l).set (i*2) (int i64 p.1)).set (i*2+1) (int i64 p.2)
 |[],i,p=>by simp[CJ]
 |q::l,0,p=>by simp[Lh,NM]
 |q::l,i+1,p=>by
  have:=agv l i p;rw[List.set_cons_succ,Lh,Lh,this,show(i+1)*2=i*2+1+1 by omega]
  rfl
structure AY(X:Nat->Prop)(Q B first many:Nat)(closed:Bool)(ps:List AF)(w:World):Prop where
 box:w.heap[Q]?=some (.cells #[slice (some ⟨B,0,none⟩) ps.length ps.length,int i64 (first:Int),int i64 (many:Int),bool closed] 205 (0,0))
 places:w.heap[B]?=some (.cells (CJ ps).toArray 116 (0,0))
 inX:X Q/\X B
 ne:Q≠B
 room:1<=ps.length/\ps.length<=16/\first<ps.length/\many<=ps.length
section
variable {X Y:Nat->Prop}{Q B first many:Nat}{closed:Bool}{ps:List AF}{w w':World}
theorem AY.keep(h:AY X Q B first many closed ps w)(N:Chg Y w w')(U:∀k,k<w.heap.size->X k->¬Y k):AY X Q B first many closed ps w':=by have Z:∀k o,w.heap[k]?=some o->X k->w'.heap[k]?=some o:=λk o hk V=>(N.block k (AD.1 hk).1 (U k (AD.1 hk).1 V)).trans hk;exact⟨Z _ _ h.box h.inX.1,Z _ _ h.places h.inX.2,h.inX,h.ne,h.room⟩
theorem AY.below(h:AY X Q B first many closed ps w)(Z:Bt w w'):AY X Q B first many closed ps w':=h.keep (Y:=λ_=>False) (.of_same Z) λ_ _ _ h=>h
theorem AY.wide(h:AY X Q B first many closed ps w)(Z:∀k,k<w.heap.size->X k->Y k):AY Y Q B first many closed ps w:=⟨h.box,h.places,⟨Z _ (AD.1 h.box).1 h.inX.1,Z _ (AD.1 h.places).1 h.inX.2⟩,h.ne,h.room⟩
def AY.putW(w:World)(B i:Nat)(p:AF):World:=(w.setCell ⟨B,i*2,none⟩ (int i64 p.1)).setCell ⟨B,i*2+1,none⟩ (int i64 p.2)
theorem AY.setP(h:AY X Q B first many closed ps w)(i:Nat)(p:AF):AY X Q B first many closed (ps.set i p) (AY.putW w B i p)/\Chg X w (AY.putW w B i p):=by
 have h0:=h.places;have h1:=AJ (i:=i*2) h0 (int i64 p.1);have h2:=AJ (i:=i*2+1) h1 (int i64 p.2);rw[Fp,Fp,<-agv]at h2;have Z:Chg (λk=>k=B) w (AY.putW w B i p):=by unfold AY.putW;exact((Chg.refl (λk=>k=B) w).set (show B=B from rfl)).set (show B=B from rfl)
 have V:(AY.putW w B i p).heap[Q]?=w.heap[Q]?:=Z.block Q (AD.1 h.box).1 h.ne;exact⟨⟨by rw[BG];exact V.trans h.box,h2,h.inX,h.ne,by rw[BG];exact h.room⟩,Z.mono λk _ e=>by rw[e];exact h.inX.2⟩
theorem AY.setM(h:AY X Q B first many closed ps w)(Z:Nat)(V:Z<=ps.length):AY X Q B first Z closed ps (w.setCell ⟨Q,2,none⟩ (int i64 (Z:Int)))/\Chg X w (w.setCell ⟨Q,2,none⟩ (int i64 (Z:Int))):=⟨⟨AJ (i:=2) h.box _,(AQ w ⟨Q,2,none⟩ _ B h.ne.symm).trans h.places,h.inX,h.ne,h.room.1,h.room.2.1,h.room.2.2.1,V⟩,(Chg.refl X w).set h.inX.1⟩
theorem AY.setF(h:AY X Q B first many closed ps w)(Z:Nat)(V:Z<ps.length):AY X Q B Z many closed ps (w.setCell ⟨Q,1,none⟩ (int i64 (Z:Int)))/\Chg X w (w.setCell ⟨Q,1,none⟩ (int i64 (Z:Int))):=⟨⟨AJ (i:=1) h.box _,(AQ w ⟨Q,1,none⟩ _ B h.ne.symm).trans h.places,h.inX,h.ne,h.room.1,h.room.2.1,V,h.room.2.2.2⟩,(Chg.refl X w).set h.inX.1⟩
theorem AY.setC(h:AY X Q B first many closed ps w)(c2:Bool):AY X Q B first many c2 ps (w.setCell ⟨Q,3,none⟩ (bool c2))/\Chg X w (w.setCell ⟨Q,3,none⟩ (bool c2)):=⟨⟨AJ (i:=3) h.box _,(AQ w ⟨Q,3,none⟩ _ B h.ne.symm).trans h.places,h.inX,h.ne,h.room⟩,(Chg.refl X w).set h.inX.1⟩
end
theorem aec{X:Nat->Prop}{Q B first many:Nat}{closed:Bool}{ps:List AF}(w:World)(h:AY X Q B first many closed ps w) :Calls ZP 246 #[pointer (some ⟨Q,0,none⟩)] w λe w'=>e=.returned (int i64 ((ps.length-many:Nat):Int))/\Bt w w':=by
 have c0:w.cell? ⟨Q,0,none⟩=some (slice (some ⟨B,0,none⟩) ps.length ps.length):=by simp[cell?,h.box]
 have c2:w.cell? ⟨Q,2,none⟩=some (int i64 (many:Int)):=by simp[cell?,h.box]
 have J:=AA (λq=>AN w q);have N:=h.room;have U:IntKind.i64.wrap ((ps.length:Int)-(many:Int))=((ps.length-many:Nat):Int):=by rw[BK];omega
 obtain⟨L,V⟩:∃L,ps.length=L:=⟨_,rfl⟩;rw[V]at c0 U⊢;obtain⟨M,Z⟩:∃M,L-many=M:=⟨_,rfl⟩;rw[Z]at U⊢;clear h N V Z;go_enter func246,ntmps246;go_upto_region 1 with fail
 go_big_quiet (fail)
 go_wp2;go_ret;exact⟨rfl,J.out _⟩
theorem ag5{X:Nat->Prop}{Q B first many:Nat}{closed:Bool}{ps:List AF}(w:World)(h:AY X Q B first many closed ps w) :Calls ZP 72 #[pointer (some ⟨Q,0,none⟩)] w λe w'=>e=.returned (bool closed)/\Bt w w':=by
 have c0:w.cell? ⟨Q,3,none⟩=some (bool closed):=by simp[cell?,h.box]
 clear h;go_enter func72,ntmps72;go_wp2;go_ret;exact⟨rfl,AH _ _⟩
theorem aml{X:Nat->Prop}{Q B first many:Nat}{closed:Bool}{ps:List AF}(w:World)(h:AY X Q B first many closed ps w) :Calls ZP 68 #[pointer (some ⟨Q,0,none⟩)] w λe w'=>e=.returned (int i64 (many:Int))/\Bt w w':=by
 have c0:w.cell? ⟨Q,2,none⟩=some (int i64 (many:Int)):=by simp[cell?,h.box]
 clear h;go_enter func68,ntmps68;go_wp2;go_ret;exact⟨rfl,AH _ _⟩
theorem ajo{X:Nat->Prop}{Q B first many:Nat}{closed:Bool}{ps:List AF}(w:World)(h:AY X Q B first many closed ps w) :Calls ZP 205 #[pointer (some ⟨Q,0,none⟩)] w λe w'=>e=.returned (int i64 ((ps.length-many:Nat):Int))/\Bt w w':=by
 have V:=AA (aec w h);clear h;go_enter func205,ntmps205
 go_wp2_with (go_at_call 246;refine V.out.mono ?_;rintro e N ⟨rfl,Z⟩;have U:=AA Z;clear Z)
 go_ret;exact⟨rfl,U.out⟩
theorem ahp{X:Nat->Prop}{Q B first many:Nat}{closed:Bool}{ps:List AF}(w:World)(h:AY X Q B first many closed ps w) :Calls ZP 245 #[pointer (some ⟨Q,0,none⟩)] w λe w'=>e=.returned (bool (!closed))/\AY X Q B first many true ps w'/\Chg X w w':=by
 have c3:w.cell? ⟨Q,3,none⟩=some (bool closed):=by simp[cell?,h.box]
 have I:w.frozen? ⟨Q,3,none⟩=false:=by simp[frozen?,h.box]
 obtain⟨V,Z⟩:=h.setC true;have J:=AA V;have N:=AA Z;have U:=AA h;clear h V Z
 cases closed with
 |true=>
  go_enter func245,ntmps245;go_wp2;go_ret;exact⟨rfl,U.out,Chg.refl _ _⟩
 |false=>
  go_enter func245,ntmps245;go_wp2;go_ret;exact⟨rfl,J.out,N.out⟩
theorem ak7{X:Nat->Prop}{Q B first many:Nat}{closed:Bool}{ps:List AF}(p:AF)(w:World)(h:AY X Q B first many closed ps w)(hm:many<ps.length) :Calls ZP 247 #[pointer (some ⟨Q,0,none⟩),.agg #[int i64 p.1,int i64 p.2]] w λe w'=>(∃v,e=.returned v)/\AY X Q B first (many+1) closed (ps.set ((first+many) % ps.length) p) w'/\Chg X w w':=by
 obtain⟨W,hW⟩:∃W,W=w.alloc (.cells #[int i64 p.1,int i64 p.2] 116):=⟨_,rfl⟩;have hB:Bt w W:=by rw[hW];exact AL _ _
 have Z:=h.below hB;have D:W.heap[w.heap.size]?=some (.cells #[int i64 p.1,int i64 p.2] 116 (0,0)):=by rw[hW];exact AT _ _
 have x0:W.cell? ⟨w.heap.size,0,none⟩=some (int i64 p.1):=by simp[cell?,D]
 have x1:W.cell? ⟨w.heap.size,1,none⟩=some (int i64 p.2):=by simp[cell?,D]
 have c0:W.cell? ⟨Q,0,none⟩=some (slice (some ⟨B,0,none⟩) ps.length ps.length):=by simp[cell?,Z.box]
 have c1:W.cell? ⟨Q,1,none⟩=some (int i64 (first:Int)):=by simp[cell?,Z.box]
 have c2:W.cell? ⟨Q,2,none⟩=some (int i64 (many:Int)):=by simp[cell?,Z.box]
 obtain⟨r1,r2,r3,r4⟩:=h.room;obtain⟨L,j⟩:∃L,ps.length=L:=⟨_,rfl⟩;have e1:IntKind.i64.wrap ((first:Int)+(many:Int))=((first+many:Nat):Int):=by rw[BK];omega
 have e2:((first+many:Nat):Int).tmod (L:Int)=(((first+many) % L:Nat):Int):=by rw[Jq om];simp
 have N:(first+many) % L<L:=Ek _ om;obtain⟨s,z⟩:∃s,first+many=s:=⟨_,rfl⟩;obtain⟨i,x⟩:∃i,s % L=i:=⟨_,rfl⟩;rw[j]at c0⊢;rw[z]at e1 e2 N⊢;rw[x]at e2 N⊢;have i0:(0:Int)<=(i:Int):=by omega
 have i1:(i:Int)<(L:Int):=by omega
 have z0:¬(L:Int)=0:=by omega
 have z1:¬L=0:=by omega
 obtain⟨q,y⟩:∃q,ps[i]?=some q:=⟨_,Ar om⟩;obtain⟨A,C⟩:=NO y;have d0:W.cell? ⟨B,i*2,none⟩=some (int i64 q.1):=by simp[cell?,Z.places];exact A
 have f0:W.frozen? ⟨B,i*2,none⟩=false:=by simp[frozen?,Z.places]
 have d1:W.cell? ⟨B,i*2+1,none⟩=some (int i64 q.2):=by simp[cell?,Z.places];exact C
 have f1:W.frozen? ⟨B,i*2+1,none⟩=false:=by simp[frozen?,Z.places]
 have I:AY X Q B first many closed ps W.drew:=Z.below (AN W 1);obtain⟨U,H⟩:=I.setP i p;obtain⟨V,J⟩:∃V,V=(AY.putW W B i p).drew:=⟨_,rfl⟩;have U:AY X Q B first many closed (ps.set i p) V:=by rw[J];exact U
 have H:Chg X W V:=by rw[J];exact(Chg.of_same (AN W 1)).then H
 have k2:V.cell? ⟨Q,2,none⟩=some (int i64 (many:Int)):=by simp[cell?,U.box]
 have l2:V.frozen? ⟨Q,2,none⟩=false:=by simp[frozen?,U.box]
 have ew:IntKind.i64.wrap ((many:Int)+1)=(many:Int)+1:=by rw[BK];omega
 obtain⟨s1,s2⟩:=U.setM (many+1) (by rw[BG];omega);have S1:=AA s1;have S2:=AA (((Chg.of_same hB).then H).then s2);unfold AY.putW at J;clear h Z D j z x y A C I U H s1 s2 r1 r2 r3 r4 hB;go_enter func247,ntmps247;go_upto_region 1 with fail
 rw[<-hW];clear hW
 go_region
 rw[<-J];clear J c0 c1 c2 d0 f0 x0 d1 f1 x1;go_wp2
 go_end0
 exact⟨⟨_,rfl⟩,S1.out,S2.out⟩
abbrev ByX(X:Nat->Prop)(w:World)(v:Value)(xs:List Int):Prop:=CO X w 5 1 v xs.length (xs.map (Value.int .u8))
structure BB(X:Nat->Prop)(lab:Nat->Nat)(B U D:Nat)(fv:Value)(dv:List Value)(size:Nat)(fr:List Int)(us:List Bool)(ds:La)(w:World):Prop where
 box:w.heap[B]?=some (.cells #[fv,int i64 (size:Int),slice (some ⟨U,0,none⟩) us.length us.length,slice (some ⟨D,0,none⟩) us.length us.length] 210 (0,0))
 used:w.heap[U]?=some (.cells (us.map bool).toArray 4 (0,0))
 data:w.heap[D]?=some (.cells dv.toArray 32 (0,0))
 inX:X B/\X U/\X D
 labs:lab B=1/\lab U=2/\lab D=3
 free:CO X w 3 1 fv fr.length (fr.map (int i64))/\∀g,fv.ownBlock=some g->lab g=4
 dl:dv.length=us.length/\ds.length=us.length
 rows:∀(i:Nat)(v:Value)(xs:List Int),dv[i]?=some v->ds[i]?=some xs->ByX X w v xs/\∀g,v.ownBlock=some g->lab g=5+i
section
variable {X Y:Nat->Prop}{lab:Nat->Nat}{B U D size:Nat}{fv:Value}{dv:List Value}{fr:List Int}{us:List Bool}{ds:La}{w w':World}
theorem BB.keep(h:BB X lab B U D fv dv size fr us ds w)(J:Chg Y w w')(N:∀k,k<w.heap.size->X k->¬Y k):BB X lab B U D fv dv size fr us ds w':=by have I:∀k o,w.heap[k]?=some o->X k->w'.heap[k]?=some o:=λk o hk V=>(J.block k (AD.1 hk).1 (N k (AD.1 hk).1 V)).trans hk;refine⟨I _ _ h.box h.inX.1,I _ _ h.used h.inX.2.1,I _ _ h.data h.inX.2.2,h.inX,h.labs,⟨h.free.1.keep J λg Z=>N g (h.free.1.lt g Z) (h.free.1.2 g Z),h.free.2⟩,h.dl,λi v xs C V=>?_⟩;obtain⟨H,A⟩:=h.rows i v xs C V;exact⟨H.keep J λg Z=>N g (H.lt g Z) (H.2 g Z),A⟩
theorem BB.wide(h:BB X lab B U D fv dv size fr us ds w)(Z:∀k,k<w.heap.size->X k->Y k):BB Y lab B U D fv dv size fr us ds w:=by refine⟨h.box,h.used,h.data,⟨Z _ (AD.1 h.box).1 h.inX.1,Z _ (AD.1 h.used).1 h.inX.2.1,Z _ (AD.1 h.data).1 h.inX.2.2⟩,h.labs,⟨h.free.1.wide Z,h.free.2⟩,h.dl,λi v xs N V=>?_⟩;obtain⟨I,J⟩:=h.rows i v xs N V;exact⟨I.wide Z,J⟩
theorem BB.setU(h:BB X lab B U D fv dv size fr us ds w)(n:Nat)(b:Bool):BB X lab B U D fv dv size fr (us.set n b) ds (w.setCell ⟨U,n,none⟩ (bool b))/\Chg X w (w.setCell ⟨U,n,none⟩ (bool b)):=by
 obtain⟨z,Z,A⟩:=h.labs;have hk:∀k,lab k≠2->(w.setCell ⟨U,n,none⟩ (bool b)).heap[k]?=w.heap[k]?:=λk hk=>AQ w ⟨U,n,none⟩ _ k λe=>hk (by rw[e];exact Z);have N:Chg (λk=>k=U) w (w.setCell ⟨U,n,none⟩ (bool b)):=(Chg.refl _ w).set rfl;refine⟨⟨?_,?_,(hk D om).trans h.data,h.inX,h.labs,⟨h.free.1.keep N λg V e=>?_,h.free.2⟩,by rw[BG];exact h.dl,λi v xs H I=>?_⟩,(Chg.refl X w).set h.inX.2.1⟩
 ·rw[BG];exact(hk B om).trans h.box
 ·have:=AJ (i:=n) h.used (bool b);rw[Fp]at this;rw[Is];exact this
 ·have:=h.free.2 g V;rw[e,Z]at this;omega
 ·obtain⟨C,J⟩:=h.rows i v xs H I;refine⟨C.keep N λg V e=>?_,J⟩;have:=J g V;rw[e,Z]at this;omega
theorem BB.setD(h:BB X lab B U D fv dv size fr us ds w)(n:Nat){v v':Value}{xs':List Int}{V:World}(hv:dv[n]?=some v)(hr:V.ownsRow 0 5 1 v' xs'.length (xs'.map (Value.int .u8)))(hg:Chg (λk=>v.ownBlock=some k) w V)(H:∀g,v'.ownBlock=some g->v.ownBlock=some g∨w.heap.size<=g) :BB (λk=>X k∨w.heap.size<=k) (λk=>if w.heap.size<=k then 5+n else lab k) B U D fv (dv.set n v') size fr us (ds.set n xs') (V.setCell ⟨D,n,none⟩ v')/\Chg X w (V.setCell ⟨D,n,none⟩ v')/\V.frozen? ⟨D,n,none⟩=false/\(∃u,V.cell? ⟨D,n,none⟩=some u):=by
 obtain⟨l1,l2,l3⟩:=h.labs;have a8:n<dv.length:=(AP.1 hv).1;have A:n<ds.length:=by have:=h.dl;omega
 obtain⟨x0,a6⟩:∃x,ds[n]?=some x:=⟨ds[n],Ar A⟩;obtain⟨r1,r2⟩:=h.rows n v x0 hv a6;have a2:=(AD.1 h.box).1;have j:=(AD.1 h.used).1;have a1:=(AD.1 h.data).1;have s:∀k,k<w.heap.size->lab k≠5+n->V.heap[k]?=w.heap[k]?:=λk hk hl=>hg.block k hk λe=>hl (r2 k e);have C:V.heap[D]?=some (.cells dv.toArray 32 (0,0)):=(s D a1 om).trans h.data;have hk:∀k,k≠D->(V.setCell ⟨D,n,none⟩ v').heap[k]?=V.heap[k]?:=λk hk=>AQ V ⟨D,n,none⟩ _ k hk;have I:∀k,k<w.heap.size->lab k≠5+n->lab k≠3->(V.setCell ⟨D,n,none⟩ v').heap[k]?=w.heap[k]?:=λk h1 h2 h3=>(hk k λe=>h3 (by rw[e];exact l3)).trans (s k h1 h2);have N:∀k,k<w.heap.size->(if w.heap.size<=k then 5+n else lab k)=lab k:=λk hk=>Lb om;have y:Chg (λk=>lab k=5+n∨lab k=3) w (V.setCell ⟨D,n,none⟩ v'):=(hg.mono λk _ e=>.inl (r2 k e)).set (.inr l3);refine⟨⟨(I B a2 om om).trans h.box,(I U j om om).trans h.used,?_,⟨.inl h.inX.1,.inl h.inX.2.1,.inl h.inX.2.2⟩,⟨by rw[N B a2];exact l1,by rw[N U j];exact l2,by rw[N D a1];exact l3⟩,⟨(h.free.1.keep y λg Z e=>?_).wide λk _ J=>.inl J,λg Z=>?_⟩,by rw[BG,BG];exact h.dl,λi u xs hu J=>?_⟩,?_,?_,?_⟩
 ·have:=AJ (i:=n) C v'
  rwa[Fp]at this
 ·have:=h.free.2 g Z;omega
 ·rw[N g (h.free.1.lt g Z)];exact h.free.2 g Z
 ·by_cases z:i=n
  ·subst z;rw[FU a8]at hu;rw[FU A]at J
   cases AK hu
   cases AK J
   have a7:v'.ownBlock≠some D:=λe=>by
    rcases H D e with e2|e2
    ·have:=r2 D e2;omega
    ·omega
   refine⟨⟨Fu hr λg Z=>hk g λe=>a7 (by rw[<-e];exact Z),λg Z=>?_⟩,λg Z=>?_⟩
   ·rcases H g Z with e|e
    ·exact .inl (r1.2 g e)
    ·exact .inr e
   ·rcases H g Z with e|e
    ·rw[N g (r1.lt g e)];exact r2 g e
    ·exact Lc e
  ·rw[FH (λe=>z e.symm)]at hu J;obtain⟨g1,g2⟩:=h.rows i u xs hu J;refine⟨(g1.keep y λg Z e=>?_).wide λk _ J=>.inl J,λg Z=>?_⟩
   ·have:=g2 g Z;omega
   ·rw[N g (g1.lt g Z)];exact g2 g Z
 ·exact(hg.mono λk _ e=>r1.2 k e).set h.inX.2.2
 ·simp[frozen?,C]
 ·exact⟨v,by simp[cell?,C];exact hv⟩
theorem BB.setF(h:BB X lab B U D fv dv size fr us ds w){fv':Value}{fr':List Int}{V:World}(hr:V.ownsRow 0 3 1 fv' fr'.length (fr'.map (int i64)))(hg:Chg (λk=>fv.ownBlock=some k) w V)(I:∀g,fv'.ownBlock=some g->fv.ownBlock=some g∨w.heap.size<=g) :BB (λk=>X k∨w.heap.size<=k) (λk=>if w.heap.size<=k then 4 else lab k) B U D fv' dv size fr' us ds (V.setCell ⟨B,0,none⟩ fv')/\Chg X w (V.setCell ⟨B,0,none⟩ fv')/\V.frozen? ⟨B,0,none⟩=false/\(∃u,V.cell? ⟨B,0,none⟩=some u):=by
 obtain⟨x,l2,l3⟩:=h.labs;have y:=(AD.1 h.box).1;have A:=(AD.1 h.used).1;have z:=(AD.1 h.data).1;have C:∀k,k<w.heap.size->lab k≠4->V.heap[k]?=w.heap[k]?:=λk hk hl=>hg.block k hk λe=>hl (h.free.2 k e);have H:=(C B y om).trans h.box;have hk:∀k,k≠B->(V.setCell ⟨B,0,none⟩ fv').heap[k]?=V.heap[k]?:=λk hk=>AQ V ⟨B,0,none⟩ _ k hk;have J:∀k,k<w.heap.size->lab k≠4->lab k≠1->(V.setCell ⟨B,0,none⟩ fv').heap[k]?=w.heap[k]?:=λk h1 h2 h3=>(hk k λe=>h3 (by rw[e];exact x)).trans (C k h1 h2);have N:∀k,k<w.heap.size->(if w.heap.size<=k then 4 else lab k)=lab k:=λk hk=>Lb om;have a1:Chg (λk=>lab k=4∨lab k=1) w (V.setCell ⟨B,0,none⟩ fv'):=(hg.mono λk _ e=>.inl (h.free.2 k e)).set (.inr x);have j:fv'.ownBlock≠some B:=λe=>by
  rcases I B e with e2|e2
  ·have:=h.free.2 B e2;omega
  ·omega
 refine⟨⟨AJ (i:=0) H fv',(J U A om om).trans h.used,(J D z om om).trans h.data,⟨.inl h.inX.1,.inl h.inX.2.1,.inl h.inX.2.2⟩,⟨by rw[N B y];exact x,by rw[N U A];exact l2,by rw[N D z];exact l3⟩,⟨⟨Fu hr λg Z=>hk g λe=>j (by rw[<-e];exact Z),λg Z=>?_⟩,λg Z=>?_⟩,h.dl,λi u xs hu s=>?_⟩,?_,?_,?_⟩
 ·rcases I g Z with e|e
  ·exact .inl (h.free.1.2 g e)
  ·exact .inr e
 ·rcases I g Z with e|e
  ·rw[N g (h.free.1.lt g e)];exact h.free.2 g e
  ·exact Lc e
 ·obtain⟨g1,g2⟩:=h.rows i u xs hu s;refine⟨(g1.keep a1 λg Z e=>?_).wide λk _ s=>.inl s,λg Z=>?_⟩
  ·have:=g2 g Z;omega
  ·rw[N g (g1.lt g Z)];exact g2 g Z
 ·exact(hg.mono λk _ e=>h.free.1.2 k e).set h.inX.1
 ·simp[frozen?,H]
 ·exact⟨fv,by simp[cell?,H]⟩
end
theorem adY:(ZP.info? 3).map (λi=>(i.zero,i.size,i.bytes))=some (some (int i64 0),1,8):=by kernel_rfl
def Cr(us:List Bool)(n:Int):Bool:=decide (0<=n)&&us.getD n.toNat false
theorem aaR{X:Nat->Prop}{J:Nat->Nat}{B U D size:Nat}{C:Value}{A:List Value}{fr:List Int}{us:List Bool}{ds:La}(n:Int)(w:World)(h:BB X J B U D C A size fr us ds w) :Calls ZP 233 #[pointer (some ⟨B,0,none⟩),int i64 n] w λe w'=>e=.returned (bool (Cr us n))/\Bt w w':=by
 have c2:w.cell? ⟨B,2,none⟩=some (slice (some ⟨U,0,none⟩) us.length us.length):=by simp[cell?,h.box]
 have HD:=AA (λq=>AN w q)
 by_cases h0:0<=n
 ·obtain⟨k,rfl⟩:=Mb h0;have x:decide ((k:Int)>=0)=true:=by simp
  have V:decide ((0:Int)<=(k:Int))=true:=by simp
  by_cases Y:k<us.length
  ·have z:decide ((k:Int)<(us.length:Int))=true:=by simp;omega
   have I:decide (k<us.length)=true:=by simp;omega
   have N:us[k]?=some us[k]:=Ar Y;obtain⟨y,H⟩:∃y,us[k]=y:=⟨_,rfl⟩;rw[H]at N;have s:w.cell? ⟨U,k,none⟩=some (bool y):=by simp[cell?,h.used,N]
   have Z:Cr us (k:Int)=y:=by unfold Cr;rw[Aa,DZ,N];simp
   have i0:(0:Int)<=(k:Int):=by omega
   have j:(k:Int)<(us.length:Int):=by omega
   rw[Z];clear h Z N H h0 Y;go_enter func233,ntmps233;go_wp2;go_ret;exact⟨rfl,AH _ _⟩
  ·have z:decide ((k:Int)<(us.length:Int))=false:=by simp;omega
   have I:decide (k<us.length)=false:=by simp;omega
   have Z:Cr us (k:Int)=false:=by unfold Cr;rw[Aa,DZ,GT om];simp
   rw[Z];clear h Z h0 Y;go_enter func233,ntmps233;go_wp2;go_ret;exact⟨rfl,AH _ _⟩
 ·have x:decide (n>=0)=false:=by simp;omega
  have V:decide (0<=n)=false:=by simp;omega
  have Z:Cr us n=false:=by unfold Cr;rw[V];rfl
  rw[Z];clear h Z h0;go_enter func233,ntmps233;go_wp2;go_ret;exact⟨rfl,AH _ _⟩
theorem an8{w:World}{e:TypeId}{a:Option Addr}{n c:Nat}{xs:List Value}{x:Value}(h:w.ownsRow 0 e 1 (slice a (n+1) c) (n+1) (xs++[x])):w.ownsRow 0 e 1 (slice a n c) n xs/\∃g,a=some ⟨g,0,none⟩/\w.cell? ⟨g,n,none⟩=some x:=by
 have Y:xs.length=n:=by have:=h.1;simp at this;omega
 rcases h.2 with⟨_,h0⟩|⟨g,cap,Z,X,h1,h2,h3,h4,h5,h6⟩
 ·omega
 ·cases X
  refine⟨⟨by omega,.inr ⟨g,c,Z,rfl,h1,h2,by omega,h4,h5,?_⟩⟩,g,rfl,?_⟩
  ·have:=congrArg (List.take (n*1)) h6;rw[List.take_take,Nat.min_eq_left om,List.take_left' om]at this;exact this
  ·simp only[cell?,h2];have:Z[n]?=some x:=by
    have:=congrArg (λl=>l[n]?) h6;rw[FT,Lc om,DY om,Y,FG]at this
    simpa using this
   simpa using this
def api(X:Nat->Prop)(Y:Nat->Nat)(B U D size:Nat)(V:List Value)(fr:List Int)(us:List Bool)(ds:La)(w:World)(e:Ending)(w':World):Prop:=
 e=.returned (.tuple #[int i64 (fr.getLast?.getD 0),bool (!fr.isEmpty)])/\(∃fv' Z,BB (λk=>X k∨w.heap.size<=k) Z B U D fv' V size fr.dropLast us ds w')/\Chg X w w'
theorem aig{X:Nat->Prop}{N:Nat->Nat}{B U D size:Nat}{fv:Value}{s:List Value}{fr:List Int}{us:List Bool}{ds:La}(w:World)(h:BB X N B U D fv s size fr us ds w)(I:fr.length<=1000000) :Calls ZP 232 #[pointer (some ⟨B,0,none⟩)] w (api X N B U D size s fr us ds w):=by
 obtain⟨a,c,rfl,J,_⟩:=SlK.own h.free.1.1;have c0:w.cell? ⟨B,0,none⟩=some (slice a fr.length c):=by simp[cell?,h.box]
 have HH:=AA h
 rcases List.eq_nil_or_concat fr with rfl|⟨l,x,rfl⟩
 ·clear h I;go_enter func232,ntmps232;go_wp2;go_ret2;exact⟨rfl,⟨_,N,HH.out.wide λ_ _ hx=>.inl hx⟩,Chg.refl _ _⟩
 ·have Z:=h.free.1.1;rw[List.concat_eq_append]at *;have Y:(l++[x]).length=l.length+1:=by simp
  rw[Y,Aj]at Z;rw[Y]at c0 I J;obtain⟨A,g,rfl,j⟩:=an8 Z;obtain⟨m,z⟩:∃m,l.length=m:=⟨_,rfl⟩;have e0:decide (((m+1:Nat):Int)=0)=false:=by simp;omega
  have e1:(((m+1:Nat):Int)==0)=false:=by simp;omega
  have e2:IntKind.i64.wrap (((m+1:Nat):Int)-1)=(m:Int):=by rw[BK];omega
  obtain⟨C,H,q3,_⟩:=h.setF (fv':=slice (some ⟨g,0,none⟩) l.length c) (fr':=l) (V:=w) A (Chg.refl _ _) (λk e=>.inl e);rw[z]at C H c0 j J I;obtain⟨T,y⟩:∃T,m+1=T:=⟨_,rfl⟩;rw[y]at e0 e1 e2 c0 J I;have i0:(0:Int)<=(m:Int):=by omega
  have i1:(m:Int)<(T:Int):=by omega
  have i2:(m:Int)<=(c:Int):=by omega
  have i3:m<=c:=by omega
  have Q1:=AA C;have Q2:=AA H;clear h Z A C H z y Y;go_enter func232,ntmps232;go_wp2;go_ret2;refine⟨by simp,⟨_,_,by rw[LJ];exact Q1.out⟩,Q2.out⟩
theorem abn{X:Nat->Prop}{s:Nat->Nat}{B U D size:Nat}{fv:Value}{dv:List Value}{fr:List Int}{us:List Bool}{ds:La}(x:Int)(w:World)(h:BB X s B U D fv dv size fr us ds w)(hn:fr.length<=1000000) :Calls ZP 138 #[pointer (some ⟨B,0,none⟩),int i64 x] w λe w'=>(∃v,e=.returned v)/\(∃fv' Z,BB (λk=>X k∨w.heap.size<=k) Z B U D fv' dv size (fr++[x]) us ds w')/\Chg X w w':=by
 obtain⟨i0,hi,a6,a2,j⟩:=Ve adY;obtain⟨a,c,rfl,a8,_⟩:=SlK.own h.free.1.1;have c0:w.cell? ⟨B,0,none⟩=some (slice a fr.length c):=by simp[cell?,h.box]
 have C:=AL w (.cells #[int i64 x] 3);have N:=DJ h.free.1.1 C;have I:SlK 1 (w.alloc (.cells #[int i64 x] 3)) (some ⟨w.heap.size,0,none⟩) 1 [int i64 x]:=by
  have hx:(w.alloc (.cells #[int i64 x] 3)).heap[w.heap.size]?=some (.cells #[int i64 x] 3 (0,0)):=AT _ _;refine⟨rfl,.inr ⟨_,0,rfl,by simp,λi u hu=>?_⟩⟩;have e:(w.alloc (.cells #[int i64 x] 3)).cell? ⟨w.heap.size,0+i,none⟩=(#[int i64 x]:Array Value)[0+i]?:=by simp only[cell?,hx];simp
  rw[e,DD];show(List.toArray [int i64 x])[i]?=some u;rw[Dy];exact hu
 have HH:=AA h;have HF:Hid (∀Y J,J.ownsRow 0 3 1 Y (fr.length+1) (fr.map (Value.int .i64)++[.int .i64 x])->(w.alloc (.cells #[.int .i64 x] 3)).grownBy J (Value.slice a fr.length c).ownBlock->(Y.ownBlock=(Value.slice a fr.length c).ownBlock∨Y.ownBlock=some (w.alloc (.cells #[.int .i64 x] 3)).heap.size)->
   (∃Z,BB (λk=>X k∨w.heap.size<=k) Z B U D Y dv size (fr++[x]) us ds (J.setCell ⟨B,0,none⟩ Y))/\Chg X w (J.setCell ⟨B,0,none⟩ Y)/\J.frozen? ⟨B,0,none⟩=false/\(∃u,J.cell? ⟨B,0,none⟩=some u)/\∃y c1,Y=slice y (fr.length+1) c1):=λY J ho hg aa=>by
  obtain⟨q1,q2,q3,q4⟩:=h.setF (fv':=Y) (fr':=fr++[x]) (V:=J) (by rw[List.length_append,Aj];exact ho) ((Chg.of_same C).grown hg λg e _=>e) (λg e=>by
   rcases aa with e2|e2
   ·rw[e2]at e;exact .inl e
   ·rw[e2]at e;have:(w.alloc (.cells #[int i64 x] 3)).heap.size=w.heap.size+1:=by simp
    have:=AK e
    right
    omega)
  obtain⟨y,c1,e,_,_⟩:=SlK.own ho;exact⟨⟨_,q1⟩,q2,q3,q4,y,c1,e⟩
 clear h a8 C;go_enter func138,ntmps138
 go_wp2_with (at_builtin;refine JA rfl _ _ 30 rfl 0 3 i0 (.int .i64 0) 1 8 underlying30 hi a6 a2 j rfl (by decide) _ fr.length (fr.map (Value.int .i64)) rfl N (some ⟨w.heap.size,0,none⟩) 1 1 [.int .i64 x] rfl I (by simp[Value.oneCell']) (by unfold maxLen;omega) om (AR _) ?_;intro Y J A z H;obtain⟨⟨Z,g1⟩,g2,g3,⟨u,g4⟩,y,c1,a7⟩:=HF.out Y J A z H;subst a7;have G1:=AA g1;have G2:=AA g2;clear A z H N I g1 g2)
 go_end0
 exact⟨⟨_,rfl⟩,⟨_,_,G1.out⟩,G2.out⟩
end Go.Proofs.YtaamacoicojhnaaGreat
