/- Proofs over the given program, part 8. -/
import Derived.Test.YtaamacoicojhnaaGreatZO7
set_option linter.unusedVariables false
set_option linter.unusedSimpArgs false
set_option maxRecDepth 100000
set_option maxHeartbeats 16000000
open Go.Proofs.Tryz
open Go.Proofs.Tryz renaming prog→ZP
open Go.World(cell? frozen?)
open Go.Value(int slice pointer bool)
open Go.IntKind(i64)
namespace Go.Proofs.YtaamacoicojhnaaGreat
open Go.RowKit Go.Sort
section
open Go Go.RowKit Go.Sort
theorem aby{p:Nat}:∀(Z:List (Nat×Nat))(r:List Int),(∀q∈Z,q.1≠p)->(DV r Z)[p]?=r[p]?
 |[],r,_=>rfl
 |k::Z,r,h=>by show(DV (r.set k.1 _) Z)[p]?=_;rw[aby Z _ (λq Y=>h q (by simp[Y])),FH (h k sm)]
theorem acG{p k:Nat}:∀(Y:List (Nat×Nat))(r:List Int),(∀q∈Y,q.1=p->q.2=k)->p<r.length->((∃q∈Y,q.1=p)∨r[p]?=some (k:Int))->(DV r Y)[p]?=some (k:Int)
 |[],r,_,_,h=>by
  rcases h with⟨q,Z,_⟩|h
  ·cases Z
  ·exact h
 |a::Y,r,h,hp,h2=>by
  show(DV (r.set a.1 (a.2:Int)) Y)[p]?=_;refine acG Y _ (λq Z=>h q (by simp[Z])) (by simpa using hp) ?_
  by_cases e:a.1=p
  ·right
   rw[e,FU hp,h a sm e]
  ·rcases h2 with⟨q,Z,X⟩|h2
   ·rcases CR.1 Z with rfl|Z
    ·exact absurd X e
    ·exact .inl ⟨q,Z,X⟩
   ·right
    rw[FH e];exact h2
def FX(F:List Int)(many j:Nat):List Int:=(F.drop (j*many)).take many
theorem LZ{F:List Int}{many j p:Nat}(Z:p<many):(FX F many j)[p]?=F[j*many+p]?:=by unfold FX;rw[MW Z,Hm]
theorem abe{F:List Int}{many n j:Nat}(Y:F.length=many*n)(Z:j<n):(FX F many j).length=many:=by have:=IE (many:=many) Z;unfold FX;simp;omega
theorem an0{F r:List Int}{P q:Nat}(h:P+r.length<=F.length)(Z:q<P∨P+r.length<=q):(spl F P r)[q]?=F[q]?:=by
 have Y:(F.take P).length=P:=by simp;omega
 unfold spl
 rcases Z with Z|Z
 ·rw[CE,By om,MW Z]
 ·rw[DY (by rw[List.length_append,Y];exact Z),List.length_append,Y,Hm];congr 1;omega
theorem ahm{F r:List Int}{many n i:Nat}(V:F.length=many*n)(Z:i<n)(U:r.length=many):FX (spl F (i*many) r) many i=r:=by
 have Y:=IE (many:=many) Z
 apply Hn
 intro p
 by_cases X:p<many
 ·rw[LZ X,Ok om om]
 ·have h1:=abe (F:=spl F (i*many) r) (many:=many) (n:=n) (by rw[Oj om];exact V) Z;rw[GT om,GT om]
theorem abS{F r:List Int}{many n i j:Nat}(U:F.length=many*n)(N:i<n)(X:j<n)(J:r.length=many)(Z:j≠i):FX (spl F (i*many) r) many j=FX F many j:=by
 have V:=IE (many:=many) N
 apply Hn
 intro p
 by_cases Y:p<many
 ·rw[LZ Y,LZ Y];refine an0 om ?_
  rcases Nat.lt_or_gt_of_ne Z with h|h
  ·left
   have:=IO many (show j+1<=i from h);rw[Nat.succ_mul]at this;omega
  ·right
   have:=IO many (show i+1<=j from h);rw[Nat.succ_mul]at this;omega
 ·have h1:=abe (F:=spl F (i*many) r) (many:=many) (n:=n) (by rw[Oj om];exact U) X;have h2:=abe (F:=F) (many:=many) U X;rw[GT om,GT om]
def JV(ws:Lq)(x:List Int)(c:Int):Int:=CW (AB ws) (lsf (AB ws) (x++[c]))
theorem Lp{ws:Lq}{x:List Int}{c:Int}(h:x++[c]∈AB ws):De ws c:=by
 rcases(DT ws).1 h with h|⟨w,Z,k,_,_,Y⟩
 ·simp at h
 ·exact⟨w,Z,EG (i:=k) (by rw[<-Y];simp)⟩
theorem ajg{fold:Bool}{ws:Lq}(o:Fe fold ws)(B:∀x,De ws x->0<=x/\x<=255){i:Nat}{x:List Int}(D:(AB ws)[i]?=some x){q:Nat×Nat} :q∈Ec (BF fold ws) (AG ws) (i:Int) (AB ws).length↔∃(c j:Nat),(AB ws)[j]?=some (x++[(c:Int)])/\q=(DA (inB fold ws) fold c,j):=by
 have Y:=(CL ws).nodup;have X:∀c:Nat,De ws (c:Int)->(BF fold ws)[c]?=some (DA (inB fold ws) fold c:Int):=λc C=>ag8 (IF o) (Kh C) (by have:=B _ C;omega);unfold Ec;rw[Be]
 constructor
 ·rintro⟨⟨b,j⟩,v,rfl⟩;obtain⟨h1,h2,h3,h4⟩:=ac0.1 v;dsimp only at h1 h2 h3 h4;obtain⟨y,Z⟩:∃y,(AB ws)[j]?=some y:=⟨(AB ws)[j]'h2,by simp⟩;obtain⟨u1,N,_⟩:=JC Z;rw[u1]at h3;rw[N,CG]at h4;have J:y≠[]:=λe2=>by have:=(EM Z).2 e2;omega
  obtain⟨k,hk⟩:=DR (LR (AX Z));have A:=CV Y hk;have H:k=i:=by have:=AK h3;omega
  subst H;rw[D]at hk;have I:y=x++[b]:=by rw[AK hk,h4];exact Om J
  subst I;have V:=Lp (AX Z);have a1:=B _ V;obtain⟨c,rfl⟩:∃c:Nat,b=(c:Int):=⟨b.toNat,by omega⟩;refine⟨c,j,Z,?_⟩;rw[Aa,X c V,CG,Aa]
 ·rintro⟨c,j,U,rfl⟩;have V:=Lp (AX U);refine⟨((c:Int),j),ac0.2 ?_,?_⟩
  ·obtain⟨u1,N,_⟩:=JC U;rw[u1,N,LJ];have s:=(AP.1 U).1;refine⟨?_,s,?_,?_⟩
   ·have h0:j≠0:=λe=>by have:=(EM U).1 e;simp at this
    show 1<=j;omega
   ·rw[CV Y D]
   ·show(c:Int)=_;simp[DU]
  ·dsimp only;rw[Aa,X c V,CG,Aa]
def anY(fold:Bool)(ws:Lq)(r:List Int)(x:List Int):Prop:=
 r.length=Ah fold ws/\r[0]?=some 0/\∀c:Nat,De ws (c:Int)->r[DA (inB fold ws) fold c]?=some (JV ws x (c:Int))
theorem agJ{fold:Bool}{ws:Lq}(J:Fe fold ws)(C:∀x,De ws x->0<=x/\x<=255){i:Nat}{x:List Int}(B:(AB ws)[i]?=some x){r:List Int}(A:r.length=Ah fold ws)(h0:r[0]?=some 0)
  (Y:∀c:Nat,De ws (c:Int)->x++[(c:Int)] ∉ AB ws->r[DA (inB fold ws) fold c]?=some (JV ws x (c:Int))) :
  anY fold ws (DV r (Ec (BF fold ws) (AG ws) (i:Int) (AB ws).length)) x:=by
 have N:=@ajg fold ws J C i x B;refine⟨by rw[aaW];exact A,?_,λc V=>?_⟩
 ·rw[aby]
  ·exact h0
  ·intro q X e;obtain⟨d,j,_,rfl⟩:=N.1 X;have:=alr (inB fold ws) fold d;dsimp only at e;omega
 ·have y:DA (inB fold ws) fold c<Ah fold ws:=ME (IF J) (Kh V) (by have:=C _ V;omega)
  by_cases U:x++[(c:Int)]∈AB ws
  ·obtain⟨j,I⟩:=DR U;have H:JV ws x (c:Int)=(j:Int):=by
    unfold JV;rw[Lu U,CV (CL ws).nodup I]
   rw[H];refine acG _ _ (λq X e=>?_) om (.inl ⟨_,N.2 ⟨c,j,I,rfl⟩,rfl⟩);obtain⟨d,k,hk,rfl⟩:=N.1 X;have D:=Lp (AX hk);have Z:=agV J D V e;subst Z;exact alO hk I
  ·rw[aby]
   ·exact Y c V U
   ·intro q X e;obtain⟨d,k,hk,rfl⟩:=N.1 X;have D:=Lp (AX hk);have Z:=agV J D V e;subst Z;exact U (AX hk)
def Nv(fold:Bool)(ws:Lq)(F:List Int)(i:Nat):Prop:=
 F.length=Ah fold ws*(AB ws).length/\(∀j:Nat,j<i->∀x,(AB ws)[j]?=some x->anY fold ws (FX F (Ah fold ws) j) x)/\∀j:Nat,i<=j->j<(AB ws).length->FX F (Ah fold ws) j=List.replicate (Ah fold ws) 0
theorem OY(ws:Lq):(AG ws).up.length=(AB ws).length:=by simp[AG]
theorem ada{ws:Lq}{i:Nat}{x:List Int}(Z:(AB ws)[i]?=some x)(h0:i≠0):∃k:Nat,(Bo ws)[i]?=some (k:Int)/\k<i/\(AB ws)[k]?=some (EC (AB ws) x):=by obtain⟨k,h1,h2⟩:=acQ (ws:=ws) x;refine⟨k,by rw[JP Z,h1],?_,h2⟩;exact afH Z h2 (Lx (λe=>h0 ((EM Z).2 e)))
theorem amk{fold:Bool}{ws:Lq}(o:Fe fold ws)(hb:∀x,De ws x->0<=x/\x<=255){F:List Int}{i:Nat}(J:i<(AB ws).length)(h:Nv fold ws F i) :Nv fold ws (Kn (BF fold ws) (AG ws) (Bo ws) F (Ah fold ws) i) (i+1):=by
 obtain⟨C,V,Z⟩:=h;obtain⟨x,X⟩:∃x,(AB ws)[i]?=some x:=⟨(AB ws)[i],by simp⟩;have a2:1<=Ah fold ws:=(Hb _ _ _).1;have hl:i≠0->∃k:Nat,(Bo ws)[i]?=some (k:Int)/\k<(AB ws).length:=λh0=>by obtain⟨k,h1,h2,_⟩:=ada X h0;exact⟨k,h1,by omega⟩
 have Y:=adR (lk:=Bo ws) C J hl;have D:anY fold ws (DV (Hd F (Ah fold ws) i (Bo ws)) (Ec (BF fold ws) (AG ws) (i:Int) (AB ws).length)) x:=by
  by_cases h0:i=0
  ·subst h0;have v:=(EM X).1 rfl;subst v;have U:Hd F (Ah fold ws) 0 (Bo ws)=List.replicate (Ah fold ws) 0:=by
    rw[<-Z 0 (AC _) J];unfold Hd FX;rw[Vb rfl]
   rw[U]at Y⊢;refine agJ o hb X Y (by rw[Jo,Vb om]) (λc B I=>?_);have s:DA (inB fold ws) fold c<Ah fold ws:=ME (IF o) (Kh B) (by have:=hb _ B;omega);rw[Jo,Vb s];unfold JV;rw[Av]at I⊢;rw[ady I,CV (CL ws).nodup X]
   rfl
  ·obtain⟨k,h1,h2,h3⟩:=ada X h0;have U:Hd F (Ah fold ws) i (Bo ws)=FX F (Ah fold ws) k:=by
    unfold Hd FX;rw[Va h0,h1]
    rfl
   rw[U]at Y⊢;obtain⟨g1,g2,g3⟩:=V k h2 _ h3;refine agJ o hb X Y g2 (λc B I=>?_);rw[g3 c B];unfold JV EC;rw[<-Ng (KQ ws)]
   cases x with
   |nil=>exact absurd ((EM X).2 rfl) h0
   |cons a t=>
    conv=>rhs;rw[CT];unfold lsf
    rw[CT]at I;rw[Va I]
    rfl
 unfold Kn;rw[OY];have N:=D.1;have a1:=IE (many:=Ah fold ws) J;refine⟨by rw[Oj om];exact C,λj hj y A=>?_,λj hj H=>?_⟩
 ·by_cases e:j=i
  ·subst e;rw[ahm C J N];rw[X]at A;rw[<-AK A];exact D
  ·rw[abS C J om N e];exact V j om y A
 ·rw[abS C J H N om];exact Z j om H
theorem alc(fold:Bool)(ws:Lq):Nv fold ws (List.replicate (Ah fold ws*(AB ws).length) 0) 0:=by refine⟨by simp,λj Z=>absurd Z (Nat.not_lt_zero _),λj _ Z=>?_⟩;have Y:=IE (many:=Ah fold ws) Z;unfold FX;rw[List.drop_replicate,List.take_replicate];congr 1;omega
def IR(fold:Bool)(ws:Lq):Nat->List Int
 |0=>List.replicate (Ah fold ws*(AB ws).length) 0
 |i+1=>Kn (BF fold ws) (AG ws) (Bo ws) (IR fold ws i) (Ah fold ws) i
theorem Mr{fold:Bool}{ws:Lq}(Z:Fe fold ws)(Y:∀x,De ws x->0<=x/\x<=255):∀{i:Nat},i<=(AB ws).length->Nv fold ws (IR fold ws i) i
 |0,_=>alc fold ws
 |i+1,h=>amk Z Y h (Mr Z Y om)
def FN(fold:Bool)(ws:Lq):List Int:=IR fold ws (AB ws).length
theorem aoy{fold:Bool}{ws:Lq}(V:Fe fold ws)(U:∀x,De ws x->0<=x/\x<=255){j:Nat}{x:List Int}(X:(AB ws)[j]?=some x) :(FN fold ws)[j*Ah fold ws]?=some 0/\∀c:Nat,De ws (c:Int)->(FN fold ws)[j*Ah fold ws+DA (inB fold ws) fold c]?=some (JV ws x (c:Int)):=by
 have J:=(AP.1 X).1;obtain⟨_,h1,_⟩:=Mr V U (AC (AB ws).length);obtain⟨h2,h3,h4⟩:=h1 j J x X;have N:1<=Ah fold ws:=(Hb _ _ _).1;refine⟨?_,λc Y=>?_⟩
 ·rw[LZ om]at h3;exact h3
 ·have h5:=h4 c Y;have Z:DA (inB fold ws) fold c<Ah fold ws:=ME (IF V) (Kh Y) (by have:=U _ Y;omega);rw[LZ Z]at h5;exact h5
end
def dvC(L:List Int)(m:Int)(row:Value):List Value:=(L.map (int i64)++[int i64 m])++[row]
structure Dv(W:World)(B:Nat)(L:List Int)(m:Int)(row:Value):Prop where
 box:W.heap[B]?=some (.cells (dvC L m row).toArray 146 (0,0))
 len:L.length=256
theorem Dv.lt{W:World}{B:Nat}{L:List Int}{m:Int}{row:Value}(h:Dv W B L m row):B<W.heap.size:=(AD.1 h.box).1
theorem Dv.below{W V:World}{B:Nat}{L:List Int}{m:Int}{row:Value}(h:Dv W B L m row)(Z:Br W V):Dv V B L m row:=⟨(Z.block B h.lt).trans h.box,h.len⟩
theorem Dv.cells{W:World}{B:Nat}{L:List Int}{m:Int}{row:Value}(h:Dv W B L m row):W.cell? ⟨B,256,none⟩=some (int i64 m)/\W.cell? ⟨B,257,none⟩=some row:=by
 have Z:=h.len;have Y:(dvC L m row)[256]?=some (int i64 m):=by unfold dvC;rw[CE,DY (by simp[Z])];simp[Z]
 have e2:(dvC L m row)[257]?=some row:=by unfold dvC;rw[DY (by simp[Z])];simp[Z]
 simp only[cell?,h.box];simp[Y,e2]
theorem Dv.new(w:World)(L:List Int)(m:Int)(row:Value)(Z:L.length=256):Dv (w.alloc (.cells (dvC L m row).toArray 146)) w.heap.size L m row:=⟨((Bx.nil _ w).snoc (.cells (dvC L m row).toArray 146) rfl) 0 _ rfl,Z⟩
def Hu(m:Int)(n:Nat):Int:=if m<1 then 0 else(n:Int) / m
theorem ab7(L:List Int)(m:Int)(a:Option Addr)(n c:Nat)(w:World)(B:L.length=256)(C:n<=1000000000000) :Calls ZP 89 #[.agg (dvC L m (slice a n c)).toArray] w λe w'=>e=.returned (int i64 (Hu m n))/\Br w w':=by
 have J:=Dv.new w L m (slice a n c) B;have hB:Br w (w.alloc (.cells (dvC L m (slice a n c)).toArray 146)):=AL _ _;obtain⟨W,hW⟩:∃W,W=w.alloc (.cells (dvC L m (slice a n c)).toArray 146):=⟨_,rfl⟩;rw[<-hW]at J hB;obtain⟨s1,s2⟩:=J.cells;obtain⟨A,D⟩:∃A,(dvC L m (slice a n c)).toArray=A:=⟨_,rfl⟩;rw[D]at hW⊢;clear D J
 by_cases Z:m<1
 ·have y:decide (m<1)=true:=by simpa using Z
  have Y:Hu m n=0:=by unfold Hu;rw[Vb Z]
  rw[Y];clear Y Z;go_enter func89,ntmps89;go_upto_region 1 with fail
  rw[<-hW];clear hW
  go_wp2_with fail
  go_ret;exact⟨rfl,hB⟩
 ·have y:decide (m<1)=false:=by simpa using Z
  obtain⟨k,rfl⟩:∃k:Nat,m=(k:Int):=⟨m.toNat,by omega⟩;have Y:Hu k n=((n / k:Nat):Int):=by unfold Hu;rw[Va Z];exact(Int.natCast_ediv n k).symm
  rw[Y];have N:¬((k:Int)=0):=by omega
  have U:((k:Int)==0)=false:=by simp;omega
  have H:(n:Int).tdiv (k:Int)=((n / k:Nat):Int):=(Int.ofNat_tdiv n k).symm;have V:n / k<=n:=Nat.div_le_self _ _;have X:wrap64 ((n:Int) / (k:Int))=((n / k:Nat):Int):=by
   have h2:n / k<=1000000000000:=AS V C;rw[<-Int.natCast_ediv];clear H N U V
   generalize n / k=d at h2⊢
   unfold wrap64;omega
  have I:=AA X;clear X H;clear Y Z;go_enter func89,ntmps89;go_upto_region 1 with fail
  rw[<-hW];clear hW
  go_wp2_with fail
  rw[I.out];go_ret;exact⟨rfl,hB⟩
theorem Nl:(ZP.info? 146).map (·.size)=some 258:=by kernel_rfl
theorem Ko{L:List Int}(Z:L.length=256)(m:Int)(row:Value):(dvC L m row).toArray.size=258:=by simp[dvC,Z]
def goD(L:List Int)(m:Int)(F:List Int)(node:Int)(c:Nat):Option Int:=
 if((L[c]?).getD 0<0∨m<=(L[c]?).getD 0)∨(node<0∨Hu m F.length<=node) then none else F[(node*m+(L[c]?).getD 0).toNat]?
def apk:Option Int->Value
 |some x=>.tuple #[int i64 x,bool true]
 |none=>.tuple #[int i64 0,bool false]
section inround
variable {P:Program}{ops:Array Oper}{Q Q':Exit->Act->World->Prop}{md:Region.Mode}{n l:Nat}
theorem adi{row:String}{args:Array Value}{w:World}{R:Value->World->Prop}(h:Rows P row args w R):RowsIn (Fence.wide.inRound l) n P row args w R:=λc cs _=>let⟨v,w',r,s⟩:=h c cs;⟨v,w',r,stepsIn_wide.2 s⟩
theorem acX{o:Oper}{a:Act}{w:World}{K:Act->World->Prop}(Z:∀c,o.op≠.defer c)(V:∀e a w,Q e a w->Q' e a w)(U:¬LetsOut Q)
  (h:o.wp P a w K Q):o.wpIn (Fence.wide.inRound l) n P a w K Q':=by
 unfold Oper.wp at h;unfold Oper.wpIn;refine⟨λf _=>trivial,?_⟩;rw[Oper.semAt_eq _ _ _ Z]
 generalize (execOp a.eval o).run P w=r at *
 cases r with
 |ok x w'=>
  cases x<;>simp only[Oper.upon]at h<;>simp only[Oper.uponIn]
  case value u=>exact h
  case skip=>exact h
  case defer d=>exact h
  case enter f args=>
   refine⟨(λX=>by cases X),(callsIn_wide (n:=n-1)).2 (h.mono λe w'' Y=>?_)⟩
   cases e with
   |returned u=>exact Y
   |panicked c=>exact V _ _ _ Y
   |outgrown=>exact absurd Y U
  case row row args=>exact⟨(λX=>by cases X),adi h⟩
 |halt x w'=>
  cases x<;>simp only[Oper.upon]at h<;>simp only[Oper.uponIn]
  case panic u=>exact V _ _ _ h
theorem abr(X:Eb ops=true)(V:∀e a w,Q e a w->Q' e a w)(N:¬LetsOut Q):∀(Y:Nat)(Z:Array Bool)(a:Act)(w:World),
  wpAny P md ops Q Y Z a w->wpAnyIn (Fence.wide.inRound l) n P md ops Q' Y Z a w
 |0,_,_,_,h=>⟨h.1,V _ _ _ h.2⟩
 |Y+1,Z,a,w,h=>by
  refine⟨λh0=>V _ _ _ (h.1 h0),λi J=>?_⟩;have h1:=wpOp_mono (λH w' I=>abr X V N Y _ H w' I) (h.2 i J);unfold wpOp at h1;unfold wpOpIn
  split
  ·rename_i ho;simp only[ho]at h1;exact h1
  ·rename_i o ho
   simp only[ho]at h1
   split
   ·rename_i U
    simp only[U,if_true]at h1
    rcases h1 with h1|⟨_,h1⟩
    ·exact acX (ab0 X ho) V N h1
    ·exact absurd h1 N
   ·rename_i U
    simp only[U]at h1;exact⟨λf _=>trivial,h1⟩
def Gn(Q:Exit->Act->World->Prop):Exit->Act->World->Prop
 |.normal,a,w=>Q .normal a w
 |_,_,_=>False
theorem Gn.normal{a:Act}{w:World}(h:Q .normal a w):Gn Q .normal a w:=h
theorem Gn.imp:∀(e:Exit)(a:Act)(w:World),Gn Q e a w->Q e a w:=λe a w h=>by cases e<;>first|exact h|exact absurd h id
theorem af8:¬LetsOut (Gn Q):=λ⟨_,_,h⟩=>h
theorem aa4{S:World->Prop}{id:Nat}{a:Act}{w:World}(Y:P.follows .mixedOrders=true)(Z:Eb ops=true)(X:S w.drew)
  (h:S w.drew->wpAnyH P .any ops (Gn Q) S ops.size (Array.replicate ops.size false) a w.drew):(Code.region id ops true).wpIn (Fence.wide.inRound l) n P Q a w:=
 wpIn_region_any Y (abr Z Gn.imp af8 _ _ _ _ (wpAny_of_held _ _ _ _ (h X)))
theorem NT(w:World){o:Oper}{a:Act}{K:Act->World->Prop}(s x:Operand)(t:TypeId)
  (D:o.op=.call {callee:=.builtin .append,args:=#[s,x],argTypes:=#[t,t]})
  (base:Nat) (e:TypeId) (i:TypeInfo) (z:Value) (size bytes:Nat) (ht:P.underlying t=some (.slice e)) (hi:P.info? e=some i) (hz:i.zero=some z) (Y:i.size=size) (C:i.bytes=bytes) (J:z.cells.size=size) (I:0<size)
  (v:Value) (n:Nat) (xs:List Value) (hs:a.eval s=v) (U:w.ownsRow base e size v n xs) (A:Option Addr) (m c:Nat) (cs:List Value) (hx:a.eval x=slice A m c) (H:SlK size w A m cs) (N:∀u∈cs,u.oneCell'=true)
  (B:n+m<=maxLen) (Z:(n+m)*bytes<=140737488355328) (X:base<=w.heap.size)
  (h:∀v' w',w'.ownsRow base e size v' (n+m) (xs++cs)->w.grownBy w' v.ownBlock->(v'.ownBlock=v.ownBlock∨v'.ownBlock=some w.heap.size)->K (a.put o.dst v') w'):o.wp P a w K Q:=by
 obtain⟨v',w',V,r1,j,y⟩:=Gu (P:=P) w base t o.type e i z size bytes ht hi hz Y C J I v n xs U A m c cs H N B Z X;unfold Oper.wp;simp[execOp,D,resolve,invoke,builtin,hs,hx,V,Result.andThen];exact h v' w' r1 j y
theorem Mi{c:Bool}{p q:Prop}(Z:c=true)(h:p):if c=true then p else q:=by rw[Vb Z];exact h
end inround
theorem amP:Tryz.zeroCells146=(dvC (List.replicate 256 0) 0 (slice none 0 0)).toArray:=by kernel_rfl
theorem afb(L:List Int)(m:Int)(row:Value)(Y:row.oneCell'=true):(dvC L m row).toArray.all (·.oneCell')=true:=by
 rw[Array.all_eq_true_iff_forall_mem];intro v Z;have Z:v∈dvC L m row:=by simpa using Z
 unfold dvC at Z;rw[Bf,Bf]at Z
 rcases Z with(Z|Z)|Z
 ·obtain⟨x,_,rfl⟩:=Be.1 Z;rfl
 ·rw[Fq]at Z;rw[Z];rfl
 ·rw[Fq]at Z;rw[Z];exact Y
theorem ace{fn:Func}{p u:Tmp}{tmps:Array Value}{W:World}{B:Nat}{cs:Array Value}(h:fn.results=#[.cell p 146,.tmp u])(X:tmps.getD p undef=pointer (some ⟨B,0,none⟩))(hB:W.heap[B]?=some (.cells cs 146 (0,0)))(Y:(ZP.info? 146).map (·.size)=some cs.size) :(results fn tmps).run ZP W=.ok (.tuple #[.agg cs,tmps.getD u undef]) W:=by
 have Z:tmps[p]?.getD undef=pointer (some ⟨B,0,none⟩):=by simpa using X
 simp[results,h,Z,asAddr,run_loadVar_row W B 146 146 cs (0,0) _ hB underlying146 rfl Y]
theorem agL(B:List Value):∀(Z A P:List Value)(k off:Nat),Z.length=A.length->P.length=off+k->
  (Z.zipIdx k).foldl (λcs (x:Value×Nat)=>cs.setIfInBounds (off+x.2) x.1) (P++A++B).toArray=(P++Z++B).toArray
 |[],[],P,k,off,_,_=>by simp
 |v::Z,a::A,P,k,off,hl,hP=>by
  rw[List.zipIdx_cons,List.foldl_cons];have e2:(P++(a::A)++B).toArray.setIfInBounds (off+k) v=((P++[v])++A++B).toArray:=by rw[<-hP];simp
  show List.foldl _ ((P++(a::A)++B).toArray.setIfInBounds (off+k) v) _=_;rw[e2,agL B Z A (P++[v]) (k+1) off (by simpa using hl) (by simp;omega)];simp
theorem Ig(place:Nat->Option (Nat×Nat))(P A B Z:List Value)(i:Nat)(v:Value)(rest:List (Nat×Value))(X:v.cells=Z.toArray)(Y:Z.length=A.length)(V:place i=some (P.length,A.length)) :Instr.fill place (P++A++B).toArray ((i,v)::rest)=Instr.fill place (P++Z++B).toArray rest:=by have e:=agL B Z A P 0 P.length Y rfl;rw[Instr.fill];simp only[V,X];rw[Va (by simp[Y])];congr 1;rw[<-e];simp
theorem Iz{P:Program}{Y:Array Oper}{S:World->Prop}{op:Oper}{a:Act}(X:Region.wanted op (yielded Y a.tmps)=true)(t:TypeId)(Z:Array (Nat×Operand))(ho:op.op=.build t Z)(V:Array Value)
  (U:P.built t (Z.map λ(i,x)=>(i,a.eval x)).toList=some V):YieldsIf P Y S op (.agg V) a:=
 .inl ⟨X,λw _=>by
  unfold execOp;simp only[ho,IN,run_build w t _ V U,Result.andThen_ok]
  rfl⟩
theorem ab4{w:World}{b:Nat}{A B:List Value}{t:TypeId}{fr:Nat×Nat}(X:w.heap[b]?=some (.cells (A++B).toArray t fr)):w.rangeAt b 0 A:=λj v Z=>by
 have Y:j<A.length:=(AP.1 Z).1;have e:(A++B)[j]?=some v:=by rw[By Y];exact Z
 simp only[cell?,X,DD]
 simpa using e
theorem aoC(L:List Int)(m:Int)(row:Value):dvC L m row=L.map (int i64)++[int i64 m,row]:=by simp[dvC]
theorem Dv.range{W:World}{B:Nat}{L:List Int}{m:Int}{row:Value}(h:Dv W B L m row):W.rangeAt B 0 (L.map (int i64)):=by have Z:=h.box;rw[aoC]at Z;exact ab4 Z
theorem anl(t:TV)(X:Option Addr)(Z Y:Nat):(ZP.built 227 [(1,Value.agg #[slice t.ua t.un t.uc,slice t.da t.dn t.dc,slice t.xa t.xn t.xc,slice t.ba t.bn t.bc]),(2,slice X Z Y)])=some (Dn (List.replicate 256 0) 0 (slice none 0 0) t (slice X Z Y)).toArray:=by kernel_rfl
theorem abA{P:Program}{Y:Array Oper}{rest:List Oper}{o:Oper}{a:Act}{w:World}{Q:Exit->Act->World->Prop}(U:o.guard=none)(t:TypeId)(Z:Array (Nat×Operand))(ho:o.op=.build t Z)(V:Array Value)
  (X:P.built t (Z.map λ(i,x)=>(i,a.eval x)).toList=some V) (h:wpList P Y Q rest (a.put o.dst (.agg V)) w):wpList P Y Q (o::rest) a w:=
 wpList_build U t Z ho (by rw[X];rfl) (by rw[X];exact h)
theorem ag0(w:World)(g:Nat)(cs:Array Value)(t:TypeId)(fr:Nat×Nat)(Y:w.heap[g]?=some (.cells cs t fr)):w.setRow g cs=w:=by
 have e:(w.setRow g cs).heap=w.heap:=by
  apply Array.ext_getElem?
  intro i
  by_cases Z:i=g
  ·rw[Z,setRow_heap w g _ cs t fr Y,Y]
  ·exact setRow_other w g i cs Z
 have e2:w.setRow g cs={w with heap:=(w.setRow g cs).heap}:=rfl;rw[e2,e]
theorem aaZ(b:Nat)(t:TypeId)(fr:Nat×Nat)(B:List Value):∀(Z A P:List Value)(w:World),Z.length=A.length->w.heap[b]?=some (.cells (P++A++B).toArray t fr)->w.setCells b P.length Z=w.setRow b (P++Z++B).toArray
 |[],[],P,w,_,hg=>by simpa[World.setCells]using (ag0 w b _ t fr hg).symm
 |v::Z,a::A,P,w,hl,hg=>by
  have e:=setCell_eq_setRow w b P.length _ t fr v hg;have e2:(P++(a::A)++B).toArray.setIfInBounds P.length v=((P++[v])++A++B).toArray:=by simp
  rw[e2]at e;have Y:=setRow_heap w b _ ((P++[v])++A++B).toArray t fr hg;have X:=aaZ b t fr B Z A (P++[v]) (w.setRow b ((P++[v])++A++B).toArray) (by simpa using hl) Y;rw[World.setCells,e];rw[show P.length+1=(P++[v]).length by simp,X,setRow_setRow];simp
theorem aaN{P:Program}{Y:Array Oper}{rest:List Oper}{op:Oper}{a:Act}{w:World}{Q:Exit->Act->World->Prop}(U:op.guard=none)(V:TypeId)(x y:Operand)(ho:op.op=.store V x y)
  (b:Nat) (Z A B:List Value) (H:a.eval x=pointer (some ⟨b,0,none⟩)) (I:a.eval y=.agg Z.toArray) (t:TypeId) (N:w.heap[b]?=some (.cells (A++B).toArray t (0,0))) (J:Z.length=A.length)
  (D:(P.info? V).map (·.size)=some Z.toArray.size) (h1:Z.toArray.all (·.oneCell')=true)
  (h:wpList P Y Q rest (a.put op.dst undef) (w.setRow b (Z++B).toArray)):wpList P Y Q (op::rest) a w:=by
 refine wpList_store_mid U V x y ho b 0 Z.toArray H I (λj X=>?_) D h1 ?_
 ·have X:j<A.length:=by rw[<-J];simpa using X
  refine⟨?_,?_⟩
  ·simp[cell?,N,By X,X]
  ·simp[frozen?,N]
 ·have e:=aaZ b t (0,0) B Z A [] w J N;simp only[Av,Bw]at e;rw[show Z.toArray.toList=Z by simp,e];exact h
theorem Kb(L:List Int)(m:Int)(row:Value)(t:TV)(lk:Value):Dn L m row t lk=L.map (int i64)++[int i64 m,row,slice t.ua t.un t.uc,slice t.da t.dn t.dc,slice t.xa t.xn t.xc,slice t.ba t.bn t.bc,lk]:=by simp[Dn]
theorem ajz(L:List Int)(m:Int)(row:Value)(t:TV)(lk:Value):Dn L m row t lk=dvC L m row++[slice t.ua t.un t.uc,slice t.da t.dn t.dc,slice t.xa t.xn t.xc,slice t.ba t.bn t.bc,lk]:=by simp[Dn,dvC]
theorem akK(L:List Int)(m:Int)(row:Value)(t:TV)(lk:Value)(Y:row.oneCell'=true)(hk:lk.oneCell'=true):(Dn L m row t lk).toArray.all (·.oneCell')=true:=by
 rw[ajz];have:=afb L m row Y;rw[Array.all_eq_true_iff_forall_mem]at this⊢;intro v Z;rw[List.mem_toArray,Bf]at Z
 rcases Z with h|h
 ·exact this v (by rw[List.mem_toArray];exact h)
 ·simp at h;rcases h with rfl|rfl|rfl|rfl|rfl<;>first|rfl|exact hk
theorem ajt{L:List Int}(Z:L.length=256)(m:Int)(row:Value)(t:TV)(lk:Value):(Dn L m row t lk).toArray.size=263:=by simp[Dn,Z]
theorem Mk.frozen{W:World}{M:Nat}{L:List Int}{m:Int}{row lk:Value}{t:TV}(h:Mk W M L m row t lk)(i:Nat):W.frozen? ⟨M,i,none⟩=false:=by simp[frozen?,h.box]
theorem Mk.setMany{W:World}{M:Nat}{L:List Int}{m:Int}{row lk:Value}{t:TV}(h:Mk W M L m row t lk)(v:Int):Mk (W.setCell ⟨M,256,none⟩ (int i64 v)) M L v row t lk:=by
 refine⟨?_,h.len⟩;rw[setCell_eq_setRow W M 256 _ _ _ _ h.box,setRow_heap W M _ _ _ _ h.box];have e:(Dn L m row t lk).toArray.setIfInBounds 256 (int i64 v)=(Dn L v row t lk).toArray:=by rw[Kb,Kb,Fp,Jm _ _ (by simp[h.len])];simp[h.len]
 rw[e]
theorem Mk.setRows{W:World}{M:Nat}{L:List Int}{m:Int}{row lk:Value}{t:TV}(h:Mk W M L m row t lk)(v:Value):Mk (W.setCell ⟨M,257,none⟩ v) M L m v t lk:=by
 refine⟨?_,h.len⟩;rw[setCell_eq_setRow W M 257 _ _ _ _ h.box,setRow_heap W M _ _ _ _ h.box];have e:(Dn L m row t lk).toArray.setIfInBounds 257 v=(Dn L m v t lk).toArray:=by rw[Kb,Kb,Fp,Jm _ _ (by simp[h.len])];simp[h.len]
 rw[e]
theorem Mw{W:World}{α:Type}{enc:α->Value}{a:Option Addr}{n:Nat}{xs:List α}(h:Sl1 enc W a n xs)(X:0<xs.length)(x:Addr)(Y:a=some x):x.block<W.heap.size:=by
 rcases h.2 with h0|⟨b,off,e,Z,_⟩
 ·have:=h.1;omega
 ·rw[Y]at e;cases e;exact Z
theorem anf{W:World}{t:TV}{T:Ay}(h:Tri W t T)(h1:0<T.up.length)(h2:0<T.dep.length)(h3:0<T.wrd.length)(h4:0<T.byt.length):Lw t W.heap.size:=by
 rintro a (e|e|e|e)
 ·exact Mw h.up h1 a e
 ·exact Mw h.dep h2 a e
 ·exact Mw h.wrd h3 a e
 ·exact Mw h.byt.1 h4 a e
theorem anU{fold:Bool}{ws:Lq}(X:Fe fold ws)(c:Nat)(v:Int)(h:(BF fold ws)[c]?=some v):0<=v/\v<(Ah fold ws:Int):=by
 have Y:c<256:=by have:=(AP.1 h).1;rw[Jc]at this;exact this
 have V:1<=Ah fold ws:=(Hb _ _ _).1
 cases Z:inB fold ws (c:Int)with
 |false=>
  have:=amJ (fold:=fold) Z Y;rw[show(Ac (inB fold ws) fold 256).1=BF fold ws from rfl,h]at this
  cases this;omega
 |true=>
  have e:=ag8 (IF X) Z Y;rw[show(Ac (inB fold ws) fold 256).1=BF fold ws from rfl,h]at e;have U:DA (inB fold ws) fold c<Ah fold ws:=ME (IF X) Z Y
  cases e;omega
theorem aol:(ZP.info? 227).map (·.size)=some 263:=by kernel_rfl
theorem aox:Tryz.zeroCells227.size=263:=by kernel_rfl
theorem aha(fold:Bool)(a:Option Addr)(la ca:Nat)(wss:Lq)(w:World)(hA:Wds w a la wss)(aZ:la<=1000000)(hM:∀x∈wss,x.length<=1000000)(hT:(Ad fold wss).length<=1000000)(hr:An fold wss=true) :Calls ZP 86 #[.agg (AM fold a la ca)] w λe w'=>∃R,e=.returned (.tuple #[.agg (dvC (BF fold wss) (Ah fold wss) (.slice (some ⟨R,0,none⟩) (Ah fold wss*(AB wss).length) (Ah fold wss*(AB wss).length))).toArray,.int .i64 0])/\
   AU R (FN fold wss) w'/\w.heap.size<=R/\Br w w':=by
 obtain⟨W,hW⟩:∃W,W=(w.alloc (.cells (AM fold a la ca) 24)).alloc (.cells Tryz.zeroCells146 146):=⟨_,rfl⟩;have hB:Br w W:=by rw[hW];exact((AH _ _).alloc (AC _) _).alloc sm _
 have hO:Bx w.heap.size [.cells (AM fold a la ca) 24,.cells Tryz.zeroCells146 146] W:=by rw[hW];exact((Bx.nil _ w).snoc _ rfl).snoc _ sm
 have s0:W.cell? ⟨w.heap.size,0,none⟩=some (bool fold):=hO.cell (i:=0) rfl rfl;have s1:W.cell? ⟨w.heap.size,1,none⟩=some (slice a la ca):=hO.cell (i:=0) rfl rfl;have aO:=hA.below hB;have aH:CI (AG wss)=some (AB wss,wss):=Fy.2 ⟨IY hr,rfl,rfl⟩;have HC:=AA (abH fold a la ca wss W aO aZ hM hT hr);have HO:=AA hO;have c6:=AA aO;have bO:=AA aH;have bM:=AA hr;have HM:=AA hM;have HT:=AA hT;have bC:(AB wss).length<=400:=Hx aH;have aw:0<(AB wss).length:=apG.2 (Lo wss);have hg:Fe fold wss:=acv (Fv hr).2;have b0:∀x,De wss x->0<=x/\x<=255:=by rintro x ⟨xs,h1,h2⟩;exact hA.bytes xs h1 x h2
 have HG:=AA hg;have bZ:=AA b0;obtain⟨n,hn⟩:∃n,(AB wss).length=n:=⟨_,rfl⟩;obtain⟨m,hm⟩:∃m,Ah fold wss=m:=⟨_,rfl⟩;have a1:1<=m/\m<=257:=by rw[<-hm];exact Hb _ _ _
 have HN:=AA hn;have ac:=AA hm;obtain⟨Q,hQ⟩:∃Q,m*n=Q:=⟨_,rfl⟩;have ce:Q<=257*400:=by rw[<-hQ];exact GR a1.2 om
 have e1:wrap64 ((m:Int)*(n:Int))=(Q:Int):=by rw[<-Iy,hQ];unfold wrap64;omega
 have HQ:=AA hQ;rw[hn,hm,hQ];rw[hn]at bC aw;clear hr hO hA aO aH hM hT hg b0 hn hm hQ;go_enter func86,ntmps86;go_upto_region 1 with fail
 rw[<-hW];clear hW;go_upto_region 4 with(go_at_call 87;refine HC.out.mono ?_;rintro e J ⟨t,rfl,b1,aK⟩)
 obtain⟨W2,a2⟩:∃W2,W2=J.alloc (.cells #[slice t.ua t.un t.uc,slice t.da t.dn t.dc,slice t.xa t.xn t.xc,slice t.ba t.bn t.bc] 150):=⟨_,rfl⟩;have bG:Br W W2:=by rw[a2];exact aK.alloc aK.size _
 have aB:Br J W2:=by rw[a2];exact AL _ _
 have D:Bx J.heap.size [.cells #[slice t.ua t.un t.uc,slice t.da t.dn t.dc,slice t.xa t.xn t.xc,slice t.ba t.bn t.bc] 150] W2:=by rw[a2];exact(Bx.nil _ J).snoc _ rfl
 have aj:=b1.below aB;rw[<-a2];have v0:W2.cell? ⟨J.heap.size,0,none⟩=some (slice t.ua t.un t.uc):=D.cell (i:=0) rfl rfl;have v1:W2.cell? ⟨J.heap.size,1,none⟩=some (slice t.da t.dn t.dc):=D.cell (i:=0) rfl rfl;have v2:W2.cell? ⟨J.heap.size,2,none⟩=some (slice t.xa t.xn t.xc):=D.cell (i:=0) rfl rfl;have v3:W2.cell? ⟨J.heap.size,3,none⟩=some (slice t.ba t.bn t.bc):=D.cell (i:=0) rfl rfl;have bA:t.un=n:=by rw[<-HN.out,<-OY];exact aj.up.1.symm
 have HL:=AA (ack t (AG wss) (AB wss) wss W2 aj om bO.out);rw[HN.out]at HL;have bR:=AA D;have bK:=AA aj;have bv:=AA bG;clear a2 aB D aj b1 aK bA s0 s1;go_upto_region 7 with(go_at_call 127;refine HL.out.mono ?_;rintro e w3 ⟨q,rfl,hq,cd,ai⟩)
 have am:Br W w3:=bv.out.trans (ai.mono bv.out.size);have aL:=HO.out.below am;have s0:w3.cell? ⟨w.heap.size,0,none⟩=some (bool fold):=aL.cell (i:=0) rfl rfl;have s1:w3.cell? ⟨w.heap.size,1,none⟩=some (slice a la ca):=aL.cell (i:=0) rfl rfl;have HF:=AA (akJ fold a la ca wss w3 (c6.out.below am) aZ HM.out HT.out bM.out);rw[ac.out]at HF;have bJ:=AA (bK.out.below ai);have bl:=AA (bR.out.below ai);have bk:=AA hq;have bu:=AA am;have cb:J.heap.size<w3.heap.size:=(AD.1 (bl.out 0 _ rfl)).1;have c9:w.heap.size+1<W.heap.size:=(AD.1 (HO.out 1 _ rfl)).1;clear aL v0 v1 v2 v3 hq ai am;have av:(Tryz.zeroCells144).size=(((BF fold wss).map (int i64)).toArray).size:=by rw[amX,KE,KE,Jc];simp
 have ay:(ZP.info? 144).map (·.size)=some (((BF fold wss).map (int i64)).toArray).size:=by rw[KE,Jc];exact aiS
 have bg:=AA av;have ae:=AA ay;clear av ay;go_upto_region 10 with (first
  |(refine wpList_store_row rfl 144 _ _ rfl _ _ rfl rfl 144 _ (heap_alloc_new _ _) ae.out bg.out (acS _) ?_)
  |(go_at_call 128;refine HF.out.mono ?_;rintro e w4 ⟨rfl,aJ⟩))
 rw[World.setRow_alloc_new];obtain⟨Y,ag⟩:∃Y,Y=w4.alloc (.cells ((BF fold wss).map (int i64)).toArray 144):=⟨_,rfl⟩;have aA:Br w4 Y:=by rw[ag];exact AL _ _
 have a8:Br w3 Y:=aJ.trans (aA.mono aJ.size);have aU:Hid (Y.heap[w4.heap.size]?=some (.cells ((BF fold wss).map (int i64)).toArray 144 (0,0))):=by rw[Hid,ag];exact heap_alloc_new _ _
 have ax:w4.heap.size<Y.heap.size:=(AD.1 aU.out).1;rw[<-ag];clear ag;have a6:=bl.out.below a8;have v0:Y.cell? ⟨J.heap.size,0,none⟩=some (slice t.ua t.un t.uc):=a6.cell (i:=0) rfl rfl;have v1:Y.cell? ⟨J.heap.size,1,none⟩=some (slice t.da t.dn t.dc):=a6.cell (i:=0) rfl rfl;have v2:Y.cell? ⟨J.heap.size,2,none⟩=some (slice t.xa t.xn t.xc):=a6.cell (i:=0) rfl rfl;have v3:Y.cell? ⟨J.heap.size,3,none⟩=some (slice t.ba t.bn t.bc):=a6.cell (i:=0) rfl rfl;have aQ:=AA (bJ.out.below a8);have aT:Hid (Lw t Y.heap.size):=by
  have hp:0<(AB wss).length:=by rw[HN.out];exact aw
  exact anf aQ.out (by simpa[AG]using hp) (by simpa[AG]using hp) (by simpa[AG]using hp) (by simpa[AG]using hp)
 have ar:Hid (AU q (Bo wss) Y):=(a8.block q bk.out.lt).trans bk.out;have aa:=bu.out.trans (a8.mono bu.out.size);have aS:Hid (Y.heap[w.heap.size+1]?=some (.cells Tryz.zeroCells146 146 (0,0))):=(HO.out.below aa) 1 _ rfl;have aF:=AA (hB.trans (aa.mono hB.size));have j:w.heap.size+1<Y.heap.size:=(AD.1 aS.out).1;clear a6 a8 aA aJ s0 s1 aa hB;obtain⟨Z,hZ⟩:∃Z,(Dn (List.replicate 256 0) 0 (slice none 0 0) t (slice (some ⟨q,0,none⟩) n n)).toArray=Z:=⟨_,rfl⟩;have bq:Hid (ZP.built 227 [(1,Value.agg #[slice t.ua t.un t.uc,slice t.da t.dn t.dc,slice t.xa t.xn t.xc,slice t.ba t.bn t.bc]),(2,slice (some ⟨q,0,none⟩) n n)]=some Z):=by rw[Hid,anl,hZ]
 have aP:Hid (Z.size=263):=by rw[Hid,<-hZ];exact ajt sm _ _ _ _
 have aq:Hid (Z.all (·.oneCell')=true):=by rw[Hid,<-hZ];exact akK _ _ _ _ _ rfl rfl
 have ab:Hid ((ZP.info? 227).map (·.size)=some Z.size):=by rw[Hid,aP.out];exact aol
 have ao:Hid (Tryz.zeroCells227.size=Z.size):=by rw[Hid,aP.out];exact aox
 have ap:=AA hZ;clear hZ
 iterate 7 (first|go_values|go_skip|go_guarded|go_step)
 refine abA rfl 227 _ rfl Z (by go_simp;exact bq.out) ?_
 iterate 3 (first|go_values|go_skip|go_guarded|go_step)
 refine wpList_store_row rfl 227 _ _ rfl Y.heap.size Z rfl rfl 227 _ (heap_alloc_new _ _) ab.out ao.out aq.out ?_;rw[World.setRow_alloc_new];obtain⟨U,af⟩:∃U,U=Y.alloc (.cells Z 227):=⟨_,rfl⟩;have X:Br Y U:=by rw[af];exact AL _ _
 have a7:Mk U Y.heap.size (List.replicate 256 0) 0 (slice none 0 0) t (slice (some ⟨q,0,none⟩) n n):=⟨by rw[af,ap.out];exact heap_alloc_new _ _,by simp⟩;have au:Y.heap.size<U.heap.size:=a7.lt;have bp:Hid (U.heap[w4.heap.size]?=some (.cells ((BF fold wss).map (int i64)).toArray 144 (0,0))):=(X.block _ ax).trans aU.out;have be:=AA (aQ.out.below X);have bj:Hid (AU q (Bo wss) U):=(X.block q ar.out.lt).trans ar.out;have aY:=ar.out.lt;have aC:Hid (U.heap[w.heap.size+1]?=some (.cells Tryz.zeroCells146 146 (0,0))):=(X.block _ j).trans aS.out;have bt:Hid (Br w U):=aF.out.trans (X.mono om);rw[<-af];obtain⟨M,b3⟩:∃M,Y.heap.size=M:=⟨_,rfl⟩;rw[b3]at a7 aT au j aY⊢;have aI:=a7.box;rw[Kb]at aI;have bo:Hid (((BF fold wss).map (int i64)).length=((List.replicate 256 (0:Int)).map (int i64)).length):=by rw[Hid,BP,BP,Jc,CS]
 have aE:=AA aI;have bU:=AA a7;clear af X aU aQ ar aS aF ab ao aq aP bq ap v0 v1 v2 v3 aI a7 ax b3;go_upto_region 11 with fail
 iterate 1 (first|go_values|go_skip|go_guarded|go_step)
 refine wpList_load_row rfl 144 _ rfl w4.heap.size rfl 144 _ (0,0) _ bp.out underlying144 rfl ae.out ?_
 iterate 9 (first|go_values|go_skip|go_guarded|go_step)
 refine aaN rfl 144 _ _ rfl M ((BF fold wss).map (int i64)) _ _ rfl rfl 227 aE.out bo.out ae.out (acS _) ?_;rw[<-Kb];obtain⟨w7,o⟩:∃w7,w7=U.setRow M (Dn (BF fold wss) 0 (slice none 0 0) t (slice (some ⟨q,0,none⟩) n n)).toArray:=⟨_,rfl⟩;have al:Mk w7 M (BF fold wss) 0 (slice none 0 0) t (slice (some ⟨q,0,none⟩) n n):=⟨by rw[o];exact setRow_heap U M _ _ _ _ bU.out.box,Jc _ _⟩;have b7:RowKit.Below M U w7:=by rw[o];exact MF (AH _ _) (AC _) _
 have bL:Hid (w7.heap.size=U.heap.size):=by rw[Hid,o,setRow_size]
 rw[<-o];have bd:=al.cells.1;have b9:=al.frozen 256;have bT:=AA al;have bY:=AA b7;clear o al b7 bp aE bo;go_upto_region 12 with fail
 obtain⟨B,y⟩:∃B,B=w7.setCell ⟨M,256,none⟩ (int i64 (m:Int)):=⟨_,rfl⟩;have ak:Mk B M (BF fold wss) (m:Int) (slice none 0 0) t (slice (some ⟨q,0,none⟩) n n):=by rw[y];exact bT.out.setMany _
 have b6:RowKit.Below M U B:=by rw[y];exact bY.out.setCell (AC _) _
 have aW:B.heap.size=U.heap.size:=by rw[y];simpa using bL.out
 rw[<-y];have bf:=AA aW;clear aW;have bb:=ak.cells.2.1;have b8:=ak.frozen 257;have b5:M<B.heap.size:=by rw[bf.out];exact au
 have bS:=AA ak;have bX:=AA b6;have bD:∀V:World,(Instr.makeSlice 30 (int i64 Q) (int i64 Q)).run ZP V=.ok (slice (some ⟨V.heap.size,0,none⟩) Q Q) (V.alloc (.cells (GE Q) 3)):=λV=>by
  obtain⟨i0,hi,bz,I,bx⟩:=Vk JS;have h:=run_makeSlice (P:=ZP) (w:=V) 30 3 i0 (.int .i64 0) underlying30 hi bz .i64 .i64 (Q:Int) (Q:Int) om om (by rw[I];omega) (by rw[bx];omega) om;rw[I]at h;have e1:(Q:Int).toNat*1=Q:=by omega
  rw[e1,Nc,Aa]at h;exact h
 clear y ak b6 bd b9;go_upto_region 13 with fail
 obtain⟨R,hR⟩:∃R,B.heap.size=R:=⟨_,rfl⟩;rw[hR];have c7:U.heap.size=R:=bf.out.symm.trans hR;obtain⟨C,H⟩:∃C,C=(B.setCell ⟨M,257,none⟩ (slice (some ⟨R,0,none⟩) Q Q)).alloc (.cells (GE Q) 3):=⟨_,rfl⟩;have aV:(B.setCell ⟨M,257,none⟩ (slice (some ⟨R,0,none⟩) Q Q)).heap.size=R:=by simp[hR]
 have aR:=AA aV;clear aV;have az:RowKit.Below M B C:=by rw[H];exact((AH M B).setCell (p:=⟨M,257,none⟩) (AC _) _).alloc (by rw[aR.out,<-hR];exact DP b5) _
 have b4:Mk C M (BF fold wss) (m:Int) (slice (some ⟨R,0,none⟩) (m*n) (m*n)) t (slice (some ⟨q,0,none⟩) n n):=by rw[H,HQ.out];exact(bS.out.setRows _).below (AL _ _)
 have b2:AU R (List.replicate Q 0) C:=by have h:=AU.new (B.setCell ⟨M,257,none⟩ (slice (some ⟨R,0,none⟩) Q Q)) Q;rw[aR.out]at h;rw[H];exact h
 have cc:C.heap.size=R+1:=by rw[H,DN,aR.out]
 rw[<-H];have N:RowKit.Below M U C:=bX.out.trans az;have bI:=AA (be.out.keep N om aT.out);have bQ:Hid (AU q (Bo wss) C):=(N.block q aY).trans bj.out;have bi:Hid (C.heap[w.heap.size+1]?=some (.cells Tryz.zeroCells146 146 (0,0))):=(N.block _ j).trans aC.out;have bW:Hid (Br w C):=bt.out.trans (N.mono om);have aD:Hid (Lw t R):=λa h=>Af (aT.out a h) om;have aN:M<R:=by omega
 have aX:q<R:=by omega
 have bm:=AA b4;have bP:=AA b2;clear bD bb b8 H az b4 b2 N be bj aC bt hR e1;have bV:Hid (∀(V:World)(i:Nat),i<n->AU R (IR fold wss i) V->RowKit.Below R C V->Calls ZP 129 #[pointer (some ⟨M,0,none⟩),int i64 (i:Int)] V λe w'=>e=.returned (.tuple #[])/\AU R (IR fold wss (i+1)) w'/\RowKit.Below R V w'):=λV i hi hr hb=>by have hX:=Ar (show i<(AB wss).length by rw[HN.out];exact hi);have h:=ah2 t (AG wss) M R q n m i (BF fold wss) (IR fold wss i) (Bo wss) V (bI.out.keep hb om aD.out) (by simp[AG]) (by rw[OY,HN.out];omega) (bm.out.keep hb aN) (λc v hv=>by have:=anU HG.out c v hv;rw[ac.out]at this;exact this) ⟨aN,aX⟩ aD.out ((hb.block q aX).trans bQ.out) (by rw[JO,HN.out]) hr (by rw[(Mr HG.out bZ.out (i:=i) (by rw[HN.out];omega)).1,ac.out,HN.out]) hi om a1.1 om (λh0=>by obtain⟨k,h1,h2,_⟩:=ada hX h0;exact⟨k,h1,by omega⟩);rw[<-ac.out]at h;exact h
 go_wp2_with fail
 go_loopw[10,54] (λc8 bw wr=>∃i:Nat,i<=n/\bw=int i64 i/\Hid (AU R (IR fold wss i) wr)/\Hid (RowKit.Below R C wr)) (λ_ s _=>n-(intOf s).toNat)
 case atStart=>exact⟨0,AR _,rfl,by show AU R (List.replicate (Ah fold wss*(AB wss).length) 0) _;rw[ac.out,HN.out,HQ.out];exact bP.out,AH _ _⟩
 case round=>
  obtain⟨i,hi,rfl,hr,hb⟩:=hrel
  by_cases bE:i<n
  ·have hd:decide ((i:Int)<(n:Int))=true:=by simp;omega
   go_wp2_with (go_at_call 129;refine(bV.out wr i bE hr.out hb.out).mono ?_;rintro e wf ⟨rfl,bB,bF⟩)
   go_roundw
   case rel=>exact⟨i+1,by omega,by go_num,bB,hb.out.trans bF⟩
   case measure=>simp[intOf];omega
  ·obtain rfl:i=n:=by omega
   have hd:decide ((i:Int)<(i:Int))=false:=by simp
   have aM:=(bm.out.keep hb.out aN).box;rw[ajz,HQ.out]at aM;have aG:=ab4 aM;have A:(dvC (BF fold wss) (m:Int) (slice (some ⟨R,0,none⟩) Q Q)).toArray.size=258:=Ko (Jc _ _) _ _;have I:=afb (BF fold wss) (m:Int) (slice (some ⟨R,0,none⟩) Q Q) rfl;obtain⟨Z,hZ⟩:∃Z,dvC (BF fold wss) (m:Int) (slice (some ⟨R,0,none⟩) Q Q)=Z:=⟨_,rfl⟩;rw[hZ]at aG A I;have bN:=AA aG;have aq:=AA I;have ab:Hid ((ZP.info? 146).map (·.size)=some Z.toArray.size):=by rw[Hid,A];exact Nl
   have bH:Hid ((ZP.info? 146).map (·.size)=some Z.length):=by rw[Hid,show Z.length=258 by simpa using A];exact Nl
   have ao:Hid (Tryz.zeroCells146.size=Z.toArray.size):=by rw[Hid,A,amP];exact Ko sm _ _
   have ap:=AA hZ;have bh:Hid (wr.heap[w.heap.size+1]?=some (.cells Tryz.zeroCells146 146 (0,0))):=(hb.out.block _ om).trans bi.out;have H2:=AA (setRow_heap wr (w.heap.size+1) _ Z.toArray _ _ bh.out);clear aM aG A I hZ;go_upto_region 18 with fail
   iterate 4 (first|go_values|go_skip|go_guarded|go_step)
   refine wpList_load_mid rfl 146 _ rfl M 0 rfl Z _ bN.out underlying146 rfl bH.out ?_;refine wpList_store_row rfl 146 _ _ rfl (w.heap.size+1) Z.toArray rfl rfl 146 _ bh.out ab.out ao.out aq.out ?_
   go_wp2_with fail
   refine Vl (ace rfl rfl H2.out ab.out) rfl ?_;refine⟨R,by rw[ap.out];rfl,?_,by omega,MF (bW.out.trans (hb.out.mono om)) om _⟩;have hf:AU R (FN fold wss) wr:=by show AU R (IR fold wss (AB wss).length) wr;rw[HN.out];exact hr.out
   exact(setRow_other _ _ _ _ om).trans hf
def fcB(fold:Bool)(c:Int):Int:=if fold=true then BE c else c
theorem Nm(fold:Bool)(b:List Int):AO fold b=b.map (fcB fold):=by
 unfold AO fcB
 cases fold<;>simp
theorem al5{fold:Bool}{c:Nat}(Z:c<256):∃d:Nat,fcB fold (c:Int)=(d:Int)/\d<256:=by
 unfold fcB BE
 cases fold
 ·exact⟨c,by simp,Z⟩
 ·by_cases h:(65:Int)<=(c:Int)/\(c:Int)<=90
  ·refine⟨c+32,?_,by omega⟩;rw[Vb rfl,Vb h];omega
  ·exact⟨c,by rw[Vb rfl,Va h],Z⟩
theorem amK{fold:Bool}{ws:Lq}(Z:Fe fold ws){c:Int}:inB fold ws c=true↔De ws (fcB fold c):=by
 rw[afs];unfold fcB BE CF
 cases fold with
 |false=>simp
 |true=>
  have g:=Z rfl;simp only[if_true,decide_eq_true_iff,true_and]
  constructor
  ·rintro⟨x,h1,h2⟩;have Y:=g x h1
   rcases h2 with rfl|⟨h3,h4⟩
   ·rw[Va Y];exact h1
   ·rw[Vb om,show c+32=x by omega];exact h1
  ·intro h
   split at h
   ·exact⟨c+32,h,.inr ⟨by omega,by omega⟩⟩
   ·exact⟨c,h,.inl rfl⟩
theorem anJ{fold:Bool}{ws:Lq}{c d:Nat}(h:fcB fold (c:Int)=(d:Int)):DA (inB fold ws) fold c=DA (inB fold ws) fold d:=by
 unfold DA;have e:EJ fold c=EJ fold d:=by
  unfold EJ CF;unfold fcB BE at h
  cases fold with
  |false=>simp at h;simp;omega
  |true=>
   simp only[if_true]at h;simp only[FJ,decide_eq_true_iff]
   split at h
   ·rw[Va om,Vb om];omega
   ·have:c=d:=by omega
    rw[this]
 rw[e]
theorem aow{fold:Bool}{ws:Lq}(X:Fe fold ws){c:Nat}(Y:c<256):(BF fold ws)[c]?=some (if inB fold ws c=true then(DA (inB fold ws) fold c:Int) else 0):=by
 cases Z:inB fold ws (c:Int)with
 |false=>rw[Va sm];exact amJ Z Y
 |true=>rw[Vb rfl];exact ag8 (IF X) Z Y
theorem anr{ws:Lq}{x:List Int}{c:Int}(h:¬De ws c):lsf (AB ws) (x++[c])=[]:=by
 have h0:([]:List Int)∈AB ws:=(DT ws).2 (.inl rfl);refine aaP h0 (List.nil_suffix) h0 (λz Z X=>?_)
 rcases List.eq_nil_or_concat z with rfl|⟨y,d,rfl⟩
 ·simp
 ·exfalso
  rw[List.concat_eq_append]at Z X;obtain⟨t,Y⟩:=Z;rw[<-CE]at Y;have:=(List.append_inj' Y rfl).2;have e:d=c:=by simpa using this
  subst e;exact h (Lp X)
def KT(ws:Lq)(x:List Int):Int:=CW (AB ws) x
theorem agm{ws:Lq}{j:Nat}{x:List Int}(h:(AB ws)[j]?=some x):KT ws x=(j:Int):=CV (CL ws).nodup h
theorem anI{ws:Lq}{x:List Int}(h:x∈AB ws):∃j:Nat,(AB ws)[j]?=some x/\KT ws x=(j:Int)/\j<(AB ws).length:=by obtain⟨j,Z⟩:=DR h;exact⟨j,Z,agm Z,(AP.1 Z).1⟩
structure OkT(fold:Bool)(ws:Lq):Prop where
 great:Fe fold ws
 byt:∀x,De ws x->0<=x/\x<=255
 pos:0<(AB ws).length
theorem OZ{fold:Bool}{ws:Lq}(h:OkT fold ws):(FN fold ws).length=Ah fold ws*(AB ws).length:=(Mr h.great h.byt (AC _)).1
theorem agI(fold:Bool)(ws:Lq):1<=Ah fold ws:=(Hb _ _ _).1
theorem Oi{fold:Bool}{ws:Lq}(h:OkT fold ws):Hu (Ah fold ws) (FN fold ws).length=((AB ws).length:Int):=by have:=agI fold ws;unfold Hu;rw[OZ h,Va om,<-Int.natCast_ediv,Nat.mul_div_cancel_left _ om]
theorem aju{fold:Bool}{ws:Lq}(h:OkT fold ws){j:Nat}{x:List Int}(N:(AB ws)[j]?=some x){c:Nat}(U:c<256) :goD (BF fold ws) (Ah fold ws) (FN fold ws) j c=some (KT ws (lsf (AB ws) (x++[fcB fold c]))):=by
 have B:=(AP.1 N).1;have C:=agI fold ws;obtain⟨h1,h2⟩:=aoy h.great h.byt N;obtain⟨v,H⟩:∃v:Nat,(BF fold ws)[c]?=some (v:Int)/\v<Ah fold ws/\(FN fold ws)[j*Ah fold ws+v]?=some (KT ws (lsf (AB ws) (x++[fcB fold c]))):=by
  rw[aow h.great U]
  by_cases Z:inB fold ws (c:Int)=true
  ·rw[Vb Z];refine⟨_,rfl,ME (IF h.great) Z U,?_⟩;obtain⟨d,J,D⟩:=al5 (fold:=fold) U;have Y:=(amK h.great).1 Z;rw[J]at Y⊢;rw[anJ J];exact h2 d Y
  ·rw[Va Z];refine⟨0,rfl,by omega,?_⟩;rw[anr (λY=>Z ((amK h.great).2 Y)),agm (CM ws),DQ];exact h1
 obtain⟨V,I,X⟩:=H;unfold goD;rw[Oi h,V,CG,Va (by rintro((h|h)|(h|h))<;>omega)];rw[show((j:Int)*(Ah fold ws:Int)+(v:Int)).toNat=j*Ah fold ws+v by rw[<-Iy];omega];exact X
theorem anF{fold:Bool}{ws:Lq}(h:OkT fold ws){j:Int}(Z:j<0∨((AB ws).length:Int)<=j)(c:Nat):goD (BF fold ws) (Ah fold ws) (FN fold ws) j c=none:=by unfold goD;rw[Oi h,Vb (.inr Z)]
theorem okT{fold:Bool}{ws:Lq}(Z:An fold ws=true)(Y:∀x∈ws,∀c∈x,0<=c/\c<=255):OkT fold ws:=⟨acv (Fv Z).2,λx ⟨w,h1,h2⟩=>Y w h1 x h2,apG.2 (Lo ws)⟩
section
open Go Go.RowKit Go.Sort
def nxN(L wd:List Int):Nat->Nat->Nat
 |0,_=>0
 |f+1,z=>if z=0 then 0 else if 0<=(wd[((L[z]?).getD 0).toNat]?).getD (-1) then((L[z]?).getD 0).toNat else nxN L wd f ((L[z]?).getD 0).toNat
theorem Ll(L wd:List Int)(f:Nat):nxN L wd f 0=0:=by cases f<;>simp[nxN]
theorem agR{L wd:List Int}{B:Nat}(Z:∀z,0<z->z<=B->((L[z]?).getD 0).toNat<z):∀{f g z:Nat},z<=B->z<=f->z<=g->nxN L wd f z=nxN L wd g z
 |0,g,z,hb,hf,hg=>by
  obtain rfl:z=0:=by omega
  rw[Ll,Ll]
 |f+1,0,z,hb,hf,hg=>by
  obtain rfl:z=0:=by omega
  rw[Ll,Ll]
 |f+1,g+1,z,hb,hf,hg=>by
  unfold nxN
  by_cases h0:z=0
  ·rw[Vb h0,Vb h0]
  ·rw[Va h0,Va h0];have:=Z z om hb
   split
   ·rfl
   ·exact agR Z om om om
def nx(ws:Lq)(z:Nat):Nat:=nxN (Bo ws) (AG ws).wrd z z
def Bk(ws:Lq):List Int:=(List.range (AB ws).length).map λz=>(nx ws z:Int)
section
variable {ws:Lq}
theorem Nh{z:Nat}{x:List Int}(Y:(AB ws)[z]?=some x):∃k:Nat,(Bo ws)[z]?=some (k:Int)/\(z=0->k=0)/\(0<z->k<z)/\(AB ws)[k]?=some (EC (AB ws) x):=by
 by_cases h0:z=0
 ·subst h0;have Z:=(EM Y).1 rfl;subst Z;have X:Gc ws []=0:=CV (CL ws).nodup (CM ws);exact⟨0,by rw[JP Y,X];rfl,λ_=>rfl,λh=>absurd h (Nat.lt_irrefl 0),CM ws⟩
 ·obtain⟨k,h1,h2,h3⟩:=(aiJ ws (z+1)).at_ (Nat.lt_succ_self z) Y h0;exact⟨k,h1,λh=>absurd h h0,λ_=>h2,h3⟩
theorem agw{z:Nat}(h0:0<z)(Z:z<(AB ws).length):(((Bo ws)[z]?).getD 0).toNat<z:=by
 obtain⟨k,h1,_,h3,_⟩:=Nh (ws:=ws) (z:=z) (x:=(AB ws)[z]) sm;rw[h1]
 simpa using h3 h0
theorem Lk(ws:Lq):nx ws 0=0:=Ll _ _ _
theorem ajZ{z k:Nat}(h0:0<z)(Y:z<(AB ws).length)(hk:(Bo ws)[z]?=some (k:Int)){v:Int}(X:(AG ws).wrd[k]?=some v):nx ws z=if 0<=v then k else nx ws k:=by
 obtain⟨f,rfl⟩:∃f,z=f+1:=⟨z-1,by omega⟩;have Z:=agw h0 Y;unfold nx
 conv=>lhs;unfold nxN
 rw[hk,CG,Aa]at Z⊢;rw[Va om,X,CG]
 split
 ·rfl
 ·exact agR (B:=f) (λz h1 h2=>agw h1 om) om om (AC _)
theorem Jt(ws:Lq):(AG ws).wrd.length=(AB ws).length/\(AG ws).dep.length=(AB ws).length/\(AG ws).up.length=(AB ws).length/\(AG ws).byt.length=(AB ws).length:=by simp[AG]
theorem aom:∀{z:Nat}{x:List Int},(AB ws)[z]?=some x->∃y,(AB ws)[nx ws z]?=some y/\(0<z->nx ws z<z/\y.length<x.length)/\(0<nx ws z->∃v:Int,(AG ws).wrd[nx ws z]?=some v/\0<=v):=by
 intro z
 induction z using Nat.strongRecOn with
 |_ z ih=>
  intro x J;have D:=(AP.1 J).1
  by_cases h0:z=0
  ·subst h0;exact⟨[],by rw[Lk];exact CM ws,λh=>absurd h (Nat.lt_irrefl 0),λh=>by rw[Lk]at h;exact absurd h (Nat.lt_irrefl 0)⟩
  ·obtain⟨k,h1,_,h3,h4⟩:=Nh J;have Y:x≠[]:=λe=>h0 ((EM J).2 e);have B:=Lx (N:=AB ws) Y;have X:=h3 om;obtain⟨v,H⟩:∃v,(AG ws).wrd[k]?=some v:=⟨(AG ws).wrd[k]'(by rw[(Jt ws).1];omega),by simp⟩;have V:=ajZ om D h1 H
   by_cases Z:0<=v
   ·rw[Vb Z]at V;rw[V];exact⟨_,h4,λ_=>⟨X,B⟩,λ_=>⟨v,H,Z⟩⟩
   ·rw[Va Z]at V;obtain⟨y,U,e2,A⟩:=ih k X h4;rw[V];refine⟨y,U,λ_=>?_,A⟩
    by_cases I:k=0
    ·subst I;rw[Lk]at U⊢;rw[CM]at U;have C:=AK U;rw[<-C];refine⟨by omega,?_⟩;have:x.length≠0:=λe=>Y (Bz e);simp;omega
    ·obtain⟨o,s⟩:=e2 om;exact⟨by omega,by omega⟩
theorem ID{z:Nat}(Z:z<(AB ws).length):(Bk ws)[z]?=some (nx ws z:Int):=by simp[Bk,Z]
theorem aim(ws:Lq):(Bk ws).length=(AB ws).length:=by simp[Bk]
end
def Ed(nxt wd:List Int):Nat->Nat->List Nat
 |0,_=>[]
 |f+1,z=>if z=0 then [] else(if 0<=(wd[z]?).getD (-1) then [z] else [])++Ed nxt wd f ((nxt[z]?).getD 0).toNat
theorem JZ(nxt wd:List Int)(f:Nat):Ed nxt wd f 0=[]:=by cases f<;>simp[Ed]
theorem aaK(nxt wd:List Int)(f z:Nat):Ed nxt wd (f+1) z=if z=0 then [] else(if 0<=(wd[z]?).getD (-1) then [z] else [])++Ed nxt wd f ((nxt[z]?).getD 0).toNat:=rfl
theorem acq{nxt wd:List Int}{B:Nat}(Z:∀z,0<z->z<=B->((nxt[z]?).getD 0).toNat<z):∀{f g z:Nat},z<=B->z<=f->z<=g->Ed nxt wd f z=Ed nxt wd g z
 |0,g,z,hb,hf,hg=>by
  obtain rfl:z=0:=by omega
  rw[JZ,JZ]
 |f+1,0,z,hb,hf,hg=>by
  obtain rfl:z=0:=by omega
  rw[JZ,JZ]
 |f+1,g+1,z,hb,hf,hg=>by
  unfold Ed
  by_cases h0:z=0
  ·rw[Vb h0,Vb h0]
  ·rw[Va h0,Va h0];have:=Z z om hb;rw[acq Z (show((nxt[z]?).getD 0).toNat<=B by omega) (show _<=f by omega) (show _<=g by omega)]
theorem abd(nxt wd:List Int):∀(f z:Nat),(Ed nxt wd f z).length<=f
 |0,z=>by simp[Ed]
 |f+1,z=>by
  unfold Ed
  split
  ·simp
  ·have:=abd nxt wd f ((nxt[z]?).getD 0).toNat;rw[List.length_append]
   split<;>simp<;>omega
def Fh(ws:Lq)(z:Nat):List Nat:=Ed (Bk ws) (AG ws).wrd z z
theorem NW{ws:Lq}{z:Nat}(h0:0<z)(Z:z<(AB ws).length):(((Bk ws)[z]?).getD 0).toNat<z:=by rw[ID Z,CG,Aa];obtain⟨y,_,h,_⟩:=aom (ws:=ws) (z:=z) (x:=(AB ws)[z]) sm;exact(h h0).1
theorem akm{ws:Lq}{z:Nat}(h0:0<z)(Y:z<(AB ws).length):Fh ws z=(if 0<=((AG ws).wrd[z]?).getD (-1) then [z] else [])++Fh ws (nx ws z):=by obtain⟨f,rfl⟩:∃f,z=f+1:=⟨z-1,by omega⟩;have Z:=NW h0 Y;unfold Fh;rw[aaK,Va om];rw[ID Y,CG,Aa]at Z⊢;congr 1;exact acq (B:=f) (λz h1 h2=>NW h1 om) om om (AC _)
end
def nTo(P:List Int)(n j:Nat):List Int:=P.take j++List.replicate (n-j) 0
theorem anz{P:List Int}{n j:Nat}(Z:P.length=n)(Y:j<=n):(nTo P n j).length=n:=by unfold nTo;rw[List.length_append,Ag,CS];omega
theorem aoJ{P:List Int}{n j i:Nat}(Z:i<j)(X:j<=n)(Y:P.length=n):(nTo P n j)[i]?=P[i]?:=by unfold nTo;rw[By (by rw[Ag];omega),FT,Vb Z]
theorem an7{P:List Int}{n:Nat}(h1:1<=n)(h0:P[0]?=some 0):nTo P n 1=List.replicate n 0:=by obtain⟨m,rfl⟩:∃m,n=m+1:=⟨n-1,by omega⟩;have Z:=As h0;unfold nTo;rw[Z,Ip];simp
theorem ano{P:List Int}{n j:Nat}{v:Int}(V:P.length=n)(U:j<n)(Z:P[j]?=some v):(nTo P n j).set j v=nTo P n (j+1):=by
 unfold nTo;obtain⟨m,Y⟩:∃m,n-j=m+1:=⟨n-j-1,by omega⟩;have X:(P.take j).length=j:=by rw[Ag];omega
 rw[Jm _ _ om,X,FG,Y,Ip,List.set_cons_zero,As Z,show n-(j+1)=m by omega,CE]
 rfl
theorem anP{P:List Int}{n:Nat}(Z:P.length=n):nTo P n n=P:=by unfold nTo;rw[FG,List.replicate_zero,Cx,Ap om]
structure OD(W:World)(base g:Nat)(t:TV)(ws:Lq):Prop where
 ex:∃q:Nat,W.heap[g]?=some (.cells #[slice t.ua t.un t.uc,slice t.da t.dn t.dc,slice t.xa t.xn t.xc,slice t.ba t.bn t.bc,slice (some ⟨q,0,none⟩) (AB ws).length (AB ws).length] 238 (0,0))/\AU q (Bk ws) W/\base<=g/\base<=q
theorem OD.below{W V:World}{base g:Nat}{t:TV}{ws:Lq}(h:OD W base g t ws)(Z:Br W V):OD V base g t ws:=by obtain⟨q,h1,h2,h3⟩:=h.ex;exact⟨q,(Z.block g (AD.1 h1).1).trans h1,(Z.block q (AD.1 (show W.heap[q]?=_ from h2)).1).trans h2,h3⟩
theorem ae2(t:TV)(T:Ay)(sp ws:Lq)(w:World)(hT:Tri w t T)(hb:t.un<=140737488351232)(hr:CI T=some (sp,ws)) :Calls ZP 133 #[.agg t.cells] w λe w'=>∃g,e=.returned (.tuple #[pointer (some ⟨g,0,none⟩),bool true])/\OD w' w.heap.size g t ws/\Br w w':=by
 have a2:=Hx hr;obtain⟨_,ab,_⟩:=Fy.1 hr;obtain⟨ua,un,uc,da,dn,dc,xa,xn,xc,ba,bn,bc⟩:=t;have Y:xn=(AB ws).length:=by have:=hT.wrd.1;rw[ab]at this;simp[AG]at this;exact this.symm
 have ar:=AA Y;clear Y;have a6:1<=(AB ws).length:=by have:=Lo ws;have:(AB ws).length≠0:=λe=>this (Bz e);omega
 obtain⟨W,hW⟩:∃W,W=w.alloc (.cells #[slice ua un uc,slice da dn dc,slice xa xn xc,slice ba bn bc] 150):=⟨_,rfl⟩;have hB:Br w W:=by rw[hW];exact AL _ _
 have hQ:W.heap[w.heap.size]?=some (.cells #[slice ua un uc,slice da dn dc,slice xa xn xc,slice ba bn bc] 150 (0,0)):=by rw[hW];exact AT _ _
 have c0:W.cell? ⟨w.heap.size,0,none⟩=some (slice ua un uc):=by simp[cell?,hQ]
 have c1:W.cell? ⟨w.heap.size,1,none⟩=some (slice da dn dc):=by simp[cell?,hQ]
 have c2:W.cell? ⟨w.heap.size,2,none⟩=some (slice xa xn xc):=by simp[cell?,hQ]
 have c3:W.cell? ⟨w.heap.size,3,none⟩=some (slice ba bn bc):=by simp[cell?,hQ]
 have HC:=AA (ack _ T sp ws W (hT.below hB) hb hr);have aK:Hid (Sl1 (int i64) w xa xn (AG ws).wrd):=by rw[Hid,<-ab];exact hT.wrd
 clear hT hr ab;go_enter func133,ntmps133;go_upto_region 1 with fail
 rw[<-hW];clear hW
 go_wp2_with fail
 refine HC.out.mono ?_;rintro e A ⟨q0,rfl,o,aP,aa⟩;have D:=hB.trans (aa.mono hB.size);have X:A.heap[w.heap.size]?=_:=(aa.block _ (AD.1 hQ).1).trans hQ;clear c0 c1 c2 c3 hQ HC hB aa;have aL:=AA (aK.out.below D);have aM:=AA X;obtain⟨n,a1⟩:∃n,(AB ws).length=n:=⟨_,rfl⟩;have N:=AA a1;have Y:=ar.out;rw[a1]at a2 a6 Y⊢;clear ar
 replace Y:=Y.symm
 subst Y;have az:∀V:World,(Instr.makeSlice 30 (int i64 n) (int i64 n)).run ZP V=.ok (slice (some ⟨V.heap.size,0,none⟩) n n) (V.alloc (.cells (GE n) 3)):=λV=>by
  obtain⟨i0,hi,aw,ac,av⟩:=Vk JS;have h:=run_makeSlice (P:=ZP) (w:=V) 30 3 i0 (.int .i64 0) underlying30 hi aw .i64 .i64 (n:Int) (n:Int) om om (by rw[ac];omega) (by rw[av];omega) om;rw[ac]at h;have e1:(n:Int).toNat*1=n:=by omega
  rw[e1,Nc,Aa]at h;exact h
 clear a1;have ak:w.heap.size<A.heap.size:=(AD.1 X).1;have ai:w.heap.size≠A.heap.size:=by omega
 have aj:w.heap.size<A.heap.size+1:=by omega
 have c0:A.cell? ⟨w.heap.size,0,none⟩=some (slice ua un uc):=by simp[cell?,X]
 have c1:A.cell? ⟨w.heap.size,1,none⟩=some (slice da dn dc):=by simp[cell?,X]
 have c2:A.cell? ⟨w.heap.size,2,none⟩=some (slice xa n xc):=by simp[cell?,X]
 have c3:A.cell? ⟨w.heap.size,3,none⟩=some (slice ba bn bc):=by simp[cell?,X]
 go_upto_region 4 with fail
 go_cut[6] (λs6 wx=>∃g q:Nat,s6=pointer (some ⟨g,0,none⟩)/\wx.heap[g]?=some (.cells #[slice ua un uc,slice da dn dc,slice xa n xc,slice ba bn bc,slice (some ⟨q,0,none⟩) n n] 238 (0,0))/\AU q (List.replicate n 0) wx/\g≠q/\A.heap.size<=g/\A.heap.size<=q/\Br A wx)
 case first=>
  go_region
  all_goals
   go_wp2_with fail
   go_meet
   refine⟨A.heap.size+1,A.heap.size,rfl,Hf sm _,?_,by omega,by omega,by omega,?_⟩
   ·exact(Bg _ _ _ sm).trans (AU.new A n)
   ·exact((AL A _).alloc sm _).trans ⟨rfl,rfl,rfl,AC _,λ_ _=>rfl⟩
 case rest=>
  obtain⟨g,q,rfl,hg,H,aD,aU,af,Z⟩:=hcut;clear c0 c1 c2 c3 az ai aj X;have ap:∀V:World,Br A V->AU q0 (Bo ws) V:=λV hV=>(hV.block q0 (AD.1 (show A.heap[q0]?=_ from o)).1).trans o;have aO:=AA ap;have aN:Hid ((Bk ws)[0]?=some 0):=by rw[Hid,ID (by rw[N.out];omega),Lk];rfl
  have C:Hid ((Bk ws).length=n):=by rw[Hid,aim,N.out]
  have ag:AU q (nTo (Bk ws) n 1) wc:=by rw[an7 a6 aN.out];exact H
  clear ap H o;go_wp2
  go_loopw[7] (λs7 wr=>∃j:Nat,1<=j/\j<=n/\s7=int i64 j/\wr.heap[g]?=some (.cells #[slice ua un uc,slice da dn dc,slice xa n xc,slice ba bn bc,slice (some ⟨q,0,none⟩) n n] 238 (0,0))/\AU q (nTo (Bk ws) n j) wr/\Br A wr) (λs _=>n-(intOf s).toNat)
  case atStart=>exact⟨1,AC _,a6,rfl,hg,ag,Z⟩
  case round=>
   clear hg ag Z;obtain⟨j,aS,am,rfl,hg,H,Z⟩:=hrel
   by_cases a8:j<n
   ·have hd:decide ((j:Int)<n)=true:=by simp;omega
    obtain⟨x,hx⟩:∃x,(AB ws)[j]?=some x:=⟨(AB ws)[j]'(by have:=N.out;omega),by simp⟩;obtain⟨k,a7,_,al,aC⟩:=Nh hx;have aB:=al om;obtain⟨b0,o0,v,e0,aA,cv,hv⟩:=DG aL.out (show k<n by omega);have B:=ajZ om (by rw[N.out];exact a8) a7 hv;have U:=ID (ws:=ws) (z:=j) (by rw[N.out];exact a8);rw[B]at U;have aR:wr.cell? ⟨q0,j,none⟩=some (int i64 (k:Int)):=by rw[cell_of_row wr q0 j _ _ _ (aO.out wr Z)];simp[a7]
    have ao:wr.heap[w.heap.size]?=_:=(Z.block _ ak).trans aM.out;have x2:wr.cell? ⟨w.heap.size,2,none⟩=some (slice xa n xc):=by simp[cell?,ao]
    subst e0;have aW:wr.cell? ⟨b0,o0+k,none⟩=some (int i64 v):=(Z.cell (p:=⟨b0,o0+k,none⟩) aA).trans cv;have g4:wr.cell? ⟨g,4,none⟩=some (slice (some ⟨q,0,none⟩) n n):=by simp[cell?,hg]
    have ax:=anz (P:=Bk ws) C.out am;have I:∀(i:Nat)(y:Int),(nTo (Bk ws) n j)[i]?=some y->wr.cell? ⟨q,i,none⟩=some (int i64 y):=λi y hy=>by rw[cell_of_row wr q i _ _ _ H];simp[hy]
    have aE:wr.frozen? ⟨q,j,none⟩=false:=by simp[frozen?,show wr.heap[q]?=_ from H]
    obtain⟨y0,ae⟩:∃y,(nTo (Bk ws) n j)[j]?=some y:=⟨(nTo (Bk ws) n j)[j]'om,by simp⟩;have cj:=I j y0 ae;have ck:=I k (nx ws k) (by rw[aoJ aB am C.out];exact ID (by rw[N.out];omega));have aT:g<wr.heap.size:=(AD.1 hg).1;have ay:q<wr.heap.size:=(AD.1 (show wr.heap[q]?=_ from H)).1;have aq:∀z:Int,(Bk ws)[j]?=some z->AU q (nTo (Bk ws) n (j+1)) (wr.setCell ⟨q,j,none⟩ (int i64 z))/\(wr.setCell ⟨q,j,none⟩ (int i64 z)).heap[g]?=some (.cells #[slice ua un uc,slice da dn dc,slice (some ⟨b0,o0,none⟩) n xc,slice ba bn bc,slice (some ⟨q,0,none⟩) n n] 238 (0,0))/\Br A (wr.setCell ⟨q,j,none⟩ (int i64 z)):=λz hz=>
     ⟨by have:=H.set (j:=j) z;rwa[ano C.out a8 hz]at this,(AQ _ _ _ _ (by show g≠q;exact aD)).trans hg,Z.setCell af _⟩
    have au:=AA aq;have j1:(0:Int)<=(j:Int):=by omega
    have j2:(j:Int)<(n:Int):=by omega
    have k1:(0:Int)<=(k:Int):=by omega
    have k2:(k:Int)<(n:Int):=by omega
    clear aq hx a7 al aC hv B ao I ae ax
    by_cases J:0<=v
    ·have dv:decide ((0:Int)<=v)=true:=by simpa using J
     rw[Vb J]at U;obtain⟨f1,f2,f3⟩:=au.out _ U;clear U J;go_wp2
     go_roundw
     case rel=>exact⟨j+1,by omega,by omega,by go_num,f2,f1,f3⟩
     case measure=>simp[intOf];omega
    ·have dv:decide ((0:Int)<=v)=false:=by simpa using J
     rw[Va J]at U;clear J;go_upto_region 11 with fail
     refine Hw 13 mixed kr ?_;dsimp only[List.take_succ_cons,List.take_zero,List.drop_succ_cons,List.drop_zero]
     repeat (go_big_quiet_step (fail))
     refine wpQuiet_nil ?_;rintro _ ⟨nq,rfl⟩;obtain⟨f1,f2,f3⟩:=au.out _ U;have aF:((wr.drewN nq).setCell ⟨q,j,none⟩ (int i64 (nx ws k:Int))).heap=(wr.setCell ⟨q,j,none⟩ (int i64 (nx ws k:Int))).heap:=rfl;have aJ:AU q (nTo (Bk ws) n (j+1)) ((wr.drewN nq).setCell ⟨q,j,none⟩ (int i64 (nx ws k:Int))):=f1;have aI:((wr.drewN nq).setCell ⟨q,j,none⟩ (int i64 (nx ws k:Int))).heap[g]?=some (.cells #[slice ua un uc,slice da dn dc,slice (some ⟨b0,o0,none⟩) n xc,slice ba bn bc,slice (some ⟨q,0,none⟩) n n] 238 (0,0)):=f2;have aH:Br A ((wr.drewN nq).setCell ⟨q,j,none⟩ (int i64 (nx ws k:Int))):=(Z.trans ((AN wr nq).mono Z.size)).setCell af _;have aX:(wr.drewN nq).cell? ⟨q,j,none⟩=some (int i64 y0):=cj;have aV:(wr.drewN nq).frozen? ⟨q,j,none⟩=false:=aE;have aQ:q<(wr.drewN nq).heap.size:=ay;clear f1 f2 f3 aF U;go_wp2
     go_roundw
     case rel=>exact⟨j+1,by omega,by omega,by go_num,aI,aJ,aH⟩
     case measure=>simp[intOf];omega
   ·obtain rfl:j=n:=by omega
    have hd:decide ((j:Int)<j)=false:=by simp
    rw[anP C.out]at H;have aG:=D.trans (Z.mono D.size);have hs:=D.size;go_wp2;go_ret2;exact⟨g,rfl,⟨⟨q,by rw[N.out];exact hg,H,by omega,by omega⟩⟩,aG⟩
section
attribute[local go_sem] Oper.semAt_some
attribute[local simp] Ak Al
attribute[local go_sem] Ak Al
abbrev NdP(n:Nat):={z:Nat // z<n}
def anB{n:Nat}(z:NdP n):Array Value:=#[int i64 (z.1:Int)]
theorem ak9(g:Nat)(node:Int)(w:World) :Calls ZP 136 #[.pointer (some ⟨g,0,none⟩),.int .i64 node] w λe w'=>e=.returned (.func (.func 188) #[] #[.pointer (some ⟨w.heap.size+1,0,none⟩),.pointer (some ⟨w.heap.size,0,none⟩)])/\
   w'=(w.alloc (.cells #[pointer (some ⟨g,0,none⟩)] 234)).alloc (.cells #[int i64 node] 3):=by
 go_enter func136,ntmps136;go_wp2;go_ret;exact⟨rfl,rfl⟩
theorem ahI(ws:Lq)(g p1 p2 q n C o0 xc:Nat)(z0:Nat)(s0 s1 s3:Value)(S:Nat->Prop)(m:Nat)(w:World)
  (hg:w.heap[g]?=some (.cells #[s0,s1,slice (some ⟨C,o0,none⟩) n xc,s3,slice (some ⟨q,0,none⟩) n n] 238 (0,0))) (hq:AU q (Bk ws) w) (hN:(AB ws).length=n) (hn:n<=1000000)
  (hW:∀(i:Nat)(v:Int),(AG ws).wrd[i]?=some v->w.cell? ⟨C,o0+i,none⟩=some (int i64 v))
  (h1:Boxed w p1 234 (pointer (some ⟨g,0,none⟩))) (h2:Boxed w p2 3 (int i64 (z0:Int)))
  (hS:S g/\S q/\S p1/\S p2/\S C) (D:∀k,S k->k<w.heap.size) (ag:z0<n) :
  SeqStopsK Fence.wide m ZP 188 #[pointer (some ⟨p2,0,none⟩),pointer (some ⟨p1,0,none⟩)] anB (Cc S) (λzs:List (NdP n)=>zs.map Subtype.val=Fh ws z0) (λZ=>∃r,Fh ws z0=Z.map Subtype.val++r) (z0+1) w:=by
 intro l J Jx W ac hJ aj hY h0;obtain⟨aa,A,a8,a7,a6⟩:=hS;have cells:∀v:World,Cc S w v->v.cell? ⟨p1,0,none⟩=some (.pointer (some ⟨g,0,none⟩))/\v.cell? ⟨p2,0,none⟩=some (.int .i64 (z0:Int))/\v.cell? ⟨g,2,none⟩=some (.slice (some ⟨C,o0,none⟩) n xc)/\v.cell? ⟨g,4,none⟩=some (.slice (some ⟨q,0,none⟩) n n)/\
   (∀(j:Nat)(x:Int),(Bk ws)[j]?=some x->v.cell? ⟨q,j,none⟩=some (int i64 x))/\(∀(j:Nat)(x:Int),(AG ws).wrd[j]?=some x->v.cell? ⟨C,o0+j,none⟩=some (int i64 x)):=by
  intro v X;have e1:v.heap[p1]?=some (.cells #[pointer (some ⟨g,0,none⟩)] 234 (0,0)):=(X p1 a8).trans h1;have e2:v.heap[g]?=_:=(X g aa).trans hg;have e3:v.heap[q]?=some (.cells ((Bk ws).map (int i64)).toArray 3 (0,0)):=(X q A).trans hq;have e4:v.heap[p2]?=some (.cells #[int i64 (z0:Int)] 3 (0,0)):=(X p2 a7).trans h2;refine⟨by simp[cell?,e1],by simp[cell?,e4],by simp[cell?,e2],by simp[cell?,e2],λj x hx=>?_,λj x hx=>?_⟩
  ·rw[cell_of_row v q j _ _ _ e3];simp[hx]
  ·rw[<-hW j x hx];exact BC (X C a6)
 have HC:=AA cells;have H:Cc S w W:=Ke ac D;have N:=AA hN;have al:=AA D;clear hg hq h1 h2 cells hW hN D;obtain⟨c1,c2,_,_,_,_⟩:=HC.out W H;refine callsIn_of_wp func188 rfl trivial ?_ rfl;simp only[ntmps188,Cw,Ao,Bw,Nat.reduceAdd,Nat.reduceSub,Dd,Dc,DX,Da,Av,CT]
 gi_wp2
 clear c1 c2
 gi_loopw[4] (λs4 wr=>∃(z f:Nat)(Z:List (NdP n)),z<=f/\z<=z0/\s4=int i64 (z:Int)/\Hid (Fh ws z0=Z.map Subtype.val++Ed (Bk ws) (AG ws).wrd f z)/\J Z wr/\Cc S w wr) (λs _=>(intOf s).toNat)
 case atStart=>exact⟨z0,z0,[],AC _,AC _,rfl,rfl,h0,H⟩
 case round=>
  clear H;obtain⟨z,f,Z,af,ae,rfl,HP,hj,hk⟩:=hrel;obtain⟨c1,c2,c3,c4,c5,c6⟩:=HC.out wr hk
  by_cases hz:z=0
  ·subst hz;have B:Hid (Z.map Subtype.val=Fh ws z0):=by rw[Hid,HP.out,JZ,Cx]
   gi_wp2
   go_end0
   exact⟨⟨_,rfl⟩,.inl ⟨Z,B.out,hj⟩⟩
  ·obtain⟨f,rfl⟩:∃f',f=f'+1:=⟨f-1,by omega⟩;obtain⟨v,X⟩:∃v,(AG ws).wrd[z]?=some v:=⟨(AG ws).wrd[z]'(by rw[(Jt ws).1,N.out];omega),by simp⟩;have U:=ID (ws:=ws) (z:=z) (by rw[N.out];omega);have ab:=NW (ws:=ws) (z:=z) om (by rw[N.out];omega);have Y:=HP.out;rw[aaK,Va hz,X,CG]at Y;rw[U,CG,Aa]at Y ab;have cw:=c6 z v X;have cn:=c5 z _ U;have ai:((z:Int) != 0)=true:=by simp;omega
   have i1:(0:Int)<=(z:Int):=by omega
   have i2:(z:Int)<(n:Int):=by omega
   have I:z<n:=by omega
   by_cases V:0<=v
   ·have dv:decide ((0:Int)<=v)=true:=by simpa using V
    rw[Vb V]at Y;have B:Hid (Fh ws z0=(Z++[(⟨z,I⟩:NdP n)]).map Subtype.val++Ed (Bk ws) (AG ws).wrd f (nx ws z)):=by rw[Hid,Y];simp
    have o:Z.length<z0+1:=by have h1:=congrArg List.length Y;have h2:=abd (Bk ws) (AG ws).wrd z0 z0;unfold Fh at h1;rw[List.length_append,List.length_append,BP,OK]at h1;omega
    obtain⟨fn,tmps,assign,body,y,a2⟩:=hY Z ⟨z,I⟩ wr hj o;dsimp only[anB]at y;clear Y X U
    gi_wp2
    refine a2.mono ?_;rintro e W4 (⟨rfl,hJ4,hk4⟩|⟨rfl,hJx4⟩)
    ·have a1:=GD hk hk4;obtain⟨d1,d2,d3,d4,d5,d6⟩:=HC.out W4 a1;have dn:=(hk4 q A);have ak:W4.cell? ⟨q,z,none⟩=some (int i64 (nx ws z:Int)):=d5 z _ (ID (by rw[N.out];omega));clear c1 c2 c3 c4 c5 c6 cw cn d5 d6 a2 y dn
     gi_wp2
     go_roundw
     case rel=>exact⟨nx ws z,f,_,by omega,by omega,rfl,B,hJ4,a1⟩
     case measure=>simp[intOf];omega
    ·have HG:Hid (∃r,Fh ws z0=(Z++[(⟨z,I⟩:NdP n)]).map Subtype.val++r):=⟨_,B.out⟩
     gi_wp2
     refine Vl (results_none rfl _ _ _) rfl ?_;exact⟨⟨_,rfl⟩,.inr ⟨_,HG.out,hJx4⟩⟩
   ·have dv:decide ((0:Int)<=v)=false:=by simpa using V
    rw[Va V,Av]at Y;have B:=AA Y;clear Y X U c5 c6
    gi_wp2
    go_roundw
    case rel=>exact⟨nx ws z,f,Z,by omega,by omega,rfl,B,hj,hk⟩
    case measure=>simp[intOf];omega
end
section
attribute[local go_sem] Oper.semAt_some
attribute[local simp] Ak Al
attribute[local go_sem] Ak Al
theorem ane(W:World)(z:Int):SlK 1 (W.alloc (.cells #[int i64 z] 3)) (some ⟨W.heap.size,0,none⟩) 1 [int i64 z]:=
 ⟨rfl,.inr ⟨_,_,rfl,by simp,λi u Z=>by
  have:=GI (w:=W) #[int i64 z] 3 rfl i u (by simpa using Z)
  rwa[Cf]at this⟩⟩
theorem ak6(t:TV)(T:Ay)(X ws:Lq)(w:World)(U:Tri w t T)(J:t.un<=140737488351232)(V:CI T=some (X,ws)) :Calls ZP 88 #[.agg t.cells] w λe w'=>∃q,e=.returned (.tuple #[slice (some ⟨q,0,none⟩) (AB ws).length (AB ws).length,int i64 0])/\AU q (Bk ws) w'/\w.heap.size<=q/\Br w w':=by
 obtain⟨ua,un,uc,da,dn,dc,xa,xn,xc,ba,bn,bc⟩:=t;have hB:=AL w (.cells #[slice ua un uc,slice da dn dc,slice xa xn xc,slice ba bn bc] 150);have I:=AA (ae2 _ T X ws _ (U.below hB) J V);clear U V;go_enter func88,ntmps88
 go_wp2_with fail
 refine I.out.mono ?_;rintro e N ⟨g,rfl,Y,Z⟩;obtain⟨q,h1,h3,h6,h7⟩:=Y.ex;have c5:N.cell? ⟨g,4,none⟩=some (slice (some ⟨q,0,none⟩) (AB ws).length (AB ws).length):=by simp[cell?,h1]
 simp only[DN]at h7;clear h1;go_wp2;go_ret2;exact⟨q,rfl,h3,by omega,hB.trans (Z.mono hB.size)⟩
end
section
attribute[local go_sem] Oper.semAt_some
attribute[local simp] Ak Al
attribute[local go_sem] Ak Al
def CA(ws:Lq)(z:Nat):List Int:=(Fh ws z).map λn=>((AG ws).wrd[n]?).getD 0
def DW(base b:Nat)(w W:World):Prop:=(∀k,k<base->k≠b->W.heap[k]?=w.heap[k]?)/\base<=W.heap.size
theorem aaq{base b:Nat}{v w:World}(h:DW base b v w)(o:Obj):DW base b v (w.alloc o):=⟨λk h1 h2=>((AL w o).block k (Af h1 h.2)).trans (h.1 k h1 h2),by have:=h.2;rw[DN];omega⟩
end
theorem afO(ws:Lq):CA ws 0=[]:=by
 unfold CA Fh;rw[JZ]
 rfl
theorem acI{ws:Lq}{z:Nat}{v:Int}(h0:0<z)(Y:z<(AB ws).length)(Z:(AG ws).wrd[z]?=some v):CA ws z=(if 0<=v then [v] else [])++CA ws (nx ws z):=by
 unfold CA;rw[akm h0 Y,Z,CG,Aj];congr 1
 split
 ·rw[BO,Z];rfl
 ·rfl
def mcC(L:List Int)(m n:Int)(row:Value)(fold:Bool)(sw:Value)(lo mo:Int)(wd:Value):List Value:=L.map (int i64)++[int i64 m,int i64 n,row,bool fold,sw,int i64 lo,int i64 mo,wd]
structure Mc(W:World)(B:Nat)(L:List Int)(m n:Int)(row:Value)(fold:Bool)(sw:Value)(lo mo:Int)(wd:Value):Prop where
 box:W.heap[B]?=some (.cells (mcC L m n row fold sw lo mo wd).toArray 162 (0,0))
 len:L.length=256
section
variable {W V:World}{B:Nat}{L:List Int}{m n:Int}{row:Value}{fold:Bool}{sw:Value}{lo mo:Int}{wd:Value}
theorem Mc.lt(h:Mc W B L m n row fold sw lo mo wd):B<W.heap.size:=(AD.1 h.box).1
theorem Mc.below(h:Mc W B L m n row fold sw lo mo wd)(Z:Br W V):Mc V B L m n row fold sw lo mo wd:=⟨(Z.block B h.lt).trans h.box,h.len⟩
theorem Mc.cls(h:Mc W B L m n row fold sw lo mo wd){c:Nat}{v:Int}(Z:L[c]?=some v):W.cell? ⟨B,c,none⟩=some (int i64 v):=by
 have Y:c<256:=by have:=(AP.1 Z).1;have:=h.len;omega
 have e:(mcC L m n row fold sw lo mo wd)[c]?=some (int i64 v):=by
  unfold mcC;rw[By (by simp[h.len];omega),BU,Z]
  rfl
 simp only[cell?,h.box];simp[e]
theorem Mc.off(h:Mc W B L m n row fold sw lo mo wd){i:Nat}{v:Value}(Z:[int i64 m,int i64 n,row,bool fold,sw,int i64 lo,int i64 mo,wd][i]?=some v):W.cell? ⟨B,256+i,none⟩=some v:=by
 have e:(mcC L m n row fold sw lo mo wd)[256+i]?=some v:=by
  unfold mcC;rw[DY (by simp[h.len])]
  simpa[h.len]using Z
 simp only[cell?,h.box];simp[e]
theorem Mc.cells(h:Mc W B L m n row fold sw lo mo wd):W.cell? ⟨B,256,none⟩=some (int i64 m)/\W.cell? ⟨B,257,none⟩=some (int i64 n)/\W.cell? ⟨B,258,none⟩=some row/\W.cell? ⟨B,259,none⟩=some (bool fold)/\W.cell? ⟨B,260,none⟩=some sw/\W.cell? ⟨B,261,none⟩=some (int i64 lo)/\W.cell? ⟨B,262,none⟩=some (int i64 mo)/\W.cell? ⟨B,263,none⟩=some wd:=⟨h.off (i:=0) rfl,h.off (i:=1) rfl,h.off (i:=2) rfl,h.off (i:=3) rfl,h.off (i:=4) rfl,h.off (i:=5) rfl,h.off (i:=6) rfl,h.off (i:=7) rfl⟩
end
def Lls(W:World)(a:Option Addr)(len:Nat)(Z:Lq):Prop:=
 ∃Y:List (Option Addr×Nat×Nat),Sl1 (λv=>slice v.1 v.2.1 v.2.2) W a len Y/\Y.length=Z.length/\∀(i:Nat)(v:Option Addr×Nat×Nat)(xs:List Int),Y[i]?=some v->Z[i]?=some xs->Sl1 (int i64) W v.1 v.2.1 xs/\v.2.1<=v.2.2
theorem Lls.below{W V:World}{a:Option Addr}{len:Nat}{Z:Lq}(h:Lls W a len Z)(U:Br W V):Lls V a len Z:=by obtain⟨N,h1,h2,h3⟩:=h;exact⟨N,h1.below U,h2,λi v xs X Y=>⟨(h3 i v xs X Y).1.below U,(h3 i v xs X Y).2⟩⟩
theorem Lls.at_{w:World}{a:Option Addr}{len:Nat}{Z:Lq}(h:Lls w a len Z){k:Nat}(hk:k<len) :∃b off J l c xs,a=some ⟨b,off,none⟩/\b<w.heap.size/\w.cell? ⟨b,off+k,none⟩=some (slice J l c)/\Z[k]?=some xs/\Sl1 (int i64) w J l xs/\l<=c:=by obtain⟨X,⟨h0,h1⟩,h2,h3⟩:=h;obtain⟨b,off,rfl,Y,I⟩:=h1.resolve_left om;obtain⟨v,N⟩:∃v,X[k]?=some v:=⟨X[k]'om,by simp⟩;obtain⟨x,U⟩:∃v,Z[k]?=some v:=⟨Z[k]'om,by simp⟩;exact⟨b,off,v.1,v.2.1,v.2.2,x,rfl,Y,I k v N,U,h3 k v x N U⟩
structure MOK(W:World)(B:Nat)(fold:Bool)(wss:Lq)(lo mo:Int)(R:Nat)(a:Option Addr)(la ca:Nat)(wa:Option Addr)(wc:Nat):Prop where
 mc:Mc W B (BF fold wss) (Ah fold wss) ((AB wss).length:Int) (slice (some ⟨R,0,none⟩) (Ah fold wss*(AB wss).length) (Ah fold wss*(AB wss).length)) fold (slice a la ca) lo mo (slice wa (AB wss).length wc)
 row:AU R (FN fold wss) W
 wds:Wds W a la wss
 lls:Lls W wa (AB wss).length ((List.range (AB wss).length).map (CA wss))
theorem MOK.below{W V:World}{B R X U wc:Nat}{fold:Bool}{wss:Lq}{lo mo:Int}{a Y:Option Addr}(h:MOK W B fold wss lo mo R a X U Y wc)(Z:Br W V):MOK V B fold wss lo mo R a X U Y wc:=⟨h.mc.below Z,(Z.block R h.row.lt).trans h.row,h.wds.below Z,h.lls.below Z⟩
theorem Nk(B:Nat)(L:List Int)(m n:Int)(row:Value)(fold:Bool)(sw:Value)(lo mo:Int)(wd:Value)(node:Int)(w:World)(h:Mc w B L m n row fold sw lo mo wd) :Calls ZP 271 #[pointer (some ⟨B,0,none⟩),int i64 node] w λe w'=>e=.returned (bool (decide (0<=node/\node<n)))/\w=w':=by
 have c5:=h.cells.2.1;clear h
 by_cases h0:0<=node
 ·have X:decide ((0:Int)<=node)=true:=by simpa using h0
  obtain⟨D,U⟩:∃D,decide (node<n)=D:=⟨_,rfl⟩;have Y:Hid (decide (0<=node/\node<n)=D):=by rw[Hid,<-U];simp[h0]
  clear h0;have Z:∀(r:Ending)(w':World),r=.returned (bool D)/\w=w'->r=.returned (bool (decide (0<=node/\node<n)))/\w=w':=λr w' h=>by rw[Y.out];exact h
  refine Calls.mono ?_ Z;clear Z Y;go_enter func271,ntmps271;go_wp2;go_ret;exact⟨rfl,rfl⟩
 ·have X:decide ((0:Int)<=node)=false:=by simpa using h0
  have Y:Hid (decide (0<=node/\node<n)=false):=by simp[Hid];omega
  have Z:∀(r:Ending)(w':World),r=.returned (bool false)/\w=w'->r=.returned (bool (decide (0<=node/\node<n)))/\w=w':=λr w' h=>by rw[Y.out];exact h
  refine Calls.mono ?_ Z;clear Z Y;go_enter func271,ntmps271;go_wp2;go_ret;exact⟨rfl,rfl⟩
section
attribute[local go_sem] Oper.semAt_some
attribute[local simp] Ak Al
attribute[local go_sem] Ak Al
def OX(x:Int):Array Value:=#[int i64 x]
theorem ain(t:TV)(a:Option Addr)(n c:Nat)(z:Int)(w:World) :Calls ZP 93 #[.agg t.cells,.slice a n c,.int .i64 z] w λe w'=>e=.returned (.func (.func 137) #[] #[.pointer (some ⟨w.heap.size+1+1,0,none⟩),.pointer (some ⟨w.heap.size+1,0,none⟩),.pointer (some ⟨w.heap.size,0,none⟩)])/\
   w'=((w.alloc (.cells t.cells 150)).alloc (.cells #[slice a n c] 30)).alloc (.cells #[int i64 z] 3):=by
 obtain⟨ua,un,uc,da,dn,dc,xa,xn,xc,ba,bn,bc⟩:=t;go_enter func93,ntmps93;go_wp2;go_ret;exact⟨rfl,rfl⟩
def Mg(ws:Lq)(l:List Nat):List Int:=l.map λn=>((AG ws).wrd[n]?).getD 0
theorem aez(ws:Lq)(p1 p2 p3 q n B o0 xc qc:Nat)(z0:Nat)(s0 s1 s3:Value)(S:Nat->Prop)(m:Nat)(w:World)
  (hg:w.heap[p3]?=some (.cells #[s0,s1,slice (some ⟨B,o0,none⟩) n xc,s3] 150 (0,0))) (hq:AU q (Bk ws) w) (hN:(AB ws).length=n) (hn:n<=1000000)
  (hW:∀(i:Nat)(v:Int),(AG ws).wrd[i]?=some v->w.cell? ⟨B,o0+i,none⟩=some (int i64 v))
  (h1:Boxed w p2 30 (slice (some ⟨q,0,none⟩) n qc)) (h2:Boxed w p1 3 (int i64 (z0:Int)))
  (hS:S p3/\S q/\S p1/\S p2/\S B) (a8:∀k,S k->k<w.heap.size) (hp:p1≠p3/\p1≠q/\p1≠p2/\p1≠B) (ar:z0<n) :
  abI Fence.wide m ZP 137 #[pointer (some ⟨p1,0,none⟩),pointer (some ⟨p2,0,none⟩),pointer (some ⟨p3,0,none⟩)] OX (Cc S) (λr=>r=p1) (λzs:List Int=>zs=CA ws z0) (λpre=>∃r,CA ws z0=pre++r) (z0+1) w:=by
 intro l J Jx W a7 hJ av hY h0;obtain⟨aj,ai,ag,af,ae⟩:=hS;obtain⟨n3,nq,n2,n0⟩:=hp;have cells:∀v:World,(∀k,S k->k≠p1->v.heap[k]?=w.heap[k]?)->v.cell? ⟨p2,0,none⟩=some (.slice (some ⟨q,0,none⟩) n qc)/\v.cell? ⟨p3,2,none⟩=some (.slice (some ⟨B,o0,none⟩) n xc)/\
   (∀(j:Nat)(x:Int),(Bk ws)[j]?=some x->v.cell? ⟨q,j,none⟩=some (int i64 x))/\(∀(j:Nat)(x:Int),(AG ws).wrd[j]?=some x->v.cell? ⟨B,o0+j,none⟩=some (int i64 x)):=by
  intro v U;have e1:v.heap[p2]?=some (.cells #[slice (some ⟨q,0,none⟩) n qc] 30 (0,0)):=(U p2 af (Ne.symm n2)).trans h1;have e2:v.heap[p3]?=_:=(U p3 aj (Ne.symm n3)).trans hg;have e3:v.heap[q]?=some (.cells ((Bk ws).map (int i64)).toArray 3 (0,0)):=(U q ai (Ne.symm nq)).trans hq;refine⟨by simp[cell?,e1],by simp[cell?,e2],λj x hx=>?_,λj x hx=>?_⟩
  ·rw[cell_of_row v q j _ _ _ e3];simp[hx]
  ·rw[<-hW j x hx];exact BC (U B ae (Ne.symm n0))
 have HC:=AA cells;have a6:∀k,S k->k≠p1->W.heap[k]?=w.heap[k]?:=λk hk _=>a7.block k (a8 k hk);have al:Boxed W p1 3 (int i64 (z0:Int)):=(a7.block p1 h2.lt).trans h2;have H:=AA hN;have am:=AA ag;clear hg hq h1 h2 cells hW hN a8;refine callsIn_of_wp func137 rfl trivial ?_ rfl;simp only[ntmps137,Cw,Ao,Bw,Nat.reduceAdd,Nat.reduceSub,Dd,Dc,DX,Da,Av,CT]
 gi_wp2
 gi_loopw[5] (λs5 wr=>∃(z f:Nat)(pre:List Int),z<=f/\z<=z0/\Hid (CA ws z0=pre++Mg ws (Ed (Bk ws) (AG ws).wrd f z))/\Hid (pre.length+f<=z0)/\Boxed wr p1 3 (int i64 (z:Int))/\J pre wr/\Hid (∀k,S k->k≠p1->wr.heap[k]?=w.heap[k]?)) (λ_ wr=>Ic p1 wr)
 case atStart=>exact⟨z0,z0,[],AC _,AC _,rfl,by simp[Hid],al,h0,a6⟩
 case round=>
  clear a6;obtain⟨z,f,pre,aq,ap,HP,y,V,hj,HK⟩:=hrel;have cz:=V.cell;have ab:=AA (Lm V)
  by_cases hz:z=0
  ·subst hz;have HF:Hid (pre=CA ws z0):=by rw[Hid,HP.out,JZ];simp[Mg]
   gi_wp2
   go_end0
   exact⟨⟨_,rfl⟩,.inl ⟨pre,HF.out,hj⟩⟩
  ·obtain⟨f,rfl⟩:∃f',f=f'+1:=⟨f-1,by omega⟩;obtain⟨c1,c2,c3,c4⟩:=HC.out wr HK.out;obtain⟨v,U⟩:∃v,(AG ws).wrd[z]?=some v:=⟨(AG ws).wrd[z]'(by rw[(Jt ws).1,H.out];omega),by simp⟩;have I:=ID (ws:=ws) (z:=z) (by rw[H.out];omega);have D:=NW (ws:=ws) (z:=z) om (by rw[H.out];omega);have Z:=HP.out;rw[aaK,Va hz,U,CG]at Z;rw[I,CG,Aa]at Z D;have cw:=c4 z v U;have cn:=c3 z _ I;have au:((z:Int) != 0)=true:=by simp;omega
   have i1:(0:Int)<=(z:Int):=by omega
   have i2:(z:Int)<(n:Int):=by omega
   have fz:=V.frozen;have ak:=V.lt
   by_cases N:0<=v
   ·have dv:decide ((0:Int)<=v)=true:=by simpa using N
    rw[Vb N]at Z;have HF:Hid (CA ws z0=(pre++[v])++Mg ws (Ed (Bk ws) (AG ws).wrd f (nx ws z))):=by rw[Hid,Z];simp[Mg,U]
    have a2:pre.length<z0+1:=by have:=y.out;omega
    obtain⟨fn,tmps,assign,body,a1,aa⟩:=hY pre v wr hj a2;dsimp only[OX]at a1;clear Z U I
    gi_wp2
    refine aa.mono ?_;rintro e W4 (⟨rfl,hJ4,hk4⟩|⟨rfl,hJx4⟩)
    ·have X:Boxed W4 p1 3 (int i64 (z:Int)):=(hk4 p1 am.out).trans V;have ac:Hid (∀k,S k->k≠p1->W4.heap[k]?=w.heap[k]?):=λk h1 h2=>(hk4 k h1).trans (HK.out k h1 h2);obtain⟨d1,d2,d3,d4⟩:=HC.out W4 ac.out;have ay:W4.cell? ⟨q,z,none⟩=some (int i64 (nx ws z:Int)):=d3 z _ (ID (by rw[H.out];omega));have ax:=X.cell;have aw:=X.frozen;have ao:=X.lt;have C:=adx hJ hJ4 (p:=p1) rfl 0 (int i64 (nx ws z:Int));have Y:=X.set (int i64 (nx ws z:Int));have A:=AA (Lm Y);have o:Hid (∀j,S j->j≠p1->(W4.setCell ⟨p1,0,none⟩ (int i64 (nx ws z:Int))).heap[j]?=w.heap[j]?):=λj h1 h2=>(AQ _ _ _ _ (by show j≠p1;exact h2)).trans (ac.out j h1 h2);have s:Hid ((pre++[v]).length+f<=z0):=by have:=y.out;rw[Hid,List.length_append,OK];omega
     clear c1 c2 c3 c4 cw cn d3 d4 aa a1 cz fz ak hJ4
     gi_wp2
     go_roundw
     case rel=>exact⟨nx ws z,f,_,by omega,by omega,HF,s,Y,C,o⟩
     case measure=>rw[ab.out,A.out];exact D
    ·have HG:Hid (∃r,CA ws z0=(pre++[v])++r):=⟨_,HF.out⟩
     gi_wp2
     refine Vl (results_none rfl _ _ _) rfl ?_;exact⟨⟨_,rfl⟩,.inr ⟨_,HG.out,hJx4⟩⟩
   ·have dv:decide ((0:Int)<=v)=false:=by simpa using N
    rw[Va N,Av]at Z;have HF:=AA Z;have C:=adx hJ hj (p:=p1) rfl 0 (int i64 (nx ws z:Int));have Y:=V.set (int i64 (nx ws z:Int));have A:=AA (Lm Y);have o:Hid (∀j,S j->j≠p1->(wr.setCell ⟨p1,0,none⟩ (int i64 (nx ws z:Int))).heap[j]?=w.heap[j]?):=λj h1 h2=>(AQ _ _ _ _ (by show j≠p1;exact h2)).trans (HK.out j h1 h2);have s:Hid (pre.length+f<=z0):=by have:=y.out;rw[Hid];omega
    clear Z U I c3 c4
    gi_wp2
    go_roundw
    case rel=>exact⟨nx ws z,f,pre,by omega,by omega,HF,s,Y,C,o⟩
    case measure=>rw[ab.out,A.out];exact D
end
theorem aev(fold:Bool)(a:Option Addr)(Z H:Nat)(wss:Lq)(w:World)(N:Wds w a Z wss)(B:Z<=1000000) :Calls ZP 91 #[.agg (AM fold a Z H)] w λe w'=>e=.returned (int i64 (Au wss))/\Br w w':=by
 have Y:Br w (w.alloc (.cells (AM fold a Z H) 24)):=(AH _ _).alloc (AC _) _;have U:=N.below Y;have v:=AA N.len;clear N;go_enter func91,ntmps91;go_wp2
 go_loop[3,9] (λs i=>∃(k:Nat)(n:Int),k<=Z/\i=int i64 k/\s=int i64 n/\Hid (n=Au (wss.take k))) (λ_ i=>Z-(intOf i).toNat)
 case atStart=>exact⟨0,0,AR _,rfl,rfl,by simp[Hid,Au]⟩
 case round=>
  obtain⟨k,n,hk,rfl,rfl,D⟩:=hrel
  by_cases X:k<Z
  ·obtain⟨j,off,a',l,c,x,rfl,A,V,J,I,C⟩:=U.at_ X;have y:Hid (max n (l:Int)=Au (wss.take (k+1))):=by rw[Hid,As J,acO,I.len,D.out]
   clear J I;go_wp2
   go_round
   case rel=>exact⟨k+1,_,by omega,by go_num,rfl,y⟩
   case measure=>simp[intOf];omega
  ·obtain rfl:k=Z:=by omega
   have o:Hid (n=Au wss):=by
    have h:=D.out
    rwa[Ap (by have:=v.out;omega)]at h
   go_wp2;go_ret;exact⟨by rw[<-o.out];rfl,Y⟩
end Go.Proofs.YtaamacoicojhnaaGreat
