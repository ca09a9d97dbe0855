/- Proofs over the given program, part 7. -/
import Derived.Test.YtaamacoicojhnaaGreatZR6
set_option linter.unusedVariables false
set_option linter.unusedSimpArgs false
set_option maxRecDepth 100000
set_option maxHeartbeats 16000000
open Go.Proofs.Tryz
open Go.Proofs.Tryz renaming prog→ZP
open Go.World(cell? frozen?)
open Go.Value(int slice pointer bool)
open Go.IntKind(i64)
namespace Go.Proofs.YtaamacoicojhnaaGreat
open Go.RowKit Go.Sort
theorem ako{wss:La}(h:Ev wss=false)(fold:Bool):wss.length<=80/\(∀x∈wss,x.length<=3000)/\(Ad fold wss).length<=3000:=by
 unfold Ev at h;have h:=of_decide_eq_false h;have h1:wss.length<=80:=by omega
 have h2:Cs wss<=3000:=by omega
 have Z:∀(l:La),Cs l<=3000->(∀x∈l,x.length<=3000)/\((Ad fold l).length:Int)=Cs l:=by
  intro l
  induction l with
  |nil=>intro _;exact⟨by simp,by simp[Ad,Cs]⟩
  |cons x l ih=>
   intro U;have e:Cs (x::l)=min (x.length:Int) 4000+Cs l:=by simp[Cs]
   have H:=aax l;rw[e]at U⊢;obtain⟨V,I⟩:=ih om;refine⟨λy Y=>?_,?_⟩
   ·rcases CR.1 Y with rfl|Y
    ·omega
    ·exact V y Y
   ·have N:Ad fold (x::l)=Dt (AO fold x)++Ad fold l:=by simp[Ad]
    rw[N,List.length_append,Ks,Ew];omega
 obtain⟨X,J⟩:=Z wss h2;exact⟨h1,X,by omega⟩
def Dn(L:List Int)(m:Int)(row:Value)(t:TV)(lk:Value):List Value:=(L.map (int i64)++[int i64 m])++[row,slice t.ua t.un t.uc,slice t.da t.dn t.dc,slice t.xa t.xn t.xc,slice t.ba t.bn t.bc,lk]
structure Mk(W:World)(M:Nat)(L:List Int)(m:Int)(row:Value)(t:TV)(lk:Value):Prop where
 box:W.heap[M]?=some (.cells (Dn L m row t lk).toArray 227 (0,0))
 len:L.length=256
theorem Mk.lt{W:World}{M:Nat}{L:List Int}{m:Int}{row lk:Value}{t:TV}(h:Mk W M L m row t lk):M<W.heap.size:=(AD.1 h.box).1
theorem Mk.below{W V:World}{M:Nat}{L:List Int}{m:Int}{row lk:Value}{t:TV}(h:Mk W M L m row t lk)(Z:Bt W V):Mk V M L m row t lk:=⟨(Z.block M h.lt).trans h.box,h.len⟩
theorem Mk.cls{W:World}{M:Nat}{L:List Int}{m:Int}{row lk:Value}{t:TV}(h:Mk W M L m row t lk){c:Nat}{v:Int}(Z:L[c]?=some v):W.cell? ⟨M,c,none⟩=some (int i64 v):=by
 have Y:c<256:=by have:=(AP.1 Z).1;have:=h.len;omega
 have e:(Dn L m row t lk)[c]?=some (int i64 v):=by
  unfold Dn;rw[By (by simp[h.len];omega),By (by simp[h.len];omega),BU,Z]
  rfl
 simp only[cell?,h.box];simp[e]
theorem Mk.off{W:World}{M:Nat}{L:List Int}{m:Int}{row lk:Value}{t:TV}(h:Mk W M L m row t lk){i:Nat}{v:Value}(Z:[int i64 m,row,slice t.ua t.un t.uc,slice t.da t.dn t.dc,slice t.xa t.xn t.xc,slice t.ba t.bn t.bc,lk][i]?=some v):W.cell? ⟨M,256+i,none⟩=some v:=by
 have e:(Dn L m row t lk)[256+i]?=some v:=by
  unfold Dn;rw[CE,DY (by simp[h.len])]
  simpa[h.len]using Z
 simp only[cell?,h.box];simp[e]
theorem Mk.cells{W:World}{M:Nat}{L:List Int}{m:Int}{row lk:Value}{t:TV}(h:Mk W M L m row t lk):W.cell? ⟨M,256,none⟩=some (int i64 m)/\W.cell? ⟨M,257,none⟩=some row/\W.cell? ⟨M,258,none⟩=some (slice t.ua t.un t.uc)/\W.cell? ⟨M,259,none⟩=some (slice t.da t.dn t.dc)/\W.cell? ⟨M,260,none⟩=some (slice t.xa t.xn t.xc)/\W.cell? ⟨M,261,none⟩=some (slice t.ba t.bn t.bc)/\W.cell? ⟨M,262,none⟩=some lk:=⟨h.off (i:=0) rfl,h.off (i:=1) rfl,h.off (i:=2) rfl,h.off (i:=3) rfl,h.off (i:=4) rfl,h.off (i:=5) rfl,h.off (i:=6) rfl⟩
theorem OP{x:Nat}(h:x<=1000000000000):IntKind.i64.wrap (x:Int)=(x:Int):=by simp[IntKind.wrap,IntKind.bits,IntKind.signed];omega
theorem aem(M R n many node:Nat)(L:List Int)(t:TV)(lk:Value)(w:World)(h:Mk w M L (many:Int) (slice (some ⟨R,0,none⟩) (many*n) (many*n)) t lk)(B:node<n)(z:many<=1000)(A:1<=many)(U:n<=1000000) :Calls ZP 178 #[pointer (some ⟨M,0,none⟩),int i64 (node:Int)] w λe w'=>e=.returned (slice (some ⟨R,node*many,none⟩) many (many*n-node*many))/\Bt w w':=by
 have X:(node+1)*many<=many*n:=by rw[Nat.mul_comm many n];exact IO _ B
 have y:many*n<=1000*1000000:=GR z U;have Y:(node+1)*many=node*many+many:=Nat.succ_mul _ _;have c1:(node:Int)*(many:Int)=((node*many:Nat):Int):=(Iy _ _).symm;obtain⟨Q,D⟩:∃Q,many*n=Q:=⟨_,rfl⟩;obtain⟨P,C⟩:∃P,node*many=P:=⟨_,rfl⟩;rw[C]at Y c1⊢;rw[D]at h X y⊢;have s:IntKind.i64.wrap (((node:Int)+1)*(many:Int))=((node:Int)+1)*(many:Int):=by
  have e:((node:Int)+1)*(many:Int)=((P+many:Nat):Int):=by rw[Jr,Int.one_mul,c1];omega
  rw[e];exact OP om
 have e1:IntKind.i64.wrap ((node:Int)*(many:Int))=(node:Int)*(many:Int):=by rw[c1];exact OP om
 have j:IntKind.i64.wrap ((node:Int)+1)=(node:Int)+1:=OP (x:=node+1) om;have I:Hid (∀V,Bt w V->V.cell? ⟨M,256,none⟩=some (int i64 (many:Int))/\V.cell? ⟨M,257,none⟩=some (slice (some ⟨R,0,none⟩) Q Q)):=λV Z=>⟨((h.below Z).cells).1,((h.below Z).cells).2.1⟩;have HC:=AA c1;have c3:((node:Int)+1)*(many:Int)=((P+many:Nat):Int):=by rw[Jr,Int.one_mul,c1];omega
 obtain⟨E,J⟩:∃E,P+many=E:=⟨_,rfl⟩;rw[J]at c3;have H:=AA c3;have HE:=AA J;have l1:E<=Q:=by omega
 have l3:P<=E:=by omega
 have l2:¬Q=P:=by omega
 clear Y c1 c3 C D h J;clear X;go_enter func178,ntmps178;go_upto_region 1 with fail
 refine Vb ?_;refine Va (S:=Bt w) kr (AN w 1) (λhHeld=>?_);refine tkA 0 ?_;refine tkA 1 ?_;refine tkA 2 ?_;refine tkA 3 ?_;refine tkW 4 (v:=?_) ?_ ?_;rotate_left
 ·intro V Z;have r0:=(I.out V Z).2
  first|(go_simp;done)|(go_simp;with_reducible rfl)
 try simp only[pq]
 refine tkA 5 ?_;refine tkA 6 ?_;refine tkA 7 ?_;refine tkA 8 ?_;refine tkA 9 ?_;refine tkW 10 (v:=?_) ?_ ?_;rotate_left
 ·intro V Z;have r0:=(I.out V Z).1
  first|(go_simp;done)|(go_simp;with_reducible rfl)
 try simp only[pq]
 refine tkA 11 ?_;refine tkA 12 ?_;refine tkA 13 ?_;refine tkA 14 ?_;refine tkA 15 ?_;refine tkA 16 ?_;refine tkA 17 ?_;refine tkW 18 (v:=?_) ?_ ?_;rotate_left
 ·intro V Z;have r0:=(I.out V Z).1
  first|(go_simp;done)|(go_simp;with_reducible rfl)
 try simp only[pq]
 refine tkA 19 ?_;rw[HC.out,H.out];clear e1 j s;refine tkA 20 ?_;refine tkA 21 ?_;refine Vd kr ?_ _;refine At ?_
 go_wp2_with fail
 have N:E-P=many:=by have:=HE.out;omega
 rw[N];go_ret;exact⟨rfl,AN w 1⟩
section
attribute[local go_sem] Oper.semAt_some
attribute[local simp] Ak Al
attribute[local go_sem] Ak Al
def GC(T:Ay)(node:Int):Nat->List (Int×Nat)
 |0=>[]
 |k+1=>GC T node k++(if 1<=k/\T.up[k]?=some node then [((T.byt[k]?).getD 0,k)] else [])
theorem ab5(T:Ay)(node:Int):∀k,(GC T node k).length<=k
 |0=>by simp[GC]
 |k+1=>by
  have:=ab5 T node k;unfold GC;rw[List.length_append]
  split<;>simp<;>omega
theorem ac0{T:Ay}{node:Int}{p:Int×Nat}:∀{k:Nat},p∈GC T node k↔1<=p.2/\p.2<k/\T.up[p.2]?=some node/\p.1=(T.byt[p.2]?).getD 0
 |0=>by simp[GC]
 |k+1=>by
  unfold GC;rw[Bf,ac0 (k:=k)]
  constructor
  ·rintro(⟨h1,h2,h3⟩|h)
   ·exact⟨h1,by omega,h3⟩
   ·split at h
    ·rename_i Z
     rw[Fq]at h;subst h;exact⟨Z.1,by dsimp only;omega,Z.2,rfl⟩
    ·cases h
  ·rintro⟨h1,h2,h3,h4⟩
   by_cases e:p.2=k
   ·right
    subst e;rw[Lc ⟨h1,h3⟩,Fq];exact Prod.ext h4 rfl
   ·exact .inl ⟨h1,by omega,h3,h4⟩
def Ec(L:List Int)(T:Ay)(node:Int)(k:Nat):List (Nat×Nat):=(GC T node k).map λp=>(((L[p.1.toNat]?).getD 0).toNat,p.2)
abbrev KdQ(many:Nat):={p:Nat×Nat // p.1<many}
def Ni{many:Nat}(p:KdQ many):Array Value:=#[int i64 (p.1.1:Int),int i64 (p.1.2:Int)]
theorem acy(M:Nat)(node:Int)(w:World) :Calls ZP 179 #[.pointer (some ⟨M,0,none⟩),.int .i64 node] w λe w'=>e=.returned (.func (.func 222) #[] #[.pointer (some ⟨w.heap.size,0,none⟩),.pointer (some ⟨w.heap.size+1,0,none⟩)])/\
   w'=(w.alloc (.cells #[pointer (some ⟨M,0,none⟩)] 285)).alloc (.cells #[int i64 node] 3):=by
 go_enter func179,ntmps179;go_wp2;go_ret;exact⟨rfl,rfl⟩
theorem ab9(t:TV)(T:Ay)(M R D p2 many:Nat)(node:Int)(m:Int)(row lk:Value)(L:List Int)(n:Nat)(w:World)(j:Tri w t T)(hn:T.byt.length=T.up.length)(a8:T.up.length<=400)
  (z:Mk w M L m row t lk) (hL:∀(c:Nat)(v:Int),L[c]?=some v->0<=v/\v<(many:Int))
  (h1:w.heap[D]?=some (.cells #[pointer (some ⟨M,0,none⟩)] 285 (0,0))) (h2:w.heap[p2]?=some (.cells #[int i64 node] 3 (0,0)))
  (hR:M≠R/\D≠R/\p2≠R/\(∀a,t.ua=some a->a.block≠R)/\(∀a,t.ba=some a->a.block≠R)) :
  SeqStopsK Fence.wide n ZP 222 #[pointer (some ⟨D,0,none⟩),pointer (some ⟨p2,0,none⟩)] (Ni (many:=many)) (Cc (λk=>k<w.heap.size/\k≠R)) (λzs=>zs.map Subtype.val=Ec L T node T.up.length) (λ_=>True) 1000001 w:=by
 intro l J Jx W hW hJ am hY h0;have A:Cc (λk=>k<w.heap.size/\k≠R) w W:=Ke hW (λk hk=>hk.1);obtain⟨ua,un,uc,da,dn,dc,xa,xn,xc,ba,bn,bc⟩:=t;dsimp only at hR;obtain⟨r0,r1,r2,r3,r4⟩:=hR;have a7:D<w.heap.size:=(AD.1 h1).1;have a6:p2<w.heap.size:=(AD.1 h2).1;have ac:M<w.heap.size:=z.lt;have cells:∀v:World,Cc (λk=>k<w.heap.size/\k≠R) w v->v.cell? ⟨D,0,none⟩=some (pointer (some ⟨M,0,none⟩))/\v.cell? ⟨p2,0,none⟩=some (int i64 node)/\v.cell? ⟨M,258,none⟩=some (slice ua un uc)/\v.cell? ⟨M,261,none⟩=some (slice ba bn bc)/\(∀(c:Nat)(v':Int),L[c]?=some v'->v.cell? ⟨M,c,none⟩=some (int i64 v')):=by intro v Y;have e1:=(Y D ⟨a7,r1⟩).trans h1;have e2:=(Y p2 ⟨a6,r2⟩).trans h2;have y:Mk v M L m row ⟨ua,un,uc,da,dn,dc,xa,xn,xc,ba,bn,bc⟩ lk:=⟨(Y M ⟨ac,r0⟩).trans z.box,z.len⟩;refine⟨by simp[cell?,e1],by simp[cell?,e2],y.cells.2.2.1,y.cells.2.2.2.2.2.1,λc v' h=>y.cls h⟩
 have kc:∀(v:World)(p:Addr),Cc (λk=>k<w.heap.size/\k≠R) w v->p.block<w.heap.size->p.block≠R->v.cell? p=w.cell? p:=λv p Y hp hr=>BC (Y _ ⟨hp,hr⟩);have KC:=AA kc;have HL:=AA hL;have ag:=AA z.len;have HC:=AA cells;have HT:=AA j;have U:Hid (T.up.length=un):=j.up.1;have ae:bn=un:=by have h1:T.byt.length=bn:=j.byt.1.1;have:=U.out;omega
 have aj:un<=400:=by have:=U.out;omega
 subst ae;clear j hn a8 z h1 h2 cells hL kc;obtain⟨c1,c2,c3,c4,_⟩:=HC.out W A;refine callsIn_of_wp func222 rfl trivial ?_ rfl;simp only[ntmps222,Cw,Ao,Bw,Nat.reduceAdd,Nat.reduceSub,Dd,Dc,DX,Da,Av,CT]
 gi_wp2
 clear c1 c2 c3 c4
 gi_loopw[4] (λi wr=>∃(k:Nat)(Z:List (KdQ many)),1<=k/\i=int i64 k/\Hid (Z.map Subtype.val=Ec L T node k)/\Hid (k<=max bn 1)/\J Z wr/\Cc (λk=>k<w.heap.size/\k≠R) w wr) (λi _=>bn-(intOf i).toNat)
 case atStart=>exact⟨1,[],AC _,rfl,(by simp[Hid,Ec,GC]),Nat.le_max_right _ _,h0,A⟩
 case round=>
  obtain⟨k,Z,hk,rfl,HP,HK,hj,V⟩:=hrel;obtain⟨c1,c2,c3,c4,c5⟩:=HC.out wr V
  by_cases C:k<bn
  ·have ad:decide ((k:Int)<bn)=true:=by simp;omega
   obtain⟨b0,o0,u,e0,ab,I,x⟩:=DG HT.out.up C;subst e0;obtain⟨b3,o3,c,y,aa,H,s⟩:=DG HT.out.byt.1 C;subst y;have cu:wr.cell? ⟨b0,o0+k,none⟩=some (int i64 u):=(KC.out wr ⟨b0,o0+k,none⟩ V ab (r3 ⟨b0,o0,none⟩ rfl)).trans I;have cb:wr.cell? ⟨b3,o3+k,none⟩=some (.int .u8 c):=(KC.out wr ⟨b3,o3+k,none⟩ V aa (r4 ⟨b3,o3,none⟩ rfl)).trans H;have al:=HT.out.byt.2 c (AX s);have a2:Z.length<=k:=by have h1:=congrArg List.length HP.out;have:=ab5 T node k;unfold Ec at h1;rw[BP,BP]at h1;omega
   have i1:(0:Int)<=(k:Int):=by omega
   have i2:(k:Int)<(bn:Int):=by omega
   obtain⟨c,rfl⟩:∃c':Nat,c=(c':Int):=⟨c.toNat,by omega⟩;obtain⟨v,Y⟩:∃v,L[c]?=some v:=⟨L[c]'(by rw[ag.out];omega),by simp⟩;obtain⟨ai,ah⟩:=HL.out c v Y;obtain⟨v,rfl⟩:∃v':Nat,v=(v':Int):=⟨v.toNat,by omega⟩;have cv:=c5 c _ Y;have i3:(0:Int)<=(c:Int):=by omega
   have i4:(c:Int)<256:=by omega
   by_cases X:u=node
   ·subst X;have HS:Hid ((Z++[(⟨(v,k),by dsimp only;omega⟩:KdQ many)]).map Subtype.val=Ec L T u (k+1)):=by
     unfold Hid Ec GC;rw[Lc ⟨hk,x⟩,Aj,Aj,HP.out,s];unfold Ec;simp[Y]
    clear I H x s c5 Y
    gi_wp2
    refine Ld (FL _ _) 27 mixed kr kr ?_;dsimp only[List.take_succ_cons,List.take_zero,List.drop_succ_cons,List.drop_zero]
    repeat (go_big_quiet_step (fail))
    refine wpQuiet_nil ?_;rintro _ ⟨nq,rfl⟩;have N:Bt wr (wr.drewN nq):=⟨rfl,rfl,rfl,AC _,λ_ _=>rfl⟩;obtain⟨fn,tmps,assign,body,a1,af⟩:=hY Z ⟨(v,k),by dsimp only;omega⟩ (wr.drewN nq) (IJ hJ hj N) om;dsimp only[Ni]at a1
    gi_wp2
    refine af.mono ?_;rintro e W4 (⟨rfl,hJ4,hk4⟩|⟨rfl,hJx4⟩)
    ·gi_wp2
     go_roundw
     case rel=>exact⟨k+1,_,by omega,by go_num,HS,(by unfold Hid;omega),hJ4,GD V hk4⟩
     case measure=>simp[intOf];omega
    ·gi_wp2
     refine Vf (results_none rfl _ _ _) rfl ?_;exact⟨⟨_,rfl⟩,.inr ⟨_,trivial,hJx4⟩⟩
   ·have hd:(u==node)=false:=by simpa using X
    have HS:Hid (Z.map Subtype.val=Ec L T node (k+1)):=by
     unfold Hid Ec GC;rw[Lb (λh=>X (by have:=h.2;rw[x]at this;exact AK this)),HP.out,Cx]
     rfl
    clear I H x s c5 Y
    gi_wp2
    refine KF (FL _ _) mixed kr kr ?_
    repeat (go_big_quiet_step (fail))
    refine wpQuiet_nil ?_;rintro _ ⟨nq,rfl⟩;have N:Bt wr (wr.drewN nq):=⟨rfl,rfl,rfl,AC _,λ_ _=>rfl⟩;have B:Cc (λk=>k<w.heap.size/\k≠R) w (wr.drewN nq):=V
    gi_wp2
    go_roundw
    case rel=>exact⟨k+1,_,by omega,by go_num,HS,(by unfold Hid;omega),IJ hJ hj N,B⟩
    case measure=>simp[intOf];omega
  ·have ad:decide ((k:Int)<bn)=false:=by simp;omega
   clear c5
   gi_wp2
   go_end0
   refine⟨⟨_,rfl⟩,.inl ⟨Z,?_,hj⟩⟩;show Z.map Subtype.val=Ec L T node T.up.length;rw[HP.out,U.out];have ak:=HK.out
   by_cases e:bn=0
   ·obtain rfl:k=1:=by omega
    subst e;simp[Ec,GC]
   ·obtain rfl:k=bn:=by omega
    rfl
end
def spl(F:List Int)(P:Nat)(r:List Int):List Int:=F.take P++r++F.drop (P+r.length)
theorem Oj{F r:List Int}{P:Nat}(h:P+r.length<=F.length):(spl F P r).length=F.length:=by unfold spl;simp;omega
theorem alx{F:List Int}{P m:Nat}(h:P+m<=F.length):spl F P ((F.drop P).take m)=F:=by
 unfold spl;have Z:((F.drop P).take m).length=m:=by simp;omega
 rw[Z,CE,<-List.drop_drop,Dx,Dx]
theorem Ok{F r:List Int}{P i:Nat}(h:P+r.length<=F.length)(Z:i<r.length):(spl F P r)[P+i]?=r[i]?:=by unfold spl;rw[CE,DY (by simp;omega)];rw[Ag,Nat.min_eq_left om,Nat.add_sub_cancel_left,By Z]
theorem ajT{F r:List Int}{P i:Nat}(h:P+r.length<=F.length)(Z:i<r.length)(v:Int):(spl F P r).set (P+i) v=spl F P (r.set i v):=by
 unfold spl;have Y:(F.take P).length=P:=by simp;omega
 rw[BG,CE,Jm _ _ om,Y,Nat.add_sub_cancel_left,List.set_append_left _ _ Z,CE]
def DV(r:List Int)(Z:List (Nat×Nat)):List Int:=Z.foldl (λr p=>r.set p.1 (p.2:Int)) r
theorem aaW(Z:List (Nat×Nat)):∀r:List Int,(DV r Z).length=r.length:=by
 induction Z with
 |nil=>intro r;rfl
 |cons k Z ih=>intro r;show(DV (r.set k.1 _) Z).length=_;rw[ih];simp
theorem abW(r:List Int)(Z:List (Nat×Nat))(p:Nat×Nat):DV r (Z++[p])=(DV r Z).set p.1 (p.2:Int):=by unfold DV;rw[FI];rfl
theorem AU.cell{g:Nat}{l:List Int}{W:World}(h:AU g l W){i:Nat}{v:Int}(Z:l[i]?=some v):W.cell? ⟨g,i,none⟩=some (int i64 v):=by rw[cell_of_row W g i _ _ _ h];simp[Z]
theorem AU.frozen{g:Nat}{l:List Int}{W:World}(h:AU g l W)(i:Nat):W.frozen? ⟨g,i,none⟩=false:=by have h2:W.heap[g]?=some (.cells (l.map (int i64)).toArray 3 (0,0)):=h;simp[frozen?,h2]
theorem AU.lt{g:Nat}{l:List Int}{W:World}(h:AU g l W):g<W.heap.size:=(AD.1 h).1
theorem acr{β:Type}(g:Nat)(f:β->List Int):Own (λs W=>AU g (f s) W):=λs X Y row U N V=>by have Z:X.heap[g]?=some (.cells ((f s).map (int i64)).toArray 3 (0,0)):=U;exact(N.block g U.lt (λe=>by obtain⟨o,ho,J⟩:=V g e.symm;rw[Z]at ho;cases ho;cases J)).trans Z
theorem aoG(w:World)(R P K m c1 c2:Nat)(F:List Int)(ty:TypeId)(V:AU R F w)(N:P+m<=F.length)(J:K+m<=F.length) :(Builtin.copy_ #[30,30] ty #[slice (some ⟨R,P,none⟩) m c1,slice (some ⟨R,K,none⟩) m c2]).run ZP w=.ok (int i64 m) (w.setRow R ((spl F P ((F.drop K).take m)).map (int i64)).toArray):=by
 have Y:((F.drop K).take m).length=m:=by simp;omega
 have h:=run_copy_row (P:=ZP) w 30 30 ty 3 R P m c1 ⟨R,K,none⟩ m c2 ((F.map (Value.int .i64)).toArray) 3 (((F.drop K).take m).map (Value.int .i64)) underlying30 kr V
  (by rw[BP,Y];exact(Nat.min_self m).symm)
  (λj v Z=>by
   rw[BU,Fo]at Z;obtain⟨x,X,rfl⟩:=Z;have U:j<m:=by have:=(AP.1 X).1;omega
   rw[MW U,Hm]at X;have e:(⟨R,K,none⟩:Addr).add j=⟨R,K+j,none⟩:=by unfold Addr.add;split<;>simp_all
   rw[e];exact V.cell X)
  (by rw[BP,Y];simp;omega)
  (λv Z=>by obtain⟨x,_,rfl⟩:=Be.1 Z;rfl)
 rw[h,BP,Y];unfold spl;rw[Y];simp[goInt]
theorem ajm(w:World){o:Oper}{a:Act}{K:Act->World->Prop}{Q:Exit->Act->World->Prop}(d s:Operand)(t Z:TypeId)
  (ho:o.op=.call {callee:=.builtin .copy,args:=#[d,s],argTypes:=#[t,Z]}) (v u:Value) (V:a.eval d=v) (Y:a.eval s=u) {v':Value} {w':World}
  (X:(Builtin.copy_ #[t,Z] o.type #[v,u]).run ZP w=.ok v' w') (h:K (a.put o.dst v') w'):o.wp ZP a w K Q:=by
 unfold Oper.wp;simp only[execOp,ho,resolve,invoke,builtin,IN,IM,Result.andThen_ok,LI,BO,DE,V,Y,X];exact h
section
attribute[local go_sem] Oper.semAt_some
attribute[local simp] Ak Al
attribute[local go_sem] Ak Al
def Hd(F:List Int)(many node:Nat)(lk:List Int):List Int:=if node=0 then(F.drop (node*many)).take many else(F.drop (((lk[node]?).getD 0).toNat*many)).take many
def Kn(L:List Int)(T:Ay)(lk:List Int)(F:List Int)(many node:Nat):List Int:=spl F (node*many) (DV (Hd F many node lk) (Ec L T (node:Int) T.up.length))
theorem IE{many n k:Nat}(h:k<n):k*many+many<=many*n:=by have h1:(k+1)*many<=n*many:=IO _ h;rw[Nat.succ_mul,Nat.mul_comm n many]at h1;exact h1
theorem adR{F lk:List Int}{many n node:Nat}(V:F.length=many*n)(Y:node<n)(X:node≠0->∃k:Nat,lk[node]?=some (k:Int)/\k<n):(Hd F many node lk).length=many:=by
 unfold Hd
 split
 ·have:=IE (many:=many) Y;simp;omega
 ·rename_i h
  obtain⟨k,hk,Z⟩:=X h;have:=IE (many:=many) Z;rw[hk];simp;omega
def Lw(t:TV)(R:Nat):Prop:=∀a,(t.ua=some a∨t.da=some a∨t.xa=some a∨t.ba=some a)->a.block<R
theorem Sl1.keep{α:Type}{enc:α->Value}{R:Nat}{W V:World}{a:Option Addr}{n:Nat}{xs:List α}(h:Sl1 enc W a n xs)(Y:Below R W V)(J:R<=W.heap.size)(U:∀x,a=some x->x.block<R):Sl1 enc V a n xs:=by
 refine⟨h.1,?_⟩
 rcases h.2 with h0|⟨b,off,e,Z,N⟩
 ·exact .inl h0
 ·exact .inr ⟨b,off,e,Af Z Y.size,λi x X=>(BC (Y.block b (U _ e))).trans (N i x X)⟩
theorem Tri.keep{R:Nat}{W V:World}{t:TV}{T:Ay}(h:Tri W t T)(Y:Below R W V)(X:R<=W.heap.size)(Z:Lw t R):Tri V t T:=⟨h.up.keep Y X (λa e=>Z a (.inl e)),h.dep.keep Y X (λa e=>Z a (.inr (.inl e))),h.wrd.keep Y X (λa e=>Z a (.inr (.inr (.inl e)))),⟨h.byt.1.keep Y X (λa e=>Z a (.inr (.inr (.inr e)))),h.byt.2⟩,h.cap⟩
theorem Mk.keep{R:Nat}{W V:World}{M:Nat}{L:List Int}{m:Int}{row lk:Value}{t:TV}(h:Mk W M L m row t lk)(Z:Below R W V)(Y:M<R):Mk V M L m row t lk:=⟨(Z.block M Y).trans h.box,h.len⟩
theorem ah2(t:TV)(T:Ay)(M R q n many node:Nat)(L F lk:List Int)(w:World)(hT:Tri w t T)(hb:T.byt.length=T.up.length)(aM:T.up.length<=400)
  (hM:Mk w M L (many:Int) (slice (some ⟨R,0,none⟩) (many*n) (many*n)) t (slice (some ⟨q,0,none⟩) n n)) (hL:∀(c:Nat)(v:Int),L[c]?=some v->0<=v/\v<(many:Int))
  (b3:M<R/\q<R) (aB:Lw t R) (hq:AU q lk w) (bd:lk.length=n) (hR:AU R F w) (hF:F.length=many*n)
  (hn:node<n) (hm:many<=1000) (aO:1<=many) (aN:n<=1000000) (hl:node≠0->∃k:Nat,lk[node]?=some (k:Int)/\k<n) :
  Calls ZP 129 #[pointer (some ⟨M,0,none⟩),int i64 (node:Int)] w λe w'=>e=.returned (.tuple #[])/\AU R (Kn L T lk F many node) w'/\Below R w w':=by
 obtain⟨r0,r1⟩:=b3;have r2:∀a,t.ua=some a->a.block<R:=λa h=>aB a (.inl h);have r3:∀a,t.ba=some a->a.block<R:=λa h=>aB a (.inr (.inr (.inr h)));have a1:=hR.lt;have aw:=adR (lk:=lk) hF hn hl;have hP:=IE (many:=many) hn;have H:=alx (F:=F) (P:=node*many) (m:=many) (by rw[hF];exact hP);refine Hc func129 rfl ?_;simp only[ntmps129,Cw,Ao,Bw,Nat.reduceAdd,Nat.reduceSub,Dd,Dc,DX,Da,Av,CT];have KR:=AA (aem M R n many node L t _ w hM hn hm aO aN);obtain⟨P,ay⟩:∃P,node*many=P:=⟨_,rfl⟩;obtain⟨y,ar⟩:∃y,Hd F many node lk=y:=⟨_,rfl⟩;have Y:=ar;rw[ar]at aw;unfold Hd at Y;rw[ay]at KR hP H Y;have aZ:=AA ay;have b2:=AA ar;have b1:=AA aw;have HF:=AA hF
 by_cases h0:node=0
 ·have hd:((node:Int) != 0)=false:=by simp[h0]
  rw[Lc h0]at Y;rw[Y]at H;have b6:=AA H;clear ar ay Y hF aw hl H h0;go_upto_region 3 with(go_at_call 178;refine KR.out.mono ?_;rintro e w1 ⟨rfl,A⟩)
  obtain⟨X,a8⟩:∃W,W=w1.alloc (.cells #[slice (some ⟨R,P,none⟩) many (many*n-P)] 30):=⟨_,rfl⟩;have N:Boxed X w1.heap.size 30 (slice (some ⟨R,P,none⟩) many (many*n-P)):=by rw[a8];exact Boxed.new w1 30 _
  have a2:Bt w X:=by rw[a8];exact A.alloc A.size _
  rw[<-a8];clear a8;have aj:=hT.below a2;have al:=hM.below a2;have B:AU R (spl F P y) X:=by rw[b6.out];exact(a2.block R a1).trans hR
  have aq:Below R w X:=a2.mono (DP a1);have ao:R<w1.heap.size:=Af a1 A.size;obtain⟨BX,ap⟩:∃BX,w1.heap.size=BX:=⟨_,rfl⟩;rw[ap]at N ao⊢;clear hT hM hq hR A ap a2
  go_wp2_with (go_at_call 179;refine(acy M (node:Int) X).mono ?_;rintro e w' ⟨rfl,rfl⟩)
  obtain⟨z,C⟩:∃W,W=(X.alloc (.cells #[pointer (some ⟨M,0,none⟩)] 285)).alloc (.cells #[int i64 (node:Int)] 3):=⟨_,rfl⟩;have U:Bt X z:=by rw[C];exact(AL _ _).alloc sm _
  have au:Boxed z X.heap.size 285 (pointer (some ⟨M,0,none⟩)):=by rw[C];exact(Boxed.new X 285 _).alloc _
  have ab:Boxed z (X.heap.size+1) 3 (int i64 (node:Int)):=by
   rw[C];have:=Boxed.new (X.alloc (.cells #[pointer (some ⟨M,0,none⟩)] 285)) 3 (int i64 (node:Int))
   rwa[DN]at this
  rw[<-C];clear C;have aK:=ab.lt;have ah:Boxed z BX 30 (slice (some ⟨R,P,none⟩) many (many*n-P)):=(U.block _ N.lt).trans N;have aD:AU R (spl F P y) z:=(U.block _ B.lt).trans B;have am:Below R w z:=aq.trans (U.mono (DP B.lt));have aP:=B.lt;have aS:=N.lt;have aA:=ab9 t T M R X.heap.size (X.heap.size+1) many (node:Int) _ _ _ L 8 z (aj.below U) hb aM (al.below U) hL au ab ⟨by omega,by omega,by omega,λa h=>Nat.ne_of_lt (r2 a h),λa h=>Nat.ne_of_lt (r3 a h)⟩;clear aj al au ab B N U aq
  apply KI rfl (enters_of func222 kr rfl) aA GD (JR λk hk=>hk.1) (λ_=>rfl)
   (λJ W=>Boxed W BX 30 (slice (some ⟨R,P,none⟩) many (many*n-P))/\AU R (spl F P (DV y (J.map Subtype.val))) W/\Below R w W/\z.heap.size<=W.heap.size)
   (λ_ _ _=>False)
  case hI=>exact OwnFrom.and (Own.from (boxed_own _ _ _) _) (OwnFrom.and (Own.from (acr _ _) _) (OwnFrom.and (ownFrom_below (DP a1) om) (Li _ _)))
  case hIx=>exact λ_ _ _ _ _ hs _ _=>hs
  case h0=>exact⟨ah,aD,am,AC _⟩
  case hassign=>
   intro l x W K hK;unfold Ni
   gi_wp2
   exact hK
  case hbody=>
   rintro l' J ⟨⟨c,k⟩,hc⟩ W ⟨hx,hr,aa,hs⟩ aQ;dsimp only at hc⊢;obtain⟨Z,hZ⟩:∃Z,DV y (J.map Subtype.val)=Z:=⟨_,rfl⟩;have a7:Z.length=many:=by rw[<-hZ,aaW,b1.out]
   have aJ:Hid (DV y ((J++[(⟨(c,k),hc⟩:KdQ many)]).map Subtype.val)=Z.set c (k:Int)):=by rw[Hid,Aj];show DV y (J.map Subtype.val++[(c,k)])=_;rw[abW,hZ]
   rw[hZ]at hr;have HZ:=AA hZ;clear hZ;have c1:=hx.cell;have a6:c<Z.length:=by rw[a7];exact hc
   have c2:=hr.cell ((Ok (by rw[a7,HF.out];exact hP) a6).trans (Ar a6));have c3:=hr.frozen (P+c);have i1:(0:Int)<=(c:Int):=by omega
   have i2:(c:Int)<(many:Int):=by omega
   have I:=hr.set (j:=P+c) (k:Int);rw[ajT (by rw[a7,HF.out];exact hP) a6,<-aJ.out]at I;have av:=AA I;clear I
   gi_wp2
   refine⟨(Jp W ⟨R,P+c,none⟩ (int i64 (k:Int))).from z.heap.size,λb hb=>AQ _ _ _ _ (λe=>hb.2 (by simpa using e)),(AQ _ _ _ _ (by simp;omega)).trans hx,av.out,aa.setCell sm _,by simpa using hs⟩
  case hdone=>
   rintro D zs W hD hS ⟨hx,hr,aa,hs⟩ aI;rw[hS]at hr;go_wp2;refine aon rfl aI (results_none rfl _ _ _) ⟨rfl,?_,FZ aa om om _⟩;unfold Kn;rw[aZ.out,b2.out];exact(Cm om).trans hr
  case hstop=>exact λ_ _ _ _ _ _ h _=>h.elim
 ·have hd:((node:Int) != 0)=true:=by simp[h0]
  rw[Lb h0]at Y;obtain⟨k,hk,aR⟩:=hl h0;rw[hk]at Y;have Y:(F.drop (k*many)).take many=y:=Y;have aV:=IE (many:=many) aR;obtain⟨KP,aH⟩:∃KP,k*many=KP:=⟨_,rfl⟩;rw[aH]at aV Y;have b9:=AA aH;have bb:=AA Y;clear ar ay Y aw hl H h0 aH;go_upto_region 2 with(go_at_call 178;refine KR.out.mono ?_;rintro e w1 ⟨rfl,A⟩)
  obtain⟨W2,ax⟩:∃W,W=w1.alloc (.cells #[slice (some ⟨R,P,none⟩) many (many*n-P)] 30):=⟨_,rfl⟩;have ai:Boxed W2 w1.heap.size 30 (slice (some ⟨R,P,none⟩) many (many*n-P)):=by rw[ax];exact Boxed.new w1 30 _
  have af:Bt w W2:=by rw[ax];exact A.alloc A.size _
  rw[<-ax];clear ax;have ao:R<w1.heap.size:=Af a1 A.size;obtain⟨BX,ap⟩:∃BX,w1.heap.size=BX:=⟨_,rfl⟩;rw[ap]at ai ao⊢;have aG:=hM.below af;have aU:=hT.below af;have aL:AU q lk W2:=(af.block q (by have:=hq.lt;omega)).trans hq;have aF:AU R F W2:=(af.block R a1).trans hR;have s:=aF.lt;have aY:Below R w W2:=af.mono (DP a1);have b4:=AA (λV (hV:Bt W2 V)=>aem M R n many k L t _ V (aG.below hV) aR hm aO aN);have b0:=AA aG;have b5:=AA aU;have b8:=AA aL;have b7:=AA aF;have ag:=AA ai;have HK:=AA hk;have j1:(0:Int)<=(node:Int):=by omega
  have j2:(node:Int)<(n:Int):=by omega
  clear hT hM hq hR A af ai aG aU aL aF ap hk;refine Vb ?_;refine Va (S:=λV=>RowKit.Below R W2 V/\Boxed V BX 30 (slice (some ⟨R,P,none⟩) many (many*n-P))) kr ⟨(AN W2 1).mono (DP s),((AN W2 1).block _ ag.out.lt).trans ag.out⟩ (λhHeld=>?_);refine tkW 0 (v:=?_) ?_ ?_;rotate_left
  ·intro V hV;have r0:=hV.2.cell
   first|(go_simp;done)|(go_simp;with_reducible rfl)
  try simp only[pq]
  refine tkA 1 ?_;refine tkA 2 ?_;refine tkA 3 ?_;refine tkA 4 ?_;refine tkW 5 (v:=?_) ?_ ?_;rotate_left
  ·intro V hV;have r0:=(b0.out.keep hV.1 (by assumption)).cells.2.2.2.2.2.2
   first|(go_simp;done)|(go_simp;with_reducible rfl)
  try simp only[pq]
  refine tkA 6 ?_;refine tkA 7 ?_;refine tkW 8 (v:=?_) ?_ ?_;rotate_left
  ·intro V hV;have r0:=AU.cell (show AU q lk V from(hV.1.block q (by assumption)).trans b8.out) HK.out
   first|(go_simp;done)|(go_simp;with_reducible rfl)
  try simp only[pq]
  refine rdy 9 (λK hK=>?_);go_simp;have aC:=b4.out W2.drew (AN W2 1);rw[b9.out]at aC
  go_at_call 178;refine aC.mono ?_;rintro e w4 ⟨rfl,aT⟩
  have ae:Bt W2 w4:=(AN W2 1).trans aT;refine hK.out _ _ ⟨ae.mono (DP s),(ae.block _ ag.out.lt).trans ag.out⟩ (λac=>?_);clear hK K hHeld;have hHeld:=ac;clear ac
  try simp only[pq]
  refine rdy 10 (λK hK=>?_);have az:Boxed w4 BX 30 (slice (some ⟨R,P,none⟩) many (many*n-P)):=(ae.block _ ag.out.lt).trans ag.out;have aE:AU R F w4:=(ae.block R s).trans b7.out;have aW:P+many<=F.length:=by rw[HF.out];exact hP
  have aX:KP+many<=F.length:=by rw[HF.out];exact aV
  refine acM kr ?_;refine ajm w4 _ _ _ _ rfl _ _ rfl rfl (aoG w4 R P KP many _ _ F _ aE aW aX) ?_;rw[bb.out];have ak:=setRow_heap w4 R _ (((spl F P y).map (int i64)).toArray) _ _ aE;have ad:RowKit.Below R W2 (w4.setRow R (((spl F P y).map (int i64)).toArray)):=MF (ae.mono (DP s)) (AC R) _;have N:Boxed (w4.setRow R (((spl F P y).map (int i64)).toArray)) BX 30 (slice (some ⟨R,P,none⟩) many (many*n-P)):=(setRow_other _ _ _ _ om).trans az;obtain⟨X,a8⟩:∃W,W=w4.setRow R (((spl F P y).map (int i64)).toArray):=⟨_,rfl⟩;rw[<-a8]at ak ad N⊢;have B:AU R (spl F P y) X:=ak;have aq:Below R w X:=aY.trans ad;have aj:Tri X t T:=b5.out.keep ad (DP s) aB;have al:=b0.out.keep ad (by assumption);clear a8 ak aE az aW aX aC aT ae;refine hK.out _ _ ⟨ad,N⟩ (λac=>?_);clear hK K hHeld ac ad
  try simp only[pq]
  refine Vd kr ?_ _;refine At ?_
  go_wp2_with (go_at_call 179;refine(acy M (node:Int) X).mono ?_;rintro e w' ⟨rfl,rfl⟩)
  obtain⟨z,C⟩:∃W,W=(X.alloc (.cells #[pointer (some ⟨M,0,none⟩)] 285)).alloc (.cells #[int i64 (node:Int)] 3):=⟨_,rfl⟩;have U:Bt X z:=by rw[C];exact(AL _ _).alloc sm _
  have au:Boxed z X.heap.size 285 (pointer (some ⟨M,0,none⟩)):=by rw[C];exact(Boxed.new X 285 _).alloc _
  have ab:Boxed z (X.heap.size+1) 3 (int i64 (node:Int)):=by
   rw[C];have:=Boxed.new (X.alloc (.cells #[pointer (some ⟨M,0,none⟩)] 285)) 3 (int i64 (node:Int))
   rwa[DN]at this
  rw[<-C];clear C;have aK:=ab.lt;have ah:Boxed z BX 30 (slice (some ⟨R,P,none⟩) many (many*n-P)):=(U.block _ N.lt).trans N;have aD:AU R (spl F P y) z:=(U.block _ B.lt).trans B;have am:Below R w z:=aq.trans (U.mono (DP B.lt));have aP:=B.lt;have aS:=N.lt;have aA:=ab9 t T M R X.heap.size (X.heap.size+1) many (node:Int) _ _ _ L 8 z (aj.below U) hb aM (al.below U) hL au ab ⟨by omega,by omega,by omega,λa h=>Nat.ne_of_lt (r2 a h),λa h=>Nat.ne_of_lt (r3 a h)⟩;clear aj al au ab B N U aq
  apply KI rfl (enters_of func222 kr rfl) aA GD (JR λk hk=>hk.1) (λ_=>rfl)
   (λJ W=>Boxed W BX 30 (slice (some ⟨R,P,none⟩) many (many*n-P))/\AU R (spl F P (DV y (J.map Subtype.val))) W/\Below R w W/\z.heap.size<=W.heap.size)
   (λ_ _ _=>False)
  case hI=>exact OwnFrom.and (Own.from (boxed_own _ _ _) _) (OwnFrom.and (Own.from (acr _ _) _) (OwnFrom.and (ownFrom_below (DP a1) om) (Li _ _)))
  case hIx=>exact λ_ _ _ _ _ hs _ _=>hs
  case h0=>exact⟨ah,aD,am,AC _⟩
  case hassign=>
   intro l x W K hK;unfold Ni
   gi_wp2
   exact hK
  case hbody=>
   rintro l' J ⟨⟨c,k⟩,hc⟩ W ⟨hx,hr,aa,hs⟩ aQ;dsimp only at hc⊢;obtain⟨Z,hZ⟩:∃Z,DV y (J.map Subtype.val)=Z:=⟨_,rfl⟩;have a7:Z.length=many:=by rw[<-hZ,aaW,b1.out]
   have aJ:Hid (DV y ((J++[(⟨(c,k),hc⟩:KdQ many)]).map Subtype.val)=Z.set c (k:Int)):=by rw[Hid,Aj];show DV y (J.map Subtype.val++[(c,k)])=_;rw[abW,hZ]
   rw[hZ]at hr;have HZ:=AA hZ;clear hZ;have c1:=hx.cell;have a6:c<Z.length:=by rw[a7];exact hc
   have c2:=hr.cell ((Ok (by rw[a7,HF.out];exact hP) a6).trans (Ar a6));have c3:=hr.frozen (P+c);have i1:(0:Int)<=(c:Int):=by omega
   have i2:(c:Int)<(many:Int):=by omega
   have I:=hr.set (j:=P+c) (k:Int);rw[ajT (by rw[a7,HF.out];exact hP) a6,<-aJ.out]at I;have av:=AA I;clear I
   gi_wp2
   refine⟨(Jp W ⟨R,P+c,none⟩ (int i64 (k:Int))).from z.heap.size,λb hb=>AQ _ _ _ _ (λe=>hb.2 (by simpa using e)),(AQ _ _ _ _ (by simp;omega)).trans hx,av.out,aa.setCell sm _,by simpa using hs⟩
  case hdone=>
   rintro D zs W hD hS ⟨hx,hr,aa,hs⟩ aI;rw[hS]at hr;go_wp2;refine aon rfl aI (results_none rfl _ _ _) ⟨rfl,?_,FZ aa om om _⟩;unfold Kn;rw[aZ.out,b2.out];exact(Cm om).trans hr
  case hstop=>exact λ_ _ _ _ _ _ h _=>h.elim
end
def NR(p:Int->Bool)(fold:Bool)(j:Nat):Prop:=p j=true/\(fold&&CF j)=false
theorem af3(p:Int->Bool)(fold:Bool){j:Nat}:∀{i:Nat},j<=i->(Ac p fold j).2<=(Ac p fold i).2
 |0,h=>by rw[Nat.le_zero.1 h];exact AC _
 |i+1,h=>by
  by_cases e:j=i+1
  ·rw[e];exact AC _
  ·have Z:=af3 p fold (j:=j) (i:=i) om;rw[Kr]
   split
   ·exact Z
   ·split
    ·exact Z
    ·exact Nat.le_succ_of_le Z
theorem akM{p:Int->Bool}{fold:Bool}{j:Nat}(h:NR p fold j):(Ac p fold (j+1)).2=(Ac p fold j).2+1:=by rw[Kr,Lb (by rw[h.1];decide),Lb (by rw[h.2];decide)]
theorem agb{p:Int->Bool}{fold:Bool}{j i:Nat}(h:NR p fold j)(Z:j<i):(Ac p fold j).2<(Ac p fold i).2:=by have h1:=akM h;have h2:=af3 p fold (j:=j+1) (i:=i) Z;omega
theorem aj5{p:Int->Bool}{fold:Bool}{j i:Nat}(h:NR p fold j)(Z:j<i):(Ac p fold i).1[j]?=some ((Ac p fold j).2:Int):=by rw[ajB p fold Z,Lb (by rw[h.1];decide),Lb (by rw[h.2];decide)]
theorem amJ{p:Int->Bool}{fold:Bool}{j i:Nat}(h:p j=false)(Z:j<i):(Ac p fold i).1[j]?=some 0:=by rw[ajB p fold Z,Lc h]
def EJ(fold:Bool)(c:Nat):Nat:=if(fold&&CF c)=true then c-32 else c
def Shut(p:Int->Bool)(fold:Bool):Prop:=∀j:Nat,(fold&&CF j)=true->p j=p ((j-32:Nat):Int)
theorem NI{p:Int->Bool}{fold:Bool}(Y:Shut p fold){c:Nat}(h:p c=true):NR p fold (EJ fold c):=by
 unfold EJ
 split
 ·rename_i Z
  refine⟨by rw[<-Y c Z];exact h,?_⟩;have h2:CF c=true:=by rw[Bq]at Z;exact Z.2
  unfold CF at h2⊢;rw[decide_eq_true_iff]at h2;have:¬(97<=((c-32:Nat):Int)/\((c-32:Nat):Int)<=122):=by omega
  rw[decide_eq_false this,Bool.and_false]
 ·rename_i Z
  exact⟨h,by simpa using Z⟩
theorem aof(fold:Bool)(c:Nat):EJ fold c<=c:=by unfold EJ;split<;>omega
def DA(p:Int->Bool)(fold:Bool)(c:Nat):Nat:=(Ac p fold (EJ fold c)).2
theorem ag8{p:Int->Bool}{fold:Bool}(X:Shut p fold){c i:Nat}(h:p c=true)(Y:c<i):(Ac p fold i).1[c]?=some (DA p fold c:Int):=by
 have ho:=NI X h;unfold DA
 by_cases Z:(fold&&CF c)=true
 ·rw[ajB p fold Y,Lb (by rw[h];decide),Lc Z];have e:EJ fold c=c-32:=by unfold EJ;rw[Lc Z]
  rw[e]at ho⊢;have h2:CF c=true:=by rw[Bq]at Z;exact Z.2
  unfold CF at h2;rw[decide_eq_true_iff]at h2;rw[aj5 ho om]
  rfl
 ·have e:EJ fold c=c:=by unfold EJ;rw[Lb Z]
  rw[e]at ho⊢;exact aj5 ho Y
theorem alr(p:Int->Bool)(fold:Bool)(c:Nat):1<=DA p fold c:=(Hb p fold _).1
theorem ME{p:Int->Bool}{fold:Bool}(Z:Shut p fold){c i:Nat}(h:p c=true)(Y:c<i):DA p fold c<(Ac p fold i).2:=agb (NI Z h) (Nat.lt_of_le_of_lt (aof fold c) Y)
theorem aln{p:Int->Bool}{fold:Bool}(Z:Shut p fold){c d:Nat}(X:p c=true)(Y:p d=true)(h:DA p fold c=DA p fold d):EJ fold c=EJ fold d:=by
 have h1:=NI Z X;have h2:=NI Z Y;unfold DA at h
 rcases Nat.lt_trichotomy (EJ fold c) (EJ fold d)with h3|h3|h3
 ·have:=agb h1 h3;omega
 ·exact h3
 ·have:=agb h2 h3;omega
def De(ws:La)(c:Int):Prop:=∃w∈ws,c∈w
theorem Kh{fold:Bool}{ws:La}{c:Int}(h:De ws c):inB fold ws c=true:=by obtain⟨w,h1,h2⟩:=h;unfold inB;rw[MZ];exact⟨w,h1,by rw[MZ];exact⟨c,h2,by simp⟩⟩
theorem afs{fold:Bool}{ws:La}{c:Int}:inB fold ws c=true↔∃x,De ws x/\(x=c∨fold=true/\CF x=true/\x-32=c):=by
 unfold inB;rw[MZ]
 constructor
 ·rintro⟨w,h1,h2⟩;rw[MZ]at h2;obtain⟨x,h3,h4⟩:=h2;refine⟨x,⟨w,h1,h3⟩,?_⟩;rw[Bool.or_eq_true,Bq,Bq,decide_eq_true_iff,decide_eq_true_iff]at h4
  rcases h4 with h4|⟨⟨h4,h5⟩,h6⟩
  ·exact .inl h4
  ·exact .inr ⟨h4,h5,h6⟩
 ·rintro⟨x,⟨w,h1,h2⟩,h3⟩;refine⟨w,h1,?_⟩;rw[MZ];refine⟨x,h2,?_⟩;rw[Bool.or_eq_true,Bq,Bq,decide_eq_true_iff,decide_eq_true_iff]
  rcases h3 with h3|⟨h3,h4,h5⟩
  ·exact .inl h3
  ·exact .inr ⟨⟨h3,h4⟩,h5⟩
def Fe(fold:Bool)(ws:La):Prop:=fold=true->∀x,De ws x->¬(65<=x/\x<=90)
theorem acv{fold:Bool}{ws:La}(Y:∀w∈ws,AO fold w=w):Fe fold ws:=by rintro rfl x ⟨w,h1,h2⟩ Z;have h:=Y w h1;unfold AO at h;rw[Lc rfl]at h;obtain⟨i,X⟩:=DR h2;have h3:=congrArg (λl=>l[i]?) h;simp only[BU,X,Dw]at h3;have h4:BE x=x:=AK h3;unfold BE at h4;rw[Lc Z]at h4;omega
theorem IF{fold:Bool}{ws:La}(V:Fe fold ws):Shut (inB fold ws) fold:=by
 intro j X;rw[Bq]at X;obtain⟨rfl,Y⟩:=X;have Z:=Y;unfold CF at Z;rw[decide_eq_true_iff]at Z;rw[Db,afs,afs]
 constructor
 ·rintro⟨x,h1,h2⟩;refine⟨j,?_,.inr ⟨rfl,Y,by omega⟩⟩
  rcases h2 with rfl|⟨_,h3,h4⟩
  ·exact h1
  ·unfold CF at h3;rw[decide_eq_true_iff]at h3;omega
 ·rintro⟨x,h1,h2⟩;have U:=V rfl x h1
  rcases h2 with h2|⟨_,h3,h4⟩
  ·omega
  ·obtain rfl:x=j:=by omega
   exact⟨_,h1,.inl rfl⟩
theorem agV{fold:Bool}{ws:La}(Z:Fe fold ws){c d:Nat}(X:De ws c)(Y:De ws d)(h:DA (inB fold ws) fold c=DA (inB fold ws) fold d):c=d:=by
 have h1:=aln (IF Z) (Kh X) (Kh Y) h;unfold EJ at h1
 cases fold with
 |false=>simpa using h1
 |true=>
  have U:=Z rfl c X;have V:=Z rfl d Y;unfold CF at h1;simp only[FJ,decide_eq_true_iff]at h1
  split at h1<;>split at h1<;>omega
section
open Go Go.RowKit Go.Sort
theorem aby{p:Nat}:∀(Z:List (Nat×Nat))(r:List Int),(∀q∈Z,q.1≠p)->(DV r Z)[p]?=r[p]?
 |[],r,_=>rfl
 |k::Z,r,h=>by show(DV (r.set k.1 _) Z)[p]?=_;rw[aby Z _ (λq Y=>h q (by simp[Y])),FH (h k sm)]
theorem acG{p k:Nat}:∀(Y:List (Nat×Nat))(r:List Int),(∀q∈Y,q.1=p->q.2=k)->p<r.length->((∃q∈Y,q.1=p)∨r[p]?=some (k:Int))->(DV r Y)[p]?=some (k:Int)
 |[],r,_,_,h=>by
  rcases h with⟨q,Z,_⟩|h
  ·cases Z
  ·exact h
 |a::Y,r,h,hp,h2=>by
  show(DV (r.set a.1 (a.2:Int)) Y)[p]?=_;refine acG Y _ (λq Z=>h q (by simp[Z])) (by simpa using hp) ?_
  by_cases e:a.1=p
  ·right
   rw[e,FU hp,h a sm e]
  ·rcases h2 with⟨q,Z,X⟩|h2
   ·rcases CR.1 Z with rfl|Z
    ·exact absurd X e
    ·exact .inl ⟨q,Z,X⟩
   ·right
    rw[FH e];exact h2
def FX(F:List Int)(many j:Nat):List Int:=(F.drop (j*many)).take many
theorem LZ{F:List Int}{many j p:Nat}(Z:p<many):(FX F many j)[p]?=F[j*many+p]?:=by unfold FX;rw[MW Z,Hm]
theorem abe{F:List Int}{many n j:Nat}(Y:F.length=many*n)(Z:j<n):(FX F many j).length=many:=by have:=IE (many:=many) Z;unfold FX;simp;omega
theorem an0{F r:List Int}{P q:Nat}(h:P+r.length<=F.length)(Z:q<P∨P+r.length<=q):(spl F P r)[q]?=F[q]?:=by
 have Y:(F.take P).length=P:=by simp;omega
 unfold spl
 rcases Z with Z|Z
 ·rw[CE,By om,MW Z]
 ·rw[DY (by rw[List.length_append,Y];exact Z),List.length_append,Y,Hm];congr 1;omega
theorem ahm{F r:List Int}{many n i:Nat}(V:F.length=many*n)(Z:i<n)(U:r.length=many):FX (spl F (i*many) r) many i=r:=by
 have Y:=IE (many:=many) Z
 apply Hn
 intro p
 by_cases X:p<many
 ·rw[LZ X,Ok om om]
 ·have h1:=abe (F:=spl F (i*many) r) (many:=many) (n:=n) (by rw[Oj om];exact V) Z;rw[GT om,GT om]
theorem abS{F r:List Int}{many n i j:Nat}(U:F.length=many*n)(N:i<n)(X:j<n)(J:r.length=many)(Z:j≠i):FX (spl F (i*many) r) many j=FX F many j:=by
 have V:=IE (many:=many) N
 apply Hn
 intro p
 by_cases Y:p<many
 ·rw[LZ Y,LZ Y];refine an0 om ?_
  rcases Nat.lt_or_gt_of_ne Z with h|h
  ·left
   have:=IO many (show j+1<=i from h);rw[Nat.succ_mul]at this;omega
  ·right
   have:=IO many (show i+1<=j from h);rw[Nat.succ_mul]at this;omega
 ·have h1:=abe (F:=spl F (i*many) r) (many:=many) (n:=n) (by rw[Oj om];exact U) X;have h2:=abe (F:=F) (many:=many) U X;rw[GT om,GT om]
def JV(ws:La)(x:List Int)(c:Int):Int:=CW (AB ws) (lsf (AB ws) (x++[c]))
theorem Lp{ws:La}{x:List Int}{c:Int}(h:x++[c]∈AB ws):De ws c:=by
 rcases(DT ws).1 h with h|⟨w,Z,k,_,_,Y⟩
 ·simp at h
 ·exact⟨w,Z,EG (i:=k) (by rw[<-Y];simp)⟩
theorem ajg{fold:Bool}{ws:La}(h:Fe fold ws)(B:∀x,De ws x->0<=x/\x<=255){i:Nat}{x:List Int}(D:(AB ws)[i]?=some x){q:Nat×Nat} :q∈Ec (BF fold ws) (AG ws) (i:Int) (AB ws).length↔∃(c j:Nat),(AB ws)[j]?=some (x++[(c:Int)])/\q=(DA (inB fold ws) fold c,j):=by
 have Y:=(CL ws).nodup;have X:∀c:Nat,De ws (c:Int)->(BF fold ws)[c]?=some (DA (inB fold ws) fold c:Int):=λc C=>ag8 (IF h) (Kh C) (by have:=B _ C;omega);unfold Ec;rw[Be]
 constructor
 ·rintro⟨⟨b,j⟩,z,rfl⟩;obtain⟨h1,h2,h3,h4⟩:=ac0.1 z;dsimp only at h1 h2 h3 h4;obtain⟨y,Z⟩:∃y,(AB ws)[j]?=some y:=⟨(AB ws)[j]'h2,by simp⟩;obtain⟨u1,N,_⟩:=JC Z;rw[u1]at h3;rw[N,CG]at h4;have J:y≠[]:=λe2=>by have:=(EM Z).2 e2;omega
  obtain⟨k,hk⟩:=DR (LR (AX Z));have A:=CV Y hk;have H:k=i:=by have:=AK h3;omega
  subst H;rw[D]at hk;have I:y=x++[b]:=by rw[AK hk,h4];exact Om J
  subst I;have V:=Lp (AX Z);have a1:=B _ V;obtain⟨c,rfl⟩:∃c:Nat,b=(c:Int):=⟨b.toNat,by omega⟩;refine⟨c,j,Z,?_⟩;rw[Aa,X c V,CG,Aa]
 ·rintro⟨c,j,U,rfl⟩;have V:=Lp (AX U);refine⟨((c:Int),j),ac0.2 ?_,?_⟩
  ·obtain⟨u1,N,_⟩:=JC U;rw[u1,N,LJ];have s:=(AP.1 U).1;refine⟨?_,s,?_,?_⟩
   ·have h0:j≠0:=λe=>by have:=(EM U).1 e;simp at this
    show 1<=j;omega
   ·rw[CV Y D]
   ·show(c:Int)=_;simp[DU]
  ·dsimp only;rw[Aa,X c V,CG,Aa]
def anY(fold:Bool)(ws:La)(r:List Int)(x:List Int):Prop:=
 r.length=Ah fold ws/\r[0]?=some 0/\∀c:Nat,De ws (c:Int)->r[DA (inB fold ws) fold c]?=some (JV ws x (c:Int))
theorem agJ{fold:Bool}{ws:La}(J:Fe fold ws)(C:∀x,De ws x->0<=x/\x<=255){i:Nat}{x:List Int}(B:(AB ws)[i]?=some x){r:List Int}(A:r.length=Ah fold ws)(h0:r[0]?=some 0)
  (Y:∀c:Nat,De ws (c:Int)->x++[(c:Int)] ∉ AB ws->r[DA (inB fold ws) fold c]?=some (JV ws x (c:Int))) :
  anY fold ws (DV r (Ec (BF fold ws) (AG ws) (i:Int) (AB ws).length)) x:=by
 have N:=@ajg fold ws J C i x B;refine⟨by rw[aaW];exact A,?_,λc V=>?_⟩
 ·rw[aby]
  ·exact h0
  ·intro q X e;obtain⟨d,j,_,rfl⟩:=N.1 X;have:=alr (inB fold ws) fold d;dsimp only at e;omega
 ·have z:DA (inB fold ws) fold c<Ah fold ws:=ME (IF J) (Kh V) (by have:=C _ V;omega)
  by_cases U:x++[(c:Int)]∈AB ws
  ·obtain⟨j,I⟩:=DR U;have H:JV ws x (c:Int)=(j:Int):=by
    unfold JV;rw[Lu U,CV (CL ws).nodup I]
   rw[H];refine acG _ _ (λq X e=>?_) om (.inl ⟨_,N.2 ⟨c,j,I,rfl⟩,rfl⟩);obtain⟨d,k,hk,rfl⟩:=N.1 X;have D:=Lp (AX hk);have Z:=agV J D V e;subst Z;exact alO hk I
  ·rw[aby]
   ·exact Y c V U
   ·intro q X e;obtain⟨d,k,hk,rfl⟩:=N.1 X;have D:=Lp (AX hk);have Z:=agV J D V e;subst Z;exact U (AX hk)
def Nv(fold:Bool)(ws:La)(F:List Int)(i:Nat):Prop:=
 F.length=Ah fold ws*(AB ws).length/\(∀j:Nat,j<i->∀x,(AB ws)[j]?=some x->anY fold ws (FX F (Ah fold ws) j) x)/\∀j:Nat,i<=j->j<(AB ws).length->FX F (Ah fold ws) j=List.replicate (Ah fold ws) 0
theorem OY(ws:La):(AG ws).up.length=(AB ws).length:=by simp[AG]
theorem ada{ws:La}{i:Nat}{x:List Int}(Z:(AB ws)[i]?=some x)(h0:i≠0):∃k:Nat,(Bo ws)[i]?=some (k:Int)/\k<i/\(AB ws)[k]?=some (EC (AB ws) x):=by obtain⟨k,h1,h2⟩:=acQ (ws:=ws) x;refine⟨k,by rw[JP Z,h1],?_,h2⟩;exact afH Z h2 (Lx (λe=>h0 ((EM Z).2 e)))
theorem amk{fold:Bool}{ws:La}(hg:Fe fold ws)(hb:∀x,De ws x->0<=x/\x<=255){F:List Int}{i:Nat}(J:i<(AB ws).length)(h:Nv fold ws F i) :Nv fold ws (Kn (BF fold ws) (AG ws) (Bo ws) F (Ah fold ws) i) (i+1):=by
 obtain⟨C,V,Z⟩:=h;obtain⟨x,X⟩:∃x,(AB ws)[i]?=some x:=⟨(AB ws)[i],by simp⟩;have a2:1<=Ah fold ws:=(Hb _ _ _).1;have hl:i≠0->∃k:Nat,(Bo ws)[i]?=some (k:Int)/\k<(AB ws).length:=λh0=>by obtain⟨k,h1,h2,_⟩:=ada X h0;exact⟨k,h1,by omega⟩
 have Y:=adR (lk:=Bo ws) C J hl;have D:anY fold ws (DV (Hd F (Ah fold ws) i (Bo ws)) (Ec (BF fold ws) (AG ws) (i:Int) (AB ws).length)) x:=by
  by_cases h0:i=0
  ·subst h0;have z:=(EM X).1 rfl;subst z;have U:Hd F (Ah fold ws) 0 (Bo ws)=List.replicate (Ah fold ws) 0:=by
    rw[<-Z 0 (AC _) J];unfold Hd FX;rw[Lc rfl]
   rw[U]at Y⊢;refine agJ hg hb X Y (by rw[Jo,Lc om]) (λc B I=>?_);have s:DA (inB fold ws) fold c<Ah fold ws:=ME (IF hg) (Kh B) (by have:=hb _ B;omega);rw[Jo,Lc s];unfold JV;rw[Av]at I⊢;rw[ady I,CV (CL ws).nodup X]
   rfl
  ·obtain⟨k,h1,h2,h3⟩:=ada X h0;have U:Hd F (Ah fold ws) i (Bo ws)=FX F (Ah fold ws) k:=by
    unfold Hd FX;rw[Lb h0,h1]
    rfl
   rw[U]at Y⊢;obtain⟨g1,g2,g3⟩:=V k h2 _ h3;refine agJ hg hb X Y g2 (λc B I=>?_);rw[g3 c B];unfold JV EC;rw[<-Ng (KQ ws)]
   cases x with
   |nil=>exact absurd ((EM X).2 rfl) h0
   |cons a t=>
    conv=>rhs;rw[CT];unfold lsf
    rw[CT]at I;rw[Lb I]
    rfl
 unfold Kn;rw[OY];have N:=D.1;have a1:=IE (many:=Ah fold ws) J;refine⟨by rw[Oj om];exact C,λj hj y A=>?_,λj hj H=>?_⟩
 ·by_cases e:j=i
  ·subst e;rw[ahm C J N];rw[X]at A;rw[<-AK A];exact D
  ·rw[abS C J om N e];exact V j om y A
 ·rw[abS C J H N om];exact Z j om H
theorem alc(fold:Bool)(ws:La):Nv fold ws (List.replicate (Ah fold ws*(AB ws).length) 0) 0:=by refine⟨by simp,λj Z=>absurd Z (Nat.not_lt_zero _),λj _ Z=>?_⟩;have Y:=IE (many:=Ah fold ws) Z;unfold FX;rw[List.drop_replicate,List.take_replicate];congr 1;omega
def IR(fold:Bool)(ws:La):Nat->List Int
 |0=>List.replicate (Ah fold ws*(AB ws).length) 0
 |i+1=>Kn (BF fold ws) (AG ws) (Bo ws) (IR fold ws i) (Ah fold ws) i
theorem Mr{fold:Bool}{ws:La}(Z:Fe fold ws)(Y:∀x,De ws x->0<=x/\x<=255):∀{i:Nat},i<=(AB ws).length->Nv fold ws (IR fold ws i) i
 |0,_=>alc fold ws
 |i+1,h=>amk Z Y h (Mr Z Y om)
def FN(fold:Bool)(ws:La):List Int:=IR fold ws (AB ws).length
theorem aoy{fold:Bool}{ws:La}(V:Fe fold ws)(U:∀x,De ws x->0<=x/\x<=255){j:Nat}{x:List Int}(X:(AB ws)[j]?=some x) :(FN fold ws)[j*Ah fold ws]?=some 0/\∀c:Nat,De ws (c:Int)->(FN fold ws)[j*Ah fold ws+DA (inB fold ws) fold c]?=some (JV ws x (c:Int)):=by
 have J:=(AP.1 X).1;obtain⟨_,h1,_⟩:=Mr V U (AC (AB ws).length);obtain⟨h2,h3,h4⟩:=h1 j J x X;have N:1<=Ah fold ws:=(Hb _ _ _).1;refine⟨?_,λc Y=>?_⟩
 ·rw[LZ om]at h3;exact h3
 ·have h5:=h4 c Y;have Z:DA (inB fold ws) fold c<Ah fold ws:=ME (IF V) (Kh Y) (by have:=U _ Y;omega);rw[LZ Z]at h5;exact h5
end
def dvC(L:List Int)(m:Int)(row:Value):List Value:=(L.map (int i64)++[int i64 m])++[row]
structure Dv(W:World)(B:Nat)(L:List Int)(m:Int)(row:Value):Prop where
 box:W.heap[B]?=some (.cells (dvC L m row).toArray 146 (0,0))
 len:L.length=256
theorem Dv.lt{W:World}{B:Nat}{L:List Int}{m:Int}{row:Value}(h:Dv W B L m row):B<W.heap.size:=(AD.1 h.box).1
theorem Dv.below{W V:World}{B:Nat}{L:List Int}{m:Int}{row:Value}(h:Dv W B L m row)(Z:Bt W V):Dv V B L m row:=⟨(Z.block B h.lt).trans h.box,h.len⟩
theorem Dv.cells{W:World}{B:Nat}{L:List Int}{m:Int}{row:Value}(h:Dv W B L m row):W.cell? ⟨B,256,none⟩=some (int i64 m)/\W.cell? ⟨B,257,none⟩=some row:=by
 have Z:=h.len;have X:(dvC L m row)[256]?=some (int i64 m):=by unfold dvC;rw[CE,DY (by simp[Z])];simp[Z]
 have Y:(dvC L m row)[257]?=some row:=by unfold dvC;rw[DY (by simp[Z])];simp[Z]
 simp only[cell?,h.box];simp[X,Y]
theorem Dv.new(w:World)(L:List Int)(m:Int)(row:Value)(Z:L.length=256):Dv (w.alloc (.cells (dvC L m row).toArray 146)) w.heap.size L m row:=⟨((Bx.nil _ w).snoc (.cells (dvC L m row).toArray 146) rfl) 0 _ rfl,Z⟩
def Hu(m:Int)(n:Nat):Int:=if m<1 then 0 else(n:Int) / m
theorem ab7(L:List Int)(m:Int)(a:Option Addr)(n c:Nat)(w:World)(B:L.length=256)(C:n<=1000000000000) :Calls ZP 89 #[.agg (dvC L m (slice a n c)).toArray] w λe w'=>e=.returned (int i64 (Hu m n))/\Bt w w':=by
 have J:=Dv.new w L m (slice a n c) B;have hB:Bt w (w.alloc (.cells (dvC L m (slice a n c)).toArray 146)):=AL _ _;obtain⟨W,hW⟩:∃W,W=w.alloc (.cells (dvC L m (slice a n c)).toArray 146):=⟨_,rfl⟩;rw[<-hW]at J hB;obtain⟨s1,s2⟩:=J.cells;obtain⟨A,D⟩:∃A,(dvC L m (slice a n c)).toArray=A:=⟨_,rfl⟩;rw[D]at hW⊢;clear D J
 by_cases Z:m<1
 ·have z:decide (m<1)=true:=by simpa using Z
  have Y:Hu m n=0:=by unfold Hu;rw[Lc Z]
  rw[Y];clear Y Z;go_enter func89,ntmps89;go_upto_region 1 with fail
  rw[<-hW];clear hW
  go_wp2_with fail
  go_ret;exact⟨rfl,hB⟩
 ·have z:decide (m<1)=false:=by simpa using Z
  obtain⟨k,rfl⟩:∃k:Nat,m=(k:Int):=⟨m.toNat,by omega⟩;have Y:Hu k n=((n / k:Nat):Int):=by unfold Hu;rw[Lb Z];exact(Int.natCast_ediv n k).symm
  rw[Y];have N:¬((k:Int)=0):=by omega
  have U:((k:Int)==0)=false:=by simp;omega
  have H:(n:Int).tdiv (k:Int)=((n / k:Nat):Int):=(Int.ofNat_tdiv n k).symm;have V:n / k<=n:=Nat.div_le_self _ _;have X:wrap64 ((n:Int) / (k:Int))=((n / k:Nat):Int):=by
   have h2:n / k<=1000000000000:=AS V C;rw[<-Int.natCast_ediv];clear H N U V
   generalize n / k=d at h2⊢
   unfold wrap64;omega
  have I:=AA X;clear X H;clear Y Z;go_enter func89,ntmps89;go_upto_region 1 with fail
  rw[<-hW];clear hW
  go_wp2_with fail
  rw[I.out];go_ret;exact⟨rfl,hB⟩
theorem Nl:(ZP.info? 146).map (·.size)=some 258:=by kernel_rfl
theorem Ko{L:List Int}(Z:L.length=256)(m:Int)(row:Value):(dvC L m row).toArray.size=258:=by simp[dvC,Z]
def goD(L:List Int)(m:Int)(F:List Int)(node:Int)(c:Nat):Option Int:=
 if((L[c]?).getD 0<0∨m<=(L[c]?).getD 0)∨(node<0∨Hu m F.length<=node) then none else F[(node*m+(L[c]?).getD 0).toNat]?
def apk:Option Int->Value
 |some x=>.tuple #[int i64 x,bool true]
 |none=>.tuple #[int i64 0,bool false]
section inround
variable {P:Program}{ops:Array Oper}{Q Q':Exit->Act->World->Prop}{md:Region.Mode}{n l:Nat}
theorem adi{row:String}{args:Array Value}{w:World}{R:Value->World->Prop}(h:Rows P row args w R):RowsIn (Fence.wide.inRound l) n P row args w R:=λc cs _=>let⟨v,w',r,s⟩:=h c cs;⟨v,w',r,stepsIn_wide.2 s⟩
theorem acX{o:Oper}{a:Act}{w:World}{K:Act->World->Prop}(Z:∀c,o.op≠.defer c)(V:∀e a w,Q e a w->Q' e a w)(U:¬LetsOut Q)
  (h:o.wp P a w K Q):o.wpIn (Fence.wide.inRound l) n P a w K Q':=by
 unfold Oper.wp at h;unfold Oper.wpIn;refine⟨λf _=>trivial,?_⟩;rw[Oper.semAt_eq _ _ _ Z]
 generalize (execOp a.eval o).run P w=r at *
 cases r with
 |ok x w'=>
  cases x<;>simp only[Oper.upon]at h<;>simp only[Oper.uponIn]
  case value u=>exact h
  case skip=>exact h
  case defer d=>exact h
  case enter f args=>
   refine⟨(λX=>by cases X),(callsIn_wide (n:=n-1)).2 (h.mono λe w'' Y=>?_)⟩
   cases e with
   |returned u=>exact Y
   |panicked c=>exact V _ _ _ Y
   |outgrown=>exact absurd Y U
  case row row args=>exact⟨(λX=>by cases X),adi h⟩
 |halt x w'=>
  cases x<;>simp only[Oper.upon]at h<;>simp only[Oper.uponIn]
  case panic u=>exact V _ _ _ h
theorem abr(X:Eb ops=true)(V:∀e a w,Q e a w->Q' e a w)(N:¬LetsOut Q):∀(Y:Nat)(Z:Array Bool)(a:Act)(w:World),
  wpAny P md ops Q Y Z a w->wpAnyIn (Fence.wide.inRound l) n P md ops Q' Y Z a w
 |0,_,_,_,h=>⟨h.1,V _ _ _ h.2⟩
 |Y+1,Z,a,w,h=>by
  refine⟨λh0=>V _ _ _ (h.1 h0),λi J=>?_⟩;have h1:=wpOp_mono (λH w' I=>abr X V N Y _ H w' I) (h.2 i J);unfold wpOp at h1;unfold wpOpIn
  split
  ·rename_i ho;simp only[ho]at h1;exact h1
  ·rename_i o ho
   simp only[ho]at h1
   split
   ·rename_i U
    simp only[U,if_true]at h1
    rcases h1 with h1|⟨_,h1⟩
    ·exact acX (ab0 X ho) V N h1
    ·exact absurd h1 N
   ·rename_i U
    simp only[U]at h1;exact⟨λf _=>trivial,h1⟩
def Gn(Q:Exit->Act->World->Prop):Exit->Act->World->Prop
 |.normal,a,w=>Q .normal a w
 |_,_,_=>False
theorem Gn.normal{a:Act}{w:World}(h:Q .normal a w):Gn Q .normal a w:=h
theorem Gn.imp:∀(e:Exit)(a:Act)(w:World),Gn Q e a w->Q e a w:=λe a w h=>by cases e<;>first|exact h|exact absurd h id
theorem af8:¬LetsOut (Gn Q):=λ⟨_,_,h⟩=>h
theorem aa4{S:World->Prop}{id:Nat}{a:Act}{w:World}(Y:P.follows .mixedOrders=true)(Z:Eb ops=true)(X:S w.drew)
  (h:S w.drew->wpAnyH P .any ops (Gn Q) S ops.size (Array.replicate ops.size false) a w.drew):(Code.region id ops true).wpIn (Fence.wide.inRound l) n P Q a w:=
 wpIn_region_any Y (abr Z Gn.imp af8 _ _ _ _ (wpAny_of_held _ _ _ _ (h X)))
theorem NT(w:World){o:Oper}{a:Act}{K:Act->World->Prop}(s x:Operand)(t:TypeId)
  (D:o.op=.call {callee:=.builtin .append,args:=#[s,x],argTypes:=#[t,t]})
  (base:Nat) (e:TypeId) (i:TypeInfo) (z:Value) (size bytes:Nat) (ht:P.underlying t=some (.slice e)) (hi:P.info? e=some i) (hz:i.zero=some z) (Y:i.size=size) (C:i.bytes=bytes) (J:z.cells.size=size) (I:0<size)
  (v:Value) (n:Nat) (xs:List Value) (hs:a.eval s=v) (U:w.ownsRow base e size v n xs) (A:Option Addr) (m c:Nat) (cs:List Value) (hx:a.eval x=slice A m c) (H:SlK size w A m cs) (N:∀u∈cs,u.oneCell'=true)
  (B:n+m<=maxLen) (Z:(n+m)*bytes<=140737488355328) (X:base<=w.heap.size)
  (h:∀v' w',w'.ownsRow base e size v' (n+m) (xs++cs)->w.grownBy w' v.ownBlock->(v'.ownBlock=v.ownBlock∨v'.ownBlock=some w.heap.size)->K (a.put o.dst v') w'):o.wp P a w K Q:=by
 obtain⟨v',w',V,j,y,r3⟩:=Gu (P:=P) w base t o.type e i z size bytes ht hi hz Y C J I v n xs U A m c cs H N B Z X;unfold Oper.wp;simp[execOp,D,resolve,invoke,builtin,hs,hx,V,Result.andThen];exact h v' w' j y r3
theorem Mi{c:Bool}{p q:Prop}(Z:c=true)(h:p):if c=true then p else q:=by rw[Lc Z];exact h
end inround
theorem amP:Tryz.zeroCells146=(dvC (List.replicate 256 0) 0 (slice none 0 0)).toArray:=by kernel_rfl
theorem afb(L:List Int)(m:Int)(row:Value)(Y:row.oneCell'=true):(dvC L m row).toArray.all (·.oneCell')=true:=by
 rw[Array.all_eq_true_iff_forall_mem];intro v Z;have Z:v∈dvC L m row:=by simpa using Z
 unfold dvC at Z;rw[Bf,Bf]at Z
 rcases Z with(Z|Z)|Z
 ·obtain⟨x,_,rfl⟩:=Be.1 Z;rfl
 ·rw[Fq]at Z;rw[Z];rfl
 ·rw[Fq]at Z;rw[Z];exact Y
theorem ace{fn:Func}{p u:Tmp}{tmps:Array Value}{W:World}{B:Nat}{cs:Array Value}(h:fn.results=#[.cell p 146,.tmp u])(X:tmps.getD p undef=pointer (some ⟨B,0,none⟩))(hB:W.heap[B]?=some (.cells cs 146 (0,0)))(Y:(ZP.info? 146).map (·.size)=some cs.size) :(results fn tmps).run ZP W=.ok (.tuple #[.agg cs,tmps.getD u undef]) W:=by
 have Z:tmps[p]?.getD undef=pointer (some ⟨B,0,none⟩):=by simpa using X
 simp[results,h,Z,asAddr,run_loadVar_row W B 146 146 cs (0,0) _ hB underlying146 rfl Y]
theorem agL(B:List Value):∀(Z A P:List Value)(k off:Nat),Z.length=A.length->P.length=off+k->
  (Z.zipIdx k).foldl (λcs (x:Value×Nat)=>cs.setIfInBounds (off+x.2) x.1) (P++A++B).toArray=(P++Z++B).toArray
 |[],[],P,k,off,_,_=>by simp
 |v::Z,a::A,P,k,off,hl,hP=>by
  rw[List.zipIdx_cons,List.foldl_cons];have Y:(P++(a::A)++B).toArray.setIfInBounds (off+k) v=((P++[v])++A++B).toArray:=by rw[<-hP];simp
  show List.foldl _ ((P++(a::A)++B).toArray.setIfInBounds (off+k) v) _=_;rw[Y,agL B Z A (P++[v]) (k+1) off (by simpa using hl) (by simp;omega)];simp
theorem Ig(Z:Nat->Option (Nat×Nat))(P A B Y:List Value)(i:Nat)(v:Value)(rest:List (Nat×Value))(V:v.cells=Y.toArray)(X:Y.length=A.length)(U:Z i=some (P.length,A.length)) :Instr.fill Z (P++A++B).toArray ((i,v)::rest)=Instr.fill Z (P++Y++B).toArray rest:=by have e:=agL B Y A P 0 P.length X rfl;rw[Instr.fill];simp only[U,V];rw[Lb (by simp[X])];congr 1;rw[<-e];simp
theorem Iz{P:Program}{Y:Array Oper}{S:World->Prop}{op:Oper}{a:Act}(X:Region.wanted op (yielded Y a.tmps)=true)(t:TypeId)(Z:Array (Nat×Operand))(ho:op.op=.build t Z)(V:Array Value)
  (U:P.built t (Z.map λ(i,x)=>(i,a.eval x)).toList=some V):YieldsIf P Y S op (.agg V) a:=
 .inl ⟨X,λw _=>by
  unfold execOp;simp only[ho,IN,run_build w t _ V U,Result.andThen_ok]
  rfl⟩
theorem ab4{w:World}{b:Nat}{A B:List Value}{t:TypeId}{fr:Nat×Nat}(X:w.heap[b]?=some (.cells (A++B).toArray t fr)):w.rangeAt b 0 A:=λj v Z=>by
 have Y:j<A.length:=(AP.1 Z).1;have e:(A++B)[j]?=some v:=by rw[By Y];exact Z
 simp only[cell?,X,DD]
 simpa using e
theorem aoC(L:List Int)(m:Int)(row:Value):dvC L m row=L.map (int i64)++[int i64 m,row]:=by simp[dvC]
theorem Dv.range{W:World}{B:Nat}{L:List Int}{m:Int}{row:Value}(h:Dv W B L m row):W.rangeAt B 0 (L.map (int i64)):=by have Z:=h.box;rw[aoC]at Z;exact ab4 Z
theorem anl(t:TV)(Y:Option Addr)(ln Z:Nat):(ZP.built 227 [(1,Value.agg #[slice t.ua t.un t.uc,slice t.da t.dn t.dc,slice t.xa t.xn t.xc,slice t.ba t.bn t.bc]),(2,slice Y ln Z)])=some (Dn (List.replicate 256 0) 0 (slice none 0 0) t (slice Y ln Z)).toArray:=by kernel_rfl
theorem abA{P:Program}{Y:Array Oper}{rest:List Oper}{o:Oper}{a:Act}{w:World}{Q:Exit->Act->World->Prop}(U:o.guard=none)(t:TypeId)(Z:Array (Nat×Operand))(ho:o.op=.build t Z)(V:Array Value)
  (X:P.built t (Z.map λ(i,x)=>(i,a.eval x)).toList=some V) (h:wpList P Y Q rest (a.put o.dst (.agg V)) w):wpList P Y Q (o::rest) a w:=
 wpList_build U t Z ho (by rw[X];rfl) (by rw[X];exact h)
theorem ag0(w:World)(g:Nat)(cs:Array Value)(t:TypeId)(fr:Nat×Nat)(Y:w.heap[g]?=some (.cells cs t fr)):w.setRow g cs=w:=by
 have e:(w.setRow g cs).heap=w.heap:=by
  apply Array.ext_getElem?
  intro i
  by_cases Z:i=g
  ·rw[Z,setRow_heap w g _ cs t fr Y,Y]
  ·exact setRow_other w g i cs Z
 have X:w.setRow g cs={w with heap:=(w.setRow g cs).heap}:=rfl;rw[X,e]
theorem aaZ(b:Nat)(t:TypeId)(fr:Nat×Nat)(B:List Value):∀(Z A P:List Value)(w:World),Z.length=A.length->w.heap[b]?=some (.cells (P++A++B).toArray t fr)->w.setCells b P.length Z=w.setRow b (P++Z++B).toArray
 |[],[],P,w,_,hg=>by simpa[World.setCells]using (ag0 w b _ t fr hg).symm
 |v::Z,a::A,P,w,hl,hg=>by
  have e:=setCell_eq_setRow w b P.length _ t fr v hg;have V:(P++(a::A)++B).toArray.setIfInBounds P.length v=((P++[v])++A++B).toArray:=by simp
  rw[V]at e;have Y:=setRow_heap w b _ ((P++[v])++A++B).toArray t fr hg;have X:=aaZ b t fr B Z A (P++[v]) (w.setRow b ((P++[v])++A++B).toArray) (by simpa using hl) Y;rw[World.setCells,e];rw[show P.length+1=(P++[v]).length by simp,X,setRow_setRow];simp
theorem aaN{P:Program}{Y:Array Oper}{rest:List Oper}{op:Oper}{a:Act}{w:World}{Q:Exit->Act->World->Prop}(V:op.guard=none)(ty:TypeId)(x y:Operand)(ho:op.op=.store ty x y)
  (b:Nat) (Z A B:List Value) (I:a.eval x=pointer (some ⟨b,0,none⟩)) (J:a.eval y=.agg Z.toArray) (t:TypeId) (U:w.heap[b]?=some (.cells (A++B).toArray t (0,0))) (N:Z.length=A.length)
  (H:(P.info? ty).map (·.size)=some Z.toArray.size) (h1:Z.toArray.all (·.oneCell')=true)
  (h:wpList P Y Q rest (a.put op.dst undef) (w.setRow b (Z++B).toArray)):wpList P Y Q (op::rest) a w:=by
 refine wpList_store_mid V ty x y ho b 0 Z.toArray I J (λj X=>?_) H h1 ?_
 ·have X:j<A.length:=by rw[<-N];simpa using X
  refine⟨?_,?_⟩
  ·simp[cell?,U,By X,X]
  ·simp[frozen?,U]
 ·have e:=aaZ b t (0,0) B Z A [] w N U;simp only[Av,Bw]at e;rw[show Z.toArray.toList=Z by simp,e];exact h
theorem Kb(L:List Int)(m:Int)(row:Value)(t:TV)(lk:Value):Dn L m row t lk=L.map (int i64)++[int i64 m,row,slice t.ua t.un t.uc,slice t.da t.dn t.dc,slice t.xa t.xn t.xc,slice t.ba t.bn t.bc,lk]:=by simp[Dn]
theorem ajz(L:List Int)(m:Int)(row:Value)(t:TV)(lk:Value):Dn L m row t lk=dvC L m row++[slice t.ua t.un t.uc,slice t.da t.dn t.dc,slice t.xa t.xn t.xc,slice t.ba t.bn t.bc,lk]:=by simp[Dn,dvC]
theorem akK(L:List Int)(m:Int)(row:Value)(t:TV)(lk:Value)(Y:row.oneCell'=true)(hk:lk.oneCell'=true):(Dn L m row t lk).toArray.all (·.oneCell')=true:=by
 rw[ajz];have:=afb L m row Y;rw[Array.all_eq_true_iff_forall_mem]at this⊢;intro v Z;rw[List.mem_toArray,Bf]at Z
 rcases Z with h|h
 ·exact this v (by rw[List.mem_toArray];exact h)
 ·simp at h;rcases h with rfl|rfl|rfl|rfl|rfl<;>first|rfl|exact hk
theorem ajt{L:List Int}(Z:L.length=256)(m:Int)(row:Value)(t:TV)(lk:Value):(Dn L m row t lk).toArray.size=263:=by simp[Dn,Z]
theorem Mk.frozen{W:World}{M:Nat}{L:List Int}{m:Int}{row lk:Value}{t:TV}(h:Mk W M L m row t lk)(i:Nat):W.frozen? ⟨M,i,none⟩=false:=by simp[frozen?,h.box]
theorem Mk.setMany{W:World}{M:Nat}{L:List Int}{m:Int}{row lk:Value}{t:TV}(h:Mk W M L m row t lk)(v:Int):Mk (W.setCell ⟨M,256,none⟩ (int i64 v)) M L v row t lk:=by
 refine⟨?_,h.len⟩;rw[setCell_eq_setRow W M 256 _ _ _ _ h.box,setRow_heap W M _ _ _ _ h.box];have e:(Dn L m row t lk).toArray.setIfInBounds 256 (int i64 v)=(Dn L v row t lk).toArray:=by rw[Kb,Kb,Fp,Jm _ _ (by simp[h.len])];simp[h.len]
 rw[e]
theorem Mk.setRows{W:World}{M:Nat}{L:List Int}{m:Int}{row lk:Value}{t:TV}(h:Mk W M L m row t lk)(v:Value):Mk (W.setCell ⟨M,257,none⟩ v) M L m v t lk:=by
 refine⟨?_,h.len⟩;rw[setCell_eq_setRow W M 257 _ _ _ _ h.box,setRow_heap W M _ _ _ _ h.box];have e:(Dn L m row t lk).toArray.setIfInBounds 257 v=(Dn L m v t lk).toArray:=by rw[Kb,Kb,Fp,Jm _ _ (by simp[h.len])];simp[h.len]
 rw[e]
theorem Mw{W:World}{α:Type}{enc:α->Value}{a:Option Addr}{n:Nat}{xs:List α}(h:Sl1 enc W a n xs)(X:0<xs.length)(x:Addr)(Y:a=some x):x.block<W.heap.size:=by
 rcases h.2 with h0|⟨b,off,e,Z,_⟩
 ·have:=h.1;omega
 ·rw[Y]at e;cases e;exact Z
theorem anf{W:World}{t:TV}{T:Ay}(h:Tri W t T)(h1:0<T.up.length)(h2:0<T.dep.length)(h3:0<T.wrd.length)(h4:0<T.byt.length):Lw t W.heap.size:=by
 rintro a (e|e|e|e)
 ·exact Mw h.up h1 a e
 ·exact Mw h.dep h2 a e
 ·exact Mw h.wrd h3 a e
 ·exact Mw h.byt.1 h4 a e
theorem anU{fold:Bool}{ws:La}(X:Fe fold ws)(c:Nat)(v:Int)(h:(BF fold ws)[c]?=some v):0<=v/\v<(Ah fold ws:Int):=by
 have Y:c<256:=by have:=(AP.1 h).1;rw[Jc]at this;exact this
 have V:1<=Ah fold ws:=(Hb _ _ _).1
 cases Z:inB fold ws (c:Int)with
 |false=>
  have:=amJ (fold:=fold) Z Y;rw[show(Ac (inB fold ws) fold 256).1=BF fold ws from rfl,h]at this
  cases this;omega
 |true=>
  have e:=ag8 (IF X) Z Y;rw[show(Ac (inB fold ws) fold 256).1=BF fold ws from rfl,h]at e;have U:DA (inB fold ws) fold c<Ah fold ws:=ME (IF X) Z Y
  cases e;omega
theorem aol:(ZP.info? 227).map (·.size)=some 263:=by kernel_rfl
theorem aox:Tryz.zeroCells227.size=263:=by kernel_rfl
theorem aha(fold:Bool)(a:Option Addr)(la ca:Nat)(wss:La)(w:World)(hA:Wds w a la wss)(aX:la<=1000000)(hM:∀x∈wss,x.length<=1000000)(hT:(Ad fold wss).length<=1000000)(hr:An fold wss=true) :Calls ZP 86 #[.agg (AM fold a la ca)] w λe w'=>∃R,e=.returned (.tuple #[.agg (dvC (BF fold wss) (Ah fold wss) (.slice (some ⟨R,0,none⟩) (Ah fold wss*(AB wss).length) (Ah fold wss*(AB wss).length))).toArray,.int .i64 0])/\
   AU R (FN fold wss) w'/\w.heap.size<=R/\Bt w w':=by
 obtain⟨W,hW⟩:∃W,W=(w.alloc (.cells (AM fold a la ca) 24)).alloc (.cells Tryz.zeroCells146 146):=⟨_,rfl⟩;have hB:Bt w W:=by rw[hW];exact((AH _ _).alloc (AC _) _).alloc sm _
 have hO:Bx w.heap.size [.cells (AM fold a la ca) 24,.cells Tryz.zeroCells146 146] W:=by rw[hW];exact((Bx.nil _ w).snoc _ rfl).snoc _ sm
 have s0:W.cell? ⟨w.heap.size,0,none⟩=some (bool fold):=hO.cell (i:=0) rfl rfl;have s1:W.cell? ⟨w.heap.size,1,none⟩=some (slice a la ca):=hO.cell (i:=0) rfl rfl;have aM:=hA.below hB;have aF:CI (AG wss)=some (AB wss,wss):=Fy.2 ⟨IY hr,rfl,rfl⟩;have HC:=AA (abH fold a la ca wss W aM aX hM hT hr);have HO:=AA hO;have bX:=AA aM;have bL:=AA aF;have bJ:=AA hr;have HM:=AA hM;have HT:=AA hT;have bz:(AB wss).length<=400:=Hx aF;have au:0<(AB wss).length:=apG.2 (Lo wss);have hg:Fe fold wss:=acv (Fv hr).2;have aY:∀x,De wss x->0<=x/\x<=255:=by rintro x ⟨xs,h1,h2⟩;exact hA.bytes xs h1 x h2
 have HG:=AA hg;have bW:=AA aY;obtain⟨n,hn⟩:∃n,(AB wss).length=n:=⟨_,rfl⟩;obtain⟨m,hm⟩:∃m,Ah fold wss=m:=⟨_,rfl⟩;have a1:1<=m/\m<=257:=by rw[<-hm];exact Hb _ _ _
 have HN:=AA hn;have ac:=AA hm;obtain⟨Q,hQ⟩:∃Q,m*n=Q:=⟨_,rfl⟩;have cb:Q<=257*400:=by rw[<-hQ];exact GR a1.2 om
 have e1:wrap64 ((m:Int)*(n:Int))=(Q:Int):=by rw[<-Iy,hQ];unfold wrap64;omega
 have HQ:=AA hQ;rw[hn,hm,hQ];rw[hn]at bz au;clear hr hO hA aM aF hM hT hg aY hn hm hQ;go_enter func86,ntmps86;go_upto_region 1 with fail
 rw[<-hW];clear hW;go_upto_region 4 with(go_at_call 87;refine HC.out.mono ?_;rintro e J ⟨t,rfl,aZ,aI⟩)
 obtain⟨W2,a2⟩:∃W2,W2=J.alloc (.cells #[slice t.ua t.un t.uc,slice t.da t.dn t.dc,slice t.xa t.xn t.xc,slice t.ba t.bn t.bc] 150):=⟨_,rfl⟩;have bD:Bt W W2:=by rw[a2];exact aI.alloc aI.size _
 have az:Bt J W2:=by rw[a2];exact AL _ _
 have D:Bx J.heap.size [.cells #[slice t.ua t.un t.uc,slice t.da t.dn t.dc,slice t.xa t.xn t.xc,slice t.ba t.bn t.bc] 150] W2:=by rw[a2];exact(Bx.nil _ J).snoc _ rfl
 have ah:=aZ.below az;rw[<-a2];have v0:W2.cell? ⟨J.heap.size,0,none⟩=some (slice t.ua t.un t.uc):=D.cell (i:=0) rfl rfl;have v1:W2.cell? ⟨J.heap.size,1,none⟩=some (slice t.da t.dn t.dc):=D.cell (i:=0) rfl rfl;have v2:W2.cell? ⟨J.heap.size,2,none⟩=some (slice t.xa t.xn t.xc):=D.cell (i:=0) rfl rfl;have v3:W2.cell? ⟨J.heap.size,3,none⟩=some (slice t.ba t.bn t.bc):=D.cell (i:=0) rfl rfl;have bw:t.un=n:=by rw[<-HN.out,<-OY];exact ah.up.1.symm
 have HL:=AA (ack t (AG wss) (AB wss) wss W2 ah om bL.out);rw[HN.out]at HL;have bO:=AA D;have bH:=AA ah;have bs:=AA bD;clear a2 az D ah aZ aI bw s0 s1;go_upto_region 7 with(go_at_call 127;refine HL.out.mono ?_;rintro e w3 ⟨q,rfl,hq,c9,ag⟩)
 have ak:Bt W w3:=bs.out.trans (ag.mono bs.out.size);have aJ:=HO.out.below ak;have s0:w3.cell? ⟨w.heap.size,0,none⟩=some (bool fold):=aJ.cell (i:=0) rfl rfl;have s1:w3.cell? ⟨w.heap.size,1,none⟩=some (slice a la ca):=aJ.cell (i:=0) rfl rfl;have HF:=AA (akJ fold a la ca wss w3 (bX.out.below ak) aX HM.out HT.out bJ.out);rw[ac.out]at HF;have bG:=AA (bH.out.below ag);have bj:=AA (bO.out.below ag);have bi:=AA hq;have bq:=AA ak;have c7:J.heap.size<w3.heap.size:=(AD.1 (bj.out 0 _ rfl)).1;have c6:w.heap.size+1<W.heap.size:=(AD.1 (HO.out 1 _ rfl)).1;clear aJ v0 v1 v2 v3 hq ag ak;have ar:(Tryz.zeroCells144).size=(((BF fold wss).map (int i64)).toArray).size:=by rw[amX,KE,KE,Jc];simp
 have aw:(ZP.info? 144).map (·.size)=some (((BF fold wss).map (int i64)).toArray).size:=by rw[KE,Jc];exact aiS
 have be:=AA ar;have ad:=AA aw;clear ar aw;go_upto_region 10 with (first
  |(refine wpList_store_row rfl 144 _ _ rfl _ _ rfl rfl 144 _ (heap_alloc_new _ _) ad.out be.out (acS _) ?_)
  |(go_at_call 128;refine HF.out.mono ?_;rintro e w4 ⟨rfl,aH⟩))
 rw[World.setRow_alloc_new];obtain⟨Y,af⟩:∃Y,Y=w4.alloc (.cells ((BF fold wss).map (int i64)).toArray 144):=⟨_,rfl⟩;have ay:Bt w4 Y:=by rw[af];exact AL _ _
 have a8:Bt w3 Y:=aH.trans (ay.mono aH.size);have aS:Hid (Y.heap[w4.heap.size]?=some (.cells ((BF fold wss).map (int i64)).toArray 144 (0,0))):=by rw[Hid,af];exact heap_alloc_new _ _
 have av:w4.heap.size<Y.heap.size:=(AD.1 aS.out).1;rw[<-af];clear af;have a6:=bj.out.below a8;have v0:Y.cell? ⟨J.heap.size,0,none⟩=some (slice t.ua t.un t.uc):=a6.cell (i:=0) rfl rfl;have v1:Y.cell? ⟨J.heap.size,1,none⟩=some (slice t.da t.dn t.dc):=a6.cell (i:=0) rfl rfl;have v2:Y.cell? ⟨J.heap.size,2,none⟩=some (slice t.xa t.xn t.xc):=a6.cell (i:=0) rfl rfl;have v3:Y.cell? ⟨J.heap.size,3,none⟩=some (slice t.ba t.bn t.bc):=a6.cell (i:=0) rfl rfl;have aO:=AA (bG.out.below a8);have aR:Hid (Lw t Y.heap.size):=by
  have hp:0<(AB wss).length:=by rw[HN.out];exact au
  exact anf aO.out (by simpa[AG]using hp) (by simpa[AG]using hp) (by simpa[AG]using hp) (by simpa[AG]using hp)
 have ap:Hid (AU q (Bo wss) Y):=(a8.block q bi.out.lt).trans bi.out;have aa:=bq.out.trans (a8.mono bq.out.size);have aQ:Hid (Y.heap[w.heap.size+1]?=some (.cells Tryz.zeroCells146 146 (0,0))):=(HO.out.below aa) 1 _ rfl;have aD:=AA (hB.trans (aa.mono hB.size));have j:w.heap.size+1<Y.heap.size:=(AD.1 aQ.out).1;clear a6 a8 ay aH s0 s1 aa hB;obtain⟨Z,hZ⟩:∃Z,(Dn (List.replicate 256 0) 0 (slice none 0 0) t (slice (some ⟨q,0,none⟩) n n)).toArray=Z:=⟨_,rfl⟩;have bo:Hid (ZP.built 227 [(1,Value.agg #[slice t.ua t.un t.uc,slice t.da t.dn t.dc,slice t.xa t.xn t.xc,slice t.ba t.bn t.bc]),(2,slice (some ⟨q,0,none⟩) n n)]=some Z):=by rw[Hid,anl,hZ]
 have aN:Hid (Z.size=263):=by rw[Hid,<-hZ];exact ajt sm _ _ _ _
 have ao:Hid (Z.all (·.oneCell')=true):=by rw[Hid,<-hZ];exact akK _ _ _ _ _ rfl rfl
 have ab:Hid ((ZP.info? 227).map (·.size)=some Z.size):=by rw[Hid,aN.out];exact aol
 have al:Hid (Tryz.zeroCells227.size=Z.size):=by rw[Hid,aN.out];exact aox
 have am:=AA hZ;clear hZ
 iterate 7 (first|go_values|go_skip|go_guarded|go_step)
 refine abA rfl 227 _ rfl Z (by go_simp;exact bo.out) ?_
 iterate 3 (first|go_values|go_skip|go_guarded|go_step)
 refine wpList_store_row rfl 227 _ _ rfl Y.heap.size Z rfl rfl 227 _ (heap_alloc_new _ _) ab.out al.out ao.out ?_;rw[World.setRow_alloc_new];obtain⟨U,ae⟩:∃U,U=Y.alloc (.cells Z 227):=⟨_,rfl⟩;have X:Bt Y U:=by rw[ae];exact AL _ _
 have a7:Mk U Y.heap.size (List.replicate 256 0) 0 (slice none 0 0) t (slice (some ⟨q,0,none⟩) n n):=⟨by rw[ae,am.out];exact heap_alloc_new _ _,by simp⟩;have aq:Y.heap.size<U.heap.size:=a7.lt;have bm:Hid (U.heap[w4.heap.size]?=some (.cells ((BF fold wss).map (int i64)).toArray 144 (0,0))):=(X.block _ av).trans aS.out;have bb:=AA (aO.out.below X);have bh:Hid (AU q (Bo wss) U):=(X.block q ap.out.lt).trans ap.out;have aW:=ap.out.lt;have aA:Hid (U.heap[w.heap.size+1]?=some (.cells Tryz.zeroCells146 146 (0,0))):=(X.block _ j).trans aQ.out;have bp:Hid (Bt w U):=aD.out.trans (X.mono om);rw[<-ae];obtain⟨M,b1⟩:∃M,Y.heap.size=M:=⟨_,rfl⟩;rw[b1]at a7 aR aq j aW⊢;have aG:=a7.box;rw[Kb]at aG;have bl:Hid (((BF fold wss).map (int i64)).length=((List.replicate 256 (0:Int)).map (int i64)).length):=by rw[Hid,BP,BP,Jc,CS]
 have aC:=AA aG;have bR:=AA a7;clear ae X aS aO ap aQ aD ab al ao aN bo am v0 v1 v2 v3 aG a7 av b1;go_upto_region 11 with fail
 iterate 1 (first|go_values|go_skip|go_guarded|go_step)
 refine wpList_load_row rfl 144 _ rfl w4.heap.size rfl 144 _ (0,0) _ bm.out underlying144 rfl ad.out ?_
 iterate 9 (first|go_values|go_skip|go_guarded|go_step)
 refine aaN rfl 144 _ _ rfl M ((BF fold wss).map (int i64)) _ _ rfl rfl 227 aC.out bl.out ad.out (acS _) ?_;rw[<-Kb];obtain⟨w7,y⟩:∃w7,w7=U.setRow M (Dn (BF fold wss) 0 (slice none 0 0) t (slice (some ⟨q,0,none⟩) n n)).toArray:=⟨_,rfl⟩;have aj:Mk w7 M (BF fold wss) 0 (slice none 0 0) t (slice (some ⟨q,0,none⟩) n n):=⟨by rw[y];exact setRow_heap U M _ _ _ _ bR.out.box,Jc _ _⟩;have b5:RowKit.Below M U w7:=by rw[y];exact MF (AH _ _) (AC _) _
 have bI:Hid (w7.heap.size=U.heap.size):=by rw[Hid,y,setRow_size]
 rw[<-y];have b9:=aj.cells.1;have b7:=aj.frozen 256;have bQ:=AA aj;have bV:=AA b5;clear y aj b5 bm aC bl;go_upto_region 12 with fail
 obtain⟨B,z⟩:∃B,B=w7.setCell ⟨M,256,none⟩ (int i64 (m:Int)):=⟨_,rfl⟩;have ai:Mk B M (BF fold wss) (m:Int) (slice none 0 0) t (slice (some ⟨q,0,none⟩) n n):=by rw[z];exact bQ.out.setMany _
 have b4:RowKit.Below M U B:=by rw[z];exact bV.out.setCell (AC _) _
 have aU:B.heap.size=U.heap.size:=by rw[z];simpa using bI.out
 rw[<-z];have bd:=AA aU;clear aU;have b8:=ai.cells.2.1;have b6:=ai.frozen 257;have b3:M<B.heap.size:=by rw[bd.out];exact aq
 have bP:=AA ai;have bU:=AA b4;have bA:∀V:World,(Instr.makeSlice 30 (int i64 Q) (int i64 Q)).run ZP V=.ok (slice (some ⟨V.heap.size,0,none⟩) Q Q) (V.alloc (.cells (GE Q) 3)):=λV=>by
  obtain⟨i0,hi,bv,I,bu⟩:=Ve JS;have h:=run_makeSlice (P:=ZP) (w:=V) 30 3 i0 (.int .i64 0) underlying30 hi bv .i64 .i64 (Q:Int) (Q:Int) om om (by rw[I];omega) (by rw[bu];omega) om;rw[I]at h;have e1:(Q:Int).toNat*1=Q:=by omega
  rw[e1,Nc,Aa]at h;exact h
 clear z ai b4 b9 b7;go_upto_region 13 with fail
 obtain⟨R,hR⟩:∃R,B.heap.size=R:=⟨_,rfl⟩;rw[hR];have bY:U.heap.size=R:=bd.out.symm.trans hR;obtain⟨C,H⟩:∃C,C=(B.setCell ⟨M,257,none⟩ (slice (some ⟨R,0,none⟩) Q Q)).alloc (.cells (GE Q) 3):=⟨_,rfl⟩;have aT:(B.setCell ⟨M,257,none⟩ (slice (some ⟨R,0,none⟩) Q Q)).heap.size=R:=by simp[hR]
 have aP:=AA aT;clear aT;have ax:RowKit.Below M B C:=by rw[H];exact((AH M B).setCell (p:=⟨M,257,none⟩) (AC _) _).alloc (by rw[aP.out,<-hR];exact DP b3) _
 have b2:Mk C M (BF fold wss) (m:Int) (slice (some ⟨R,0,none⟩) (m*n) (m*n)) t (slice (some ⟨q,0,none⟩) n n):=by rw[H,HQ.out];exact(bP.out.setRows _).below (AL _ _)
 have b0:AU R (List.replicate Q 0) C:=by have h:=AU.new (B.setCell ⟨M,257,none⟩ (slice (some ⟨R,0,none⟩) Q Q)) Q;rw[aP.out]at h;rw[H];exact h
 have c8:C.heap.size=R+1:=by rw[H,DN,aP.out]
 rw[<-H];have N:RowKit.Below M U C:=bU.out.trans ax;have bF:=AA (bb.out.keep N om aR.out);have bN:Hid (AU q (Bo wss) C):=(N.block q aW).trans bh.out;have bg:Hid (C.heap[w.heap.size+1]?=some (.cells Tryz.zeroCells146 146 (0,0))):=(N.block _ j).trans aA.out;have bT:Hid (Bt w C):=bp.out.trans (N.mono om);have aB:Hid (Lw t R):=λa h=>Af (aR.out a h) om;have aL:M<R:=by omega
 have aV:q<R:=by omega
 have bk:=AA b2;have bM:=AA b0;clear bA b8 b6 H ax b2 b0 N bb bh aA bp hR e1;have bS:Hid (∀(V:World)(i:Nat),i<n->AU R (IR fold wss i) V->RowKit.Below R C V->Calls ZP 129 #[pointer (some ⟨M,0,none⟩),int i64 (i:Int)] V λe w'=>e=.returned (.tuple #[])/\AU R (IR fold wss (i+1)) w'/\RowKit.Below R V w'):=λV i hi hr hb=>by have hX:=Ar (show i<(AB wss).length by rw[HN.out];exact hi);have h:=ah2 t (AG wss) M R q n m i (BF fold wss) (IR fold wss i) (Bo wss) V (bF.out.keep hb om aB.out) (by simp[AG]) (by rw[OY,HN.out];omega) (bk.out.keep hb aL) (λc v hv=>by have:=anU HG.out c v hv;rw[ac.out]at this;exact this) ⟨aL,aV⟩ aB.out ((hb.block q aV).trans bN.out) (by rw[JO,HN.out]) hr (by rw[(Mr HG.out bW.out (i:=i) (by rw[HN.out];omega)).1,ac.out,HN.out]) hi om a1.1 om (λh0=>by obtain⟨k,h1,h2,_⟩:=ada hX h0;exact⟨k,h1,by omega⟩);rw[<-ac.out]at h;exact h
 go_wp2_with fail
 go_loopw[10,54] (λbZ bt wr=>∃i:Nat,i<=n/\bt=int i64 i/\Hid (AU R (IR fold wss i) wr)/\Hid (RowKit.Below R C wr)) (λ_ s _=>n-(intOf s).toNat)
 case atStart=>exact⟨0,AR _,rfl,by show AU R (List.replicate (Ah fold wss*(AB wss).length) 0) _;rw[ac.out,HN.out,HQ.out];exact bM.out,AH _ _⟩
 case round=>
  obtain⟨i,hi,rfl,hr,hb⟩:=hrel
  by_cases bB:i<n
  ·have hd:decide ((i:Int)<(n:Int))=true:=by simp;omega
   go_wp2_with (go_at_call 129;refine(bS.out wr i bB hr.out hb.out).mono ?_;rintro e wf ⟨rfl,bx,bC⟩)
   go_roundw
   case rel=>exact⟨i+1,by omega,by go_num,bx,hb.out.trans bC⟩
   case measure=>simp[intOf];omega
  ·obtain rfl:i=n:=by omega
   have hd:decide ((i:Int)<(i:Int))=false:=by simp
   have aK:=(bk.out.keep hb.out aL).box;rw[ajz,HQ.out]at aK;have aE:=ab4 aK;have A:(dvC (BF fold wss) (m:Int) (slice (some ⟨R,0,none⟩) Q Q)).toArray.size=258:=Ko (Jc _ _) _ _;have I:=afb (BF fold wss) (m:Int) (slice (some ⟨R,0,none⟩) Q Q) rfl;obtain⟨Z,hZ⟩:∃Z,dvC (BF fold wss) (m:Int) (slice (some ⟨R,0,none⟩) Q Q)=Z:=⟨_,rfl⟩;rw[hZ]at aE A I;have bK:=AA aE;have ao:=AA I;have ab:Hid ((ZP.info? 146).map (·.size)=some Z.toArray.size):=by rw[Hid,A];exact Nl
   have bE:Hid ((ZP.info? 146).map (·.size)=some Z.length):=by rw[Hid,show Z.length=258 by simpa using A];exact Nl
   have al:Hid (Tryz.zeroCells146.size=Z.toArray.size):=by rw[Hid,A,amP];exact Ko sm _ _
   have am:=AA hZ;have bf:Hid (wr.heap[w.heap.size+1]?=some (.cells Tryz.zeroCells146 146 (0,0))):=(hb.out.block _ om).trans bg.out;have H2:=AA (setRow_heap wr (w.heap.size+1) _ Z.toArray _ _ bf.out);clear aK aE A I hZ;go_upto_region 18 with fail
   iterate 4 (first|go_values|go_skip|go_guarded|go_step)
   refine wpList_load_mid rfl 146 _ rfl M 0 rfl Z _ bK.out underlying146 rfl bE.out ?_;refine wpList_store_row rfl 146 _ _ rfl (w.heap.size+1) Z.toArray rfl rfl 146 _ bf.out ab.out al.out ao.out ?_
   go_wp2_with fail
   refine Vf (ace rfl rfl H2.out ab.out) rfl ?_;refine⟨R,by rw[am.out];rfl,?_,by omega,MF (bT.out.trans (hb.out.mono om)) om _⟩;have hf:AU R (FN fold wss) wr:=by show AU R (IR fold wss (AB wss).length) wr;rw[HN.out];exact hr.out
   exact(setRow_other _ _ _ _ om).trans hf
end Go.Proofs.YtaamacoicojhnaaGreat
