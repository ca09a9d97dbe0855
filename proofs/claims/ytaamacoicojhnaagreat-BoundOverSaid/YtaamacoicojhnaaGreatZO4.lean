/- Proofs over the given program, part 4. -/
import Derived.Test.YtaamacoicojhnaaGreatZO3
set_option linter.unusedVariables false
set_option linter.unusedSimpArgs false
set_option maxRecDepth 100000
set_option maxHeartbeats 16000000
open Go.Proofs.Tryz
open Go.Proofs.Tryz renaming prog→ZP
open Go.World(cell? frozen?)
open Go.Value(int slice pointer bool)
open Go.IntKind(i64)
namespace Go.Proofs.YtaamacoicojhnaaGreat
open Go.RowKit Go.Sort
theorem Hf{w:World}{n:Nat}(h:w.heap.size=n)(o:Obj):(w.alloc o).heap[n]?=some o:=by subst h;exact AT w o
def Bx(n:Nat)(os:List Obj)(W:World):Prop:=∀(i:Nat)(o:Obj),os[i]?=some o->W.heap[n+i]?=some o
theorem Bx.below{n:Nat}{os:List Obj}{W Z:World}(h:Bx n os W)(X:Br W Z):Bx n os Z:=λi o Y=>
 have:=h i o Y
 (X.block _ (AD.1 this).1).trans this
theorem Bx.nil(n:Nat)(W:World):Bx n [] W:=λi o Z=>by simp at Z
theorem Bx.snoc{n:Nat}{os:List Obj}{W:World}(h:Bx n os W)(o:Obj)(X:W.heap.size=n+os.length):Bx n (os++[o]) (W.alloc o):=λi x Z=>by
 by_cases Y:i<os.length
 ·rw[By Y]at Z;exact(Bg _ _ _ om).trans (h i x Z)
 ·rw[DY om]at Z;have:i-os.length=0:=by
   by_cases e:i-os.length=0
   ·exact e
   ·rw[GT (by simp;omega)]at Z;cases Z
  rw[this]at Z;simp at Z;subst Z;exact Hf om _
theorem Bx.cell{n i j:Nat}{os:List Obj}{W:World}(h:Bx n os W){cs:Array Value}{t:TypeId}{fr:Nat×Nat}(Y:os[i]?=some (.cells cs t fr)){v:Value}(Z:cs[j]?=some v):W.cell? ⟨n+i,j,none⟩=some v:=by have:=h i _ Y;simp[cell?,this,Z]
theorem Bys.take{w:World}{a:Option Addr}{n:Nat}{l:List Int}(h:Bys w a n l){m:Nat}(U:m<=n):Bys w a m (l.take m):=by
 refine⟨⟨by rw[Ag,h.len];omega,?_⟩,λx V=>h.2 x (EG V)⟩
 by_cases h0:m=0
 ·exact .inl h0
 ·right
  obtain⟨b,off,rfl,X,Z⟩:=h.1.2.resolve_left om;refine⟨b,off,rfl,X,λi u Y=>Z i u ?_⟩;rw[FT]at Y
  split at Y
  ·exact Y
  ·cases Y
theorem AN(W:World)(n:Nat):Br W (W.drewN n):=⟨rfl,rfl,rfl,AC _,λ_ _=>rfl⟩
theorem AL(w:World)(o:Obj):Br w (w.alloc o):=(AH _ _).alloc (AC _) _
theorem afV{W Z:World}(h:Br W Z)(g:Nat):W.grownBy Z (some g):=⟨h.os,h.tape,h.output,h.size,λk hk _=>h.block k hk⟩
theorem GI{w:World}(cs:Array Value)(t:TypeId){n:Nat}(h:w.heap.size=n):∀j u,cs.toList[j]?=some u->(w.alloc (.cells cs t)).cell? ((⟨n,0,none⟩:Addr).add j)=some u:=by
 intro j u Z;subst h;rw[Cf];have Y:=AT w (.cells cs t);unfold cell?;dsimp only;rw[Y]
 simpa using Z
section
attribute[local go_sem] Oper.semAt_some
attribute[local simp] Ak Al
attribute[local go_sem] Ak Al
theorem aiw{fold:Bool}{wss:Lq}{text:List Int}{p k:Nat}{x:List Int}(Z:wss[k]?=some x):FP fold wss text p k=atL fold text (p:Int) x:=by unfold FP;rw[Z,CG]
end
def SlK(size:Nat)(w:World)(a:Option Addr)(len:Nat)(cs:List Value):Prop:=
 cs.length=len*size/\(len=0∨∃b off,a=some ⟨b,off,none⟩/\b<w.heap.size/\∀(i:Nat)(u:Value),cs[i]?=some u->w.cell? ⟨b,off+i,none⟩=some u)
theorem SlK.below{size:Nat}{w w':World}{a:Option Addr}{len:Nat}{cs:List Value}(h:SlK size w a len cs)(Y:Br w w'):SlK size w' a len cs:=by
 obtain⟨h1,h2|⟨b,off,e,Z,V⟩⟩:=h
 ·exact⟨h1,.inl h2⟩
 ·exact⟨h1,.inr ⟨b,off,e,Af Z Y.size,λi u X=>(Y.cell (p:=⟨b,off+i,none⟩) Z).trans (V i u X)⟩⟩
theorem SlK.news{size:Nat}{w:World}{ad:Addr}{m:Nat}{cs:List Value}(h:SlK size w (some ad) m cs):∀j u,cs[j]?=some u->w.cell? (ad.add j)=some u:=by
 intro j u Z;obtain⟨h1,h2⟩:=h;have X:=(AP.1 Z).1;have h0:m≠0:=by intro e;subst e;rw[h1,Nat.zero_mul]at X;omega
 obtain⟨b,off,e,Y,V⟩:=h2.resolve_left h0;obtain rfl:=AK e;rw[Cf];exact V j u Z
theorem SlK.own{size base n:Nat}{w:World}{e:TypeId}{v:Value}{cs:List Value}(h:w.ownsRow base e size v n cs):∃a c,v=slice a n c/\n<=c/\SlK size w a n cs:=by
 have Z:=h.1
 rcases h.2 with⟨rfl,rfl⟩|⟨g,cap,U,rfl,N,V,X,_,_,J⟩
 ·exact⟨none,0,rfl,AC _,Z,.inl rfl⟩
 ·refine⟨_,cap,rfl,X,Z,.inr ⟨g,0,rfl,(AD.1 V).1,λi x Y=>?_⟩⟩;have:=h.cells (g:=g) rfl i x Y
  rwa[Cf]at this
theorem Gu{P:Program}(w:World)(base:Nat)(t s e:TypeId)(i:TypeInfo)(z:Value)(size bytes:Nat)(I:P.underlying t=some (.slice e))(C:P.info? e=some i)(o:i.zero=some z)
  (X:i.size=size) (B:i.bytes=bytes) (J:z.cells.size=size) (H:0<size) (v:Value) (n:Nat) (xs:List Value) (Z:w.ownsRow base e size v n xs)
  (A:Option Addr) (m c:Nat) (cs:List Value) (N:SlK size w A m cs) (U:∀u∈cs,u.oneCell'=true) (y:n+m<=maxLen) (Y:(n+m)*bytes<=140737488355328) (V:base<=w.heap.size) :
  ∃v' w',(Builtin.append_ #[t,t] s #[v,.slice A m c]).run P w=.ok v' w'/\w'.ownsRow base e size v' (n+m) (xs++cs)/\w.grownBy w' v.ownBlock/\
   (v'.ownBlock=v.ownBlock∨v'.ownBlock=some w.heap.size):=by
 cases A with
 |some ad=>
  obtain⟨v',w',hr,h2,h3,_,h5⟩:=run_append_own_at (P:=P) w base t s e i z size bytes I C o X B J H v n xs Z ad m c cs N.1 N.news U y Y V;exact⟨v',w',hr,h2,h3,h5⟩
 |none=>
  have hm:m=0:=N.2.elim id λ⟨b,off,e,_⟩=>by cases e
  subst hm;have j:cs=[]:=Bz (by rw[N.1,Nat.zero_mul]);subst j;refine⟨v,w,?_,by simpa using Z,World.grownBy.refl w _,.inl rfl⟩
  rcases Z.2 with⟨rfl,rfl⟩|⟨g,cap,a1,rfl,_,_,D,_⟩
  ·simp[Builtin.append_,run_underlying I,sizeOf,typeInfo,C,Builtin.lenOf,Builtin.firstCells]
  ·simp[Builtin.append_,run_underlying I,sizeOf,typeInfo,C,Builtin.lenOf,Builtin.firstCells,D,storeCells]
theorem JA{P:Program}{w:World}{V:Array Oper}{rest:List Oper}{o:Oper}{a:Act}{Q:Exit->Act->World->Prop}(D:o.guard=none)(s x:Operand)(t:TypeId)
  (ho:o.op=.call {callee:=.builtin .append,args:=#[s,x],argTypes:=#[t,t]})
  (base:Nat) (e:TypeId) (i:TypeInfo) (z:Value) (size bytes:Nat) (ht:P.underlying t=some (.slice e)) (hi:P.info? e=some i) (y:i.zero=some z) (Y:i.size=size) (C:i.bytes=bytes) (J:z.cells.size=size) (I:0<size)
  (v:Value) (n:Nat) (xs:List Value) (hs:a.eval s=v) (U:w.ownsRow base e size v n xs) (A:Option Addr) (m c:Nat) (cs:List Value) (j:a.eval x=slice A m c) (H:SlK size w A m cs) (N:∀u∈cs,u.oneCell'=true)
  (B:n+m<=maxLen) (Z:(n+m)*bytes<=140737488355328) (X:base<=w.heap.size)
  (h:∀v' w',w'.ownsRow base e size v' (n+m) (xs++cs)->w.grownBy w' v.ownBlock->(v'.ownBlock=v.ownBlock∨v'.ownBlock=some w.heap.size)->wpList P V Q rest (a.put o.dst v') w'):wpList P V Q (o::rest) a w:=by
 refine wpList_plain D λK hK=>?_;obtain⟨v',w',hr,h2,h3,h4⟩:=Gu (P:=P) w base t o.type e i z size bytes ht hi y Y C J I v n xs U A m c cs H N B Z X;unfold Oper.wp execOp;simp only[ho,resolve,invoke,builtin,IN,IM,Result.andThen_ok,LI,BO,DE,hs,j,hr];exact hK _ _ (h v' w' h2 h3 h4)
theorem aa2{F:Fence}{k:Nat}{P:Program}(w:World){U:Array Oper}{rest:List Oper}{o:Oper}{a:Act}{Q:Exit->Act->World->Prop}(B:o.guard=none)(s x:Operand)(t:TypeId)
  (X:o.op=.call {callee:=.builtin .append,args:=#[s,x],argTypes:=#[t,t]})
  (base:Nat) (e:TypeId) (i:TypeInfo) (z:Value) (size bytes:Nat) (ht:P.underlying t=some (.slice e)) (hi:P.info? e=some i) (hz:i.zero=some z) (Y:i.size=size) (j:i.bytes=bytes) (H:z.cells.size=size) (D:0<size)
  (v:Value) (n:Nat) (xs:List Value) (hs:a.eval s=v) (J:w.ownsRow base e size v n xs) (A:Option Addr) (m c:Nat) (cs:List Value) (hx:a.eval x=slice A m c) (C:SlK size w A m cs) (I:∀u∈cs,u.oneCell'=true)
  (a2:n+m<=maxLen) (Z:(n+m)*bytes<=140737488355328) (V:base<=w.heap.size)
  (h:∀v' w',w'.ownsRow base e size v' (n+m) (xs++cs)->w.grownBy w' v.ownBlock->(v'.ownBlock=v.ownBlock∨v'.ownBlock=some w.heap.size)->wpListIn F k P U Q rest (a.put o.dst v') w'):wpListIn F k P U Q (o::rest) a w:=by
 refine wpListIn_plain B λK a1=>?_;obtain⟨v',w',N,r1,r2,r3⟩:=Gu (P:=P) w base t o.type e i z size bytes ht hi hz Y j H D v n xs J A m c cs C I a2 Z V;unfold Oper.wpIn;refine⟨?_,?_⟩
 ·simp[Oper.about,X,resolve,Target.leads,IM]
 ·rw[Oper.semAt_plain F _ _ (by rw[X];intro c y;cases y)];simp[execOp,X,resolve,invoke,builtin,hs,hx,N,Result.andThen];exact a1 _ _ (h v' w' r1 r2 r3)
/-! ### hits -/
def I64(n:Int):Prop:=-9223372036854775808<=n/\n<=9223372036854775807
def IH(h:AF):List Value:=[int i64 h.1,int i64 h.2]
def AV(l:List AF):List Value:=l.flatMap IH
theorem afo(l:List AF)(h:AF):AV (l++[h])=AV l++[int i64 h.1,int i64 h.2]:=by simp[AV,IH]
theorem JT(l m:List AF):AV (l++m)=AV l++AV m:=by simp[AV]
theorem GF:∀(l:List AF),(AV l).length=l.length*2
 |[]=>rfl
 |h::l=>by have:=GF l;simp only[AV,IH,List.flatMap_cons,List.length_append,Ao,Bw]at this⊢;omega
theorem aeK:∀{l:List AF}{i:Nat}{h:AF},l[i]?=some h->(AV l)[i*2]?=some (int i64 h.1)/\(AV l)[i*2+1]?=some (int i64 h.2)
 |[],i,h,e=>by simp at e
 |x::l,0,h,e=>by simp at e;subst e;exact⟨rfl,rfl⟩
 |x::l,i+1,h,e=>by
  have Z:=aeK (l:=l) (i:=i) (h:=h) (by simpa using e);have Y:AV (x::l)=int i64 x.1::int i64 x.2::AV l:=rfl;rw[Y,show(i+1)*2=i*2+1+1 by omega,show i*2+1+1+1=(i*2+1)+1+1 by omega]
  simpa using Z
theorem MC(l:List AF):∀u∈AV l,u.oneCell'=true:=by
 intro u Z;simp only[AV,Ir,IH]at Z;obtain⟨h,_,Z⟩:=Z;simp at Z
 rcases Z with rfl|rfl<;>rfl
def Hts(w:World)(a:Option Addr)(len:Nat)(l:List AF):Prop:=SlK 2 w a len (AV l)/\∀h∈l,I64 h.1/\I64 h.2
theorem Hts.below{w w':World}{a:Option Addr}{len:Nat}{l:List AF}(h:Hts w a len l)(Z:Br w w'):Hts w' a len l:=⟨h.1.below Z,h.2⟩
theorem Hts.len{w:World}{a:Option Addr}{len:Nat}{l:List AF}(h:Hts w a len l):l.length=len:=by have:=h.1.1;rw[GF]at this;omega
theorem Hts.at_{w:World}{a:Option Addr}{len:Nat}{l:List AF}(h:Hts w a len l){k:Nat}(hk:k<len) :∃b off x,a=some ⟨b,off,none⟩/\b<w.heap.size/\w.cell? ⟨b,off+k*2,none⟩=some (int i64 x.1)/\w.cell? ⟨b,off+k*2+1,none⟩=some (int i64 x.2)/\l[k]?=some x/\I64 x.1/\I64 x.2:=by have V:=h.len;obtain⟨b,off,e,Y,X⟩:=h.1.2.resolve_left om;obtain⟨x,Z⟩:∃x,l[k]?=some x:=⟨l[k]'om,by simp⟩;obtain⟨c0,c1⟩:=aeK Z;exact⟨b,off,x,e,Y,X _ _ c0,by rw[Nat.add_assoc];exact X _ _ c1,Z,(h.2 x (AX Z)).1,(h.2 x (AX Z)).2⟩
theorem Hts.cut{w:World}{a:Option Addr}{n:Nat}{l:List AF}(h:Hts w a n l){lo m:Nat}(J:lo+m<=n):Hts w (a.map (·.add (lo*2))) m ((l.drop lo).take m):=by
 have I:=h.len;refine⟨⟨by rw[GF];simp;omega,?_⟩,λx U=>h.2 x (Iq (EG U))⟩
 by_cases h0:m=0
 ·exact .inl h0
 ·right
  obtain⟨b,off,rfl,Y,Z⟩:=h.1.2.resolve_left om;refine⟨b,off+lo*2,by simp[Cf],Y,λi u X=>?_⟩;have V:=(AP.1 X).1;rw[GF]at V;simp at V;rw[Nat.add_assoc];refine Z _ u ?_;have N:AV l=AV (l.take lo)++(AV ((l.drop lo).take m)++AV ((l.drop lo).drop m)):=by rw[<-JT,<-JT,Dx,Dx]
  rw[N,DY (by rw[GF];simp;omega),GF,Ag,Nat.min_eq_left om,Nat.add_sub_cancel_left,By (by rw[GF];simp;omega)];exact X
abbrev Ax(w:World)(base:Nat)(v:Value)(l:List AF):Prop:=w.ownsRow base 116 2 v l.length (AV l)
theorem Ax.hts{w:World}{base:Nat}{v:Value}{l:List AF}(h:Ax w base v l)(Y:∀x∈l,I64 x.1/\I64 x.2):∃a c,v=slice a l.length c/\l.length<=c/\Hts w a l.length l:=by obtain⟨a,c,e,Z,h1⟩:=SlK.own h;exact⟨a,c,e,Z,h1,Y⟩
theorem IG:(ZP.info? 116).map (λi=>(i.zero,i.size,i.bytes))=some (some (.agg #[int i64 0,int i64 0]),2,16):=by kernel_rfl
section
open Go.ChangeShapes Go.WideShapes Go.ChangeAt Go.RowKit Go.Joins Go.Deep
theorem aj2:ZP.cellsOf 24=2:=by kernel_rfl
theorem aaL:ZP.cellsOf 4=1:=by kernel_rfl
theorem am9:ZP.cellsOf 5=1:=by kernel_rfl
theorem ajD:ZP.cellsOf 32=1:=by kernel_rfl
theorem adF:ZP.cellsOf 22=1:=by kernel_rfl
theorem aoU{n:Int}(h:(Lit.int .u8 n).wf=true):0<=n/\n<=255:=by simp[Lit.wf,IntKind.min,IntKind.max,IntKind.signed,IntKind.bits]at h;omega
section
variable {H:Type}{enc:TypeId×Value->H}{W:World}{r:Reach}{base:Nat}{d:DataW H}{p:List MemPlace}{v:Value}
theorem adU{D:Nat}{v:Value}{x:DataW H×List MemPlace}(h:DataW.trod enc ZP W 0 (λ_=>true) true D 22 [v]=some x):∃(a:Option Addr)(len cap:Nat)(wss:Lq),v=slice a len cap/\Wds W a len wss/\len<=cap/\cap<=maxLen:=by
 rcases open_int_rows underlying22 underlying32 underlying5 ajD am9 h with⟨X,_⟩|⟨x,len,cap,A,L,C,Z,X,_,hl,hm,_,o⟩
 ·simp at X;exact⟨none,0,0,[],X,⟨[],⟨rfl,.inl rfl⟩,rfl,λi v xs h=>by simp at h⟩,AC _,by unfold maxLen;omega⟩
 ·simp at X;refine⟨some x,len,cap,(List.range len).map λi=>(Z i).take (L i),X,⟨(List.range len).map λi=>(A i,L i,C i),⟨by simp,?_⟩,by simp,λi v xs s hx=>?_⟩,hl,hm⟩
  ·by_cases h0:len=0
   ·exact .inl h0
   ·right
    obtain⟨b,off,Y⟩:=x;have J:=(o 0 om).1;obtain rfl:Y=none:=by simpa[Addr.add]using World.cell?_spot J
    refine⟨b,off,rfl,?_,λi u V=>?_⟩
    ·have:=DO W _ J
     rwa[Cf]at this
    ·have U:i<len:=by have:=(AP.1 V).1;simpa using this
     simp[U]at V;have h1:=(o i om).1;rw[Cf]at h1;rw[h1,<-V]
  ·have U:i<len:=by have:=(AP.1 s).1;simpa using this
   simp[U]at s hx;subst s hx;obtain⟨_,e,a2,hZ,B,a1,hA⟩:=o i om;refine⟨⟨⟨by simp;omega,?_⟩,λn hn=>aoU (B n (EG hn))⟩,e⟩
   by_cases h0:L i=0
   ·exact .inl h0
   ·right
    cases I:A i with
    |none=>have:=a1 I;omega
    |some y=>
     obtain⟨_,J⟩:=hA y I;obtain⟨b,off,Y⟩:=y;have N:=J 0 om;obtain rfl:Y=none:=by simpa[Addr.add]using World.cell?_spot N
     refine⟨b,off,rfl,?_,λj u V=>?_⟩
     ·have:=DO W _ N
      rwa[Cf]at this
     ·have hj:j<L i:=by have:=(AP.1 V).1;simp at this;omega
      have h1:=J j om;rw[Cf]at h1;rw[h1];rw[FT,Vb hj]at V;simp[V]
end
end
def Cb(bl:Nat)(W:World):Option Nat:=(W.cell? ⟨bl,0,none⟩).bind Value.ownBlock
def KpL(bl:Nat)(W Z:World):Prop:=
 W.heap.size<=Z.heap.size/\(∀k cs t f,W.heap[k]?=some (.cells cs t f)->k≠bl->Cb bl W≠some k->Z.heap[k]?=some (.cells cs t f))/\(Cb bl Z=Cb bl W∨∃r,Cb bl Z=some r/\W.heap.size<=r/\r<Z.heap.size)
theorem KpL.lt{bl:Nat}{W:World}{k:Nat}{cs:Array Value}{t:TypeId}{f:Nat×Nat}(h:W.heap[k]?=some (.cells cs t f)):k<W.heap.size:=(AD.1 h).1
theorem KpL.b{bl:Nat}{w:World}(X:bl<w.heap.size)(W:World)(l:Nat)(o o':Obj)(Y:w.heap.size<=l)(h:W.heap[l]?=some o)(Z:o.isCells=false)(_:o.isWalk=false):KpL bl W (W.putObj l o'):=by
 refine⟨by simp[World.putObj],λk cs t f hk _ _=>?_,.inl ?_⟩
 ·rw[Cm (λe=>?_)]
  ·exact hk
  ·rw[e,h]at hk
   cases hk
   cases Z
 ·unfold Cb;rw[BC (a:=⟨bl,0,none⟩) (Cm (by show bl≠l;omega))]
section
variable {bl g:Nat}{w W V:World}
end
theorem KpL.of_below{bl:Nat}{W V:World}(Z:Br W V)(Y:bl<W.heap.size):KpL bl W V:=⟨Z.size,λk cs t f hk _ _=>(Z.block k (KpL.lt (bl:=bl) hk)).trans hk,.inl (by unfold Cb;rw[BC (a:=⟨bl,0,none⟩) (Z.block bl Y)])⟩
theorem DG{α:Type}{enc:α->Value}{w:World}{a:Option Addr}{n:Nat}{xs:List α}(h:Sl1 enc w a n xs){k:Nat}(hk:k<n):∃b off x,a=some ⟨b,off,none⟩/\b<w.heap.size/\w.cell? ⟨b,off+k,none⟩=some (enc x)/\xs[k]?=some x:=by obtain⟨h1,h2⟩:=h;obtain⟨b,off,e,Z,X⟩:=h2.resolve_left om;obtain⟨x,Y⟩:∃x,xs[k]?=some x:=⟨xs[k]'om,by simp⟩;exact⟨b,off,x,e,Z,X k x Y,Y⟩
section
open Go.Shelf
def abg:Go.Shelf.Ren:=⟨fun|6=>182|15=>227|14=>226|28=>265|29=>266|20=>257|21=>258|22=>259|23=>260|24=>261|25=>262|26=>263|27=>264|46=>288|47=>289|48=>290|49=>291|50=>292|57=>296|n=>n,fun|22=>231|24=>9|25=>291|3=>3|39=>324|0=>0|53=>363|55=>365|4=>4|46=>357|45=>356|50=>40|5=>5|9=>9|66=>382|70=>386|76=>400|77=>401|n=>n,fun|n=>n⟩
theorem an5:Go.Proofs.SlLaysF.n6 ZP abg:={
 mixed:=by kernel_rfl
 f6:=⟨f182.name,by decide,func182.trans (congrArg some kr)⟩
 f14:=⟨f226.name,by decide,func226.trans (congrArg some kr)⟩
 f15:=func227.trans (congrArg some kr)
 f20:=⟨f257.name,by decide,func257.trans (congrArg some kr)⟩
 f21:=⟨f258.name,by decide,func258.trans (congrArg some kr)⟩
 f22:=⟨f259.name,by decide,func259.trans (congrArg some kr)⟩
 f23:=⟨f260.name,by decide,func260.trans (congrArg some kr)⟩
 f24:=⟨f261.name,by decide,func261.trans (congrArg some kr)⟩
 f25:=⟨f262.name,by decide,func262.trans (congrArg some kr)⟩
 f26:=⟨f263.name,by decide,func263.trans (congrArg some kr)⟩
 f27:=⟨f264.name,by decide,func264.trans (congrArg some kr)⟩
 f28:=func265.trans (congrArg some kr)
 f29:=func266.trans (congrArg some kr)
 f46:=⟨f288.name,by decide,func288.trans (congrArg some kr)⟩
 f47:=func289.trans (congrArg some kr)
 f48:=func290.trans (congrArg some kr)
 f49:=⟨f291.name,by decide,func291.trans (congrArg some kr)⟩
 f50:=⟨f292.name,by decide,func292.trans (congrArg some kr)⟩
 f57:=⟨f296.name,by decide,func296.trans (congrArg some kr)⟩
 t0:=underlying0
 a0:=Tryz.isAgg0
 z0:=Tryz.sizeOf0
 v0:=Tryz.zeroValue0
 t3:=underlying3
 a3:=Tryz.isAgg3
 z3:=Tryz.sizeOf3
 v3:=Tryz.zeroValue3
 t4:=underlying4
 a4:=Tryz.isAgg4
 z4:=Tryz.sizeOf4
 v4:=Tryz.zeroValue4
 t5:=underlying5
 a5:=Tryz.isAgg5
 z5:=Tryz.sizeOf5
 v5:=Tryz.zeroValue5
 t9:=underlying9
 a9:=Tryz.isAgg9
 z9:=Tryz.sizeOf9
 v9:=Tryz.zeroValue9
 t22:=underlying231
 a22:=Tryz.isAgg231
 z22:=Tryz.sizeOf231
 v22:=Tryz.zeroValue231
 a24:=Tryz.isAgg9
 z24:=Tryz.sizeOf9
 t25:=underlying291
 a25:=Tryz.isAgg291
 z25:=Tryz.sizeOf291
 v25:=Tryz.zeroValue291
 t39:=underlying324
 a39:=Tryz.isAgg324
 z39:=Tryz.sizeOf324
 v39:=Tryz.zeroValue324
 t45:=underlying356
 a45:=Tryz.isAgg356
 z45:=Tryz.sizeOf356
 v45:=Tryz.zeroValue356
 t46:=underlying357
 a46:=Tryz.isAgg357
 z46:=Tryz.sizeOf357
 v46:=Tryz.zeroValue357
 t50:=underlying40
 a50:=Tryz.isAgg40
 z50:=Tryz.sizeOf40
 v50:=Tryz.zeroValue40
 t53:=underlying363
 a53:=Tryz.isAgg363
 z53:=Tryz.sizeOf363
 v53:=Tryz.zeroValue363
 t55:=underlying365
 a55:=Tryz.isAgg365
 z55:=Tryz.sizeOf365
 v55:=Tryz.zeroValue365
 t66:=underlying382
 a66:=Tryz.isAgg382
 z66:=Tryz.sizeOf382
 v66:=Tryz.zeroValue382
 t70:=underlying386
 a70:=Tryz.isAgg386
 z70:=Tryz.sizeOf386
 v70:=Tryz.zeroValue386
 t76:=underlying400
 a76:=Tryz.isAgg400
 z76:=Tryz.sizeOf400
 v76:=Tryz.zeroValue400
 t77:=underlying401
 a77:=Tryz.isAgg401
 z77:=Tryz.sizeOf401
 v77:=Tryz.zeroValue401}
end
def lexB:List Int->List Int->Bool
 |x::xs,y::ys=>if x<y then true else if y<x then false else lexB xs ys
 |_,_=>false
def ltS(x y:List Int):Bool:=if x.length<y.length then true else if y.length<x.length then false else lexB x y
theorem abh:∀x,lexB x x=false
 |[]=>rfl
 |x::xs=>by simp[lexB,abh xs]
theorem acl:∀{x y z:List Int},lexB x y=true->lexB y z=true->lexB x z=true
 |[],_,_,h,_=>by simp[lexB]at h
 |_::_,[],_,h,_=>by simp[lexB]at h
 |_::_,_::_,[],_,h=>by simp[lexB]at h
 |x::xs,y::ys,z::zs,h1,h2=>by
  have Y:=acl (x:=xs) (y:=ys) (z:=zs);unfold lexB at h1 h2⊢
  by_cases a:x<y
  ·by_cases b:y<z
   ·rw[Vb om]
   ·rw[Va b]at h2
    by_cases c:z<y
    ·rw[Vb c]at h2;cases h2
    ·rw[Vb om]
  ·rw[Va a]at h1
   by_cases Z:y<x
   ·rw[Vb Z]at h1;cases h1
   ·rw[Va Z]at h1
    by_cases b:y<z
    ·rw[Vb om]
    ·rw[Va b]at h2
     by_cases c:z<y
     ·rw[Vb c]at h2;cases h2
     ·rw[Va c]at h2;rw[Va om,Va om];exact Y h1 h2
theorem acg:∀{x y:List Int},x.length=y.length->lexB x y=false->lexB y x=false->x=y
 |[],[],_,_,_=>rfl
 |[],_::_,h,_,_=>by simp at h
 |_::_,[],h,_,_=>by simp at h
 |x::xs,y::ys,h,h1,h2=>by
  unfold lexB at h1 h2
  by_cases a:x<y
  ·rw[Vb a]at h1;cases h1
  ·by_cases b:y<x
   ·rw[Vb b]at h2;cases h2
   ·rw[Va a,Va b]at h1;rw[Va b,Va a]at h2;have e:x=y:=by omega
    rw[e,acg (by simpa using h) h1 h2]
theorem Ls(x:List Int):ltS x x=false:=by simp[ltS,abh]
theorem Nd{x y z:List Int}(h1:ltS x y=true)(h2:ltS y z=true):ltS x z=true:=by
 unfold ltS at h1 h2⊢
 by_cases a:x.length<y.length
 ·by_cases b:y.length<z.length
  ·rw[Vb om]
  ·rw[Va b]at h2
   by_cases c:z.length<y.length
   ·rw[Vb c]at h2;cases h2
   ·rw[Vb om]
 ·rw[Va a]at h1
  by_cases Z:y.length<x.length
  ·rw[Vb Z]at h1;cases h1
  ·rw[Va Z]at h1
   by_cases b:y.length<z.length
   ·rw[Vb om]
   ·rw[Va b]at h2
    by_cases c:z.length<y.length
    ·rw[Vb c]at h2;cases h2
    ·rw[Va c]at h2;rw[Va om,Va om];exact acl h1 h2
theorem ajX{x y:List Int}(h:ltS x y=true):ltS y x=false:=by
 cases e:ltS y x with
 |false=>rfl
 |true=>have:=Nd h e;rw[Ls]at this;cases this
theorem Nf{x y:List Int}(h1:ltS x y=false)(h2:ltS y x=false):x=y:=by
 unfold ltS at h1 h2
 by_cases a:x.length<y.length
 ·rw[Vb a]at h1;cases h1
 ·by_cases b:y.length<x.length
  ·rw[Vb b]at h2;cases h2
  ·rw[Va a,Va b]at h1;rw[Va b,Va a]at h2;exact acg om h1 h2
theorem ag6{x y:List Int}(h:ltS x y=true):x.length<=y.length:=by
 unfold ltS at h
 by_cases a:x.length<y.length
 ·omega
 ·rw[Va a]at h
  by_cases b:y.length<x.length
  ·rw[Vb b]at h;cases h
  ·omega
abbrev ED(l:Lq):Prop:=l.Pairwise (λa b=>ltS a b=true)
theorem ED.nodup{l:Lq}(h:ED l):l.Nodup:=by rw[List.nodup_iff_pairwise_ne];exact h.imp λZ e=>by rw[e,Ls]at Z;cases Z
theorem ac2:∀{l m:Lq},ED l->ED m->(∀x,x∈l↔x∈m)->l=m
 |[],[],_,_,_=>rfl
 |[],b::m,_,_,h=>by have:=(h b).2 sm;simp at this
 |a::l,[],_,_,h=>by have:=(h a).1 sm;simp at this
 |a::l,b::m,h1,h2,h=>by
  rw[ED,Jn]at h1 h2;have N:a=b:=by
   have ha:=(h a).1 sm;have U:=(h b).2 sm
   rcases CR.1 ha with e|ha
   ·exact e
   ·rcases CR.1 U with e|U
    ·exact e.symm
    ·have I:=h2.1 a ha;have J:=h1.1 b U;rw[ajX I]at J
     cases J
  subst N;have V:a ∉ l:=λZ=>by have:=h1.1 a Z;rw[Ls]at this;cases this
  have X:a ∉ m:=λZ=>by have:=h2.1 a Z;rw[Ls]at this;cases this
  congr 1;refine ac2 h1.2 h2.2 λx=>⟨λY=>?_,λY=>?_⟩
  ·rcases CR.1 ((h x).1 (by simp[Y]))with e|Z
   ·subst e;exact absurd Y V
   ·exact Z
  ·rcases CR.1 ((h x).2 (by simp[Y]))with e|Z
   ·subst e;exact absurd Y X
   ·exact Z
def Hy(l:Lq)(b:List Int):Lq:=
 match l with
 |[]=>[b]
 |x::xs=>if ltS x b then x::Hy xs b else if x=b then x::xs else b::x::xs
theorem adw:∀{l:Lq}{b x:List Int},x∈Hy l b↔x=b∨x∈l
 |[],b,x=>by simp[Hy]
 |y::ys,b,x=>by
  have Z:=adw (l:=ys) (b:=b) (x:=x);unfold Hy
  split
  ·rw[CR,Z,CR]
   constructor
   ·rintro(h|h|h)
    ·exact .inr (.inl h)
    ·exact .inl h
    ·exact .inr (.inr h)
   ·rintro(h|h|h)
    ·exact .inr (.inl h)
    ·exact .inl h
    ·exact .inr (.inr h)
  ·split
   ·rename_i e
    rw[CR]
    constructor
    ·rintro(h|h)
     ·exact .inl (h.trans e)
     ·exact .inr (.inr h)
    ·rintro(h|h|h)
     ·exact .inl (h.trans e.symm)
     ·exact .inl h
     ·exact .inr h
   ·rw[CR,CR]
theorem agh:∀{l:Lq}{b:List Int},ED l->ED (Hy l b)
 |[],b,_=>by simp[Hy]
 |y::ys,b,h=>by
  have X:=h;rw[ED,Jn]at X;have V:=agh (b:=b) X.2;unfold Hy
  split
  ·rename_i e
   rw[ED,Jn];refine⟨λx Z=>?_,V⟩
   rcases adw.1 Z with rfl|Z
   ·exact e
   ·exact X.1 x Z
  ·split
   ·exact h
   ·rename_i U e2
    rw[ED,Jn];have Y:ltS b y=true:=by
     cases e:ltS b y with
     |true=>rfl
     |false=>exact absurd (Nf (by simpa using U) e) e2
    refine⟨λx Z=>?_,h⟩
    rcases CR.1 Z with rfl|Z
    ·exact Y
    ·exact Nd Y (X.1 x Z)
def Ei(wss:Lq)(x:List Int):Prop:=x=[]∨∃w∈wss,∃k,1<=k/\k<=w.length/\x=w.take k
theorem Ei.iff{wss:Lq}{x:List Int}:Ei wss x↔x=[]∨x≠[]/\∃w∈wss,x <+: w:=by
 constructor
 ·rintro(h|⟨w,hw,k,h1,h2,rfl⟩)
  ·exact .inl h
  ·right
   refine⟨λe=>?_,w,hw,List.take_prefix _ _⟩;have:=congrArg List.length e;rw[Ag,Bw]at this;omega
 ·rintro(h|⟨h0,w,hw,h⟩)
  ·exact .inl h
  ·right
   obtain⟨t,rfl⟩:=h;refine⟨_,hw,x.length,?_,by simp,by simp⟩
   cases x with
   |nil=>exact absurd rfl h0
   |cons a b=>simp
theorem Ei.up{wss:Lq}{x:List Int}(h:Ei wss x):Ei wss x.dropLast:=by
 rw[Ei.iff]at h⊢
 rcases h with rfl|⟨h0,w,Z,Y⟩
 ·exact .inl rfl
 ·by_cases e:x.dropLast=[]
  ·exact .inl e
  ·exact .inr ⟨e,w,Z,(List.dropLast_prefix x).trans Y⟩
def putW(l:Lq)(w:List Int)(k:Nat):Lq:=(List.range k).foldl (λl j=>Hy l (w.take (j+1))) l
theorem adB(l:Lq)(w:List Int)(k:Nat):putW l w (k+1)=Hy (putW l w k) (w.take (k+1)):=by simp[putW,El,FI]
theorem agt{l:Lq}{w:List Int}(h:ED l):∀k,ED (putW l w k)
 |0=>by simpa[putW]using h
 |k+1=>by rw[adB];exact agh (agt h k)
theorem agn{l:Lq}{w x:List Int}:∀{k:Nat},x∈putW l w k↔x∈l∨∃j,1<=j/\j<=k/\x=w.take j
 |0=>by simp[putW];omega
 |k+1=>by
  rw[adB,adw,agn (k:=k)]
  constructor
  ·rintro(h|h|⟨j,h1,h2,h3⟩)
   ·exact .inr ⟨k+1,by omega,by omega,h⟩
   ·exact .inl h
   ·exact .inr ⟨j,h1,by omega,h3⟩
  ·rintro(h|⟨j,h1,h2,h3⟩)
   ·exact .inr (.inl h)
   ·by_cases e:j=k+1
    ·subst e;exact .inl h3
    ·exact .inr (.inr ⟨j,h1,by omega,h3⟩)
def AB(wss:Lq):Lq:=wss.foldl (λl w=>putW l w w.length) [[]]
theorem abb(wss:Lq)(w:List Int):AB (wss++[w])=putW (AB wss) w w.length:=by simp[AB,FI]
theorem CL(wss:Lq):ED (AB wss):=by refine IT (P:=λwss=>ED (AB wss)) (by simp[AB]) (λl x Z=>?_) wss;rw[abb];exact agt Z _
theorem DT{x:List Int}(wss:Lq):x∈AB wss↔Ei wss x:=by
 refine IT (P:=λwss=>x∈AB wss↔Ei wss x) (by simp[AB,Ei]) (λl w Y=>?_) wss;rw[abb,agn,Y];unfold Ei
 constructor
 ·rintro((h|⟨v,Z,r⟩)|⟨j,h1,h2,h3⟩)
  ·exact .inl h
  ·exact .inr ⟨v,by simp[Z],r⟩
  ·exact .inr ⟨w,by simp,j,h1,h2,h3⟩
 ·rintro(h|⟨v,Z,r⟩)
  ·exact .inl (.inl h)
  ·rcases Bf.1 Z with Z|Z
   ·exact .inl (.inr ⟨v,Z,r⟩)
   ·simp at Z;subst Z;exact .inr r
theorem adt{wss l:Lq}(h1:ED l)(h2:∀x,x∈l↔Ei wss x):l=AB wss:=ac2 h1 (CL wss) λx=>(h2 x).trans (DT wss).symm
theorem Lo(wss:Lq):AB wss≠[]:=λe=>by have:=(DT (x:=[]) wss).2 (.inl rfl);rw[e]at this;cases this
theorem CM(wss:Lq):(AB wss)[0]?=some []:=by
 have h1:=CL wss;have h2:=(DT (x:=[]) wss).2 (.inl rfl)
 revert h1 h2
 cases AB wss with
 |nil=>intro _ h;cases h
 |cons a l=>
  intro h1 h2;rw[ED,Jn]at h1
  rcases CR.1 h2 with e|h
  ·simp[e]
  ·have:=ag6 (h1.1 _ h);simp at this;simp[this]
def CW(l:Lq)(b:List Int):Int:=if b∈l then(l.idxOf b:Int) else -1
theorem CV{l:Lq}(Z:l.Nodup){i:Nat}{b:List Int}(h:l[i]?=some b):CW l b=i:=by have Y:=(AP.1 h).1;unfold CW;rw[Vb (AX h)];have:=List.Nodup.idxOf_getElem Z i Y;rw[(AP.1 h).2]at this;rw[this]
theorem abt{l:Lq}{b:List Int}(h:b ∉ l):CW l b=-1:=by unfold CW;rw[Va h]
def DU(x:List Int):Int:=(x.getLast?).getD 0
structure Ay where
 up:List Int
 dep:List Int
 wrd:List Int
 byt:List Int
def AG(wss:Lq):Ay:=
 ⟨(AB wss).map λx=>CW (AB wss) x.dropLast,(AB wss).map λx=>(x.length:Int),(AB wss).map λx=>CW wss x,(AB wss).map DU⟩
section
open Go.RowKit Go.Sort Go.Shelf
def acL:Go.Shelf.Ren:=⟨fun|106=>186|213=>229|265=>267|n=>n,fun|3=>3|9=>9|n=>n,fun|n=>n⟩
theorem aot:Go.Proofs.Lays.n106 ZP acL:={
 mixed:=by kernel_rfl
 f106:=func186.trans (congrArg some kr)
 f213:=func229.trans (congrArg some kr)
 f265:=func267.trans (congrArg some kr)
 t3:=underlying3
 a3:=Tryz.isAgg3
 z3:=Tryz.sizeOf3
 v3:=Tryz.zeroValue3
 t9:=underlying9
 a9:=Tryz.isAgg9
 z9:=Tryz.sizeOf9
 v9:=Tryz.zeroValue9}
theorem akP(a b:ByteArray)(w:World):Calls ZP 186 #[.string a,.string b] w λe w'=>e=.returned (int i64 (Lib.compareBytes a.data.toList b.data.toList))/\w=w':=(Any.strings_Compare (P:=ZP) (ρ:=acL) aot a b w).mono λe w' ⟨h1,h2⟩=>⟨h1,h2.symm⟩
abbrev Byt:=List UInt8
def Bh(l:Byt):ByteArray:=⟨l.toArray⟩
abbrev Ca(l:Byt):Value:=.string (Bh l)
def toI(l:Byt):List Int:=l.map λb=>(b.toNat:Int)
theorem Ml(l:Byt):(toI l).length=l.length:=by simp[toI]
theorem LS:∀{x y:Byt},toI x=toI y->x=y
 |[],[],_=>rfl
 |[],_::_,h=>by simp[toI]at h
 |_::_,[],h=>by simp[toI]at h
 |a::x,b::y,h=>by simp only[toI,BO,MY]at h;have h1:a=b:=UInt8.toNat_inj.1 om;rw[h1,LS h.2]
def cfS(a b:Byt):Int:=orL [DK a.length b.length,Lib.compareBytes a b]
theorem abT:∀{x y:Byt},x.length=y.length->(decide (Lib.compareBytes x y<0)=lexB (toI x) (toI y))
 |[],[],_=>rfl
 |[],_::_,h=>by simp at h
 |_::_,[],h=>by simp at h
 |a::x,b::y,h=>by
  have X:=abT (x:=x) (y:=y) (by simpa using h);have V:(a<b)=((a.toNat:Int)<b.toNat):=by rw[UInt8.lt_iff_toNat_lt];exact propext om
  have e2:(b<a)=((b.toNat:Int)<a.toNat):=by rw[UInt8.lt_iff_toNat_lt];exact propext om
  have h1:toI (a::x)=(a.toNat:Int)::toI x:=rfl;have h2:toI (b::y)=(b.toNat:Int)::toI y:=rfl;rw[h1,h2];unfold Lib.compareBytes lexB;simp only[V,e2]
  by_cases Z:(a.toNat:Int)<b.toNat
  ·simp[Z]
  ·by_cases Y:(b.toNat:Int)<a.toNat
   ·simp[Z,Y]
   ·rw[Va Z,Va Y,Va Z,Va Y];exact X
theorem Lt(x y:Byt):ltOf cfS x y=ltS (toI x) (toI y):=by
 unfold ltOf cfS ltS;rw[Ml,Ml]
 by_cases h1:x.length<y.length
 ·rw[Vb h1];have:DK (x.length:Int) (y.length:Int)=-1:=by unfold DK;rw[Vb om]
  simp[orL,this]
 ·rw[Va h1]
  by_cases h2:y.length<x.length
  ·rw[Vb h2];have:DK (x.length:Int) (y.length:Int)=1:=by unfold DK;rw[Va om,Vb om]
   simp[orL,this]
  ·rw[Va h2,<-abT om];have:DK (x.length:Int) (y.length:Int)=0:=by unfold DK;rw[Va om,Va om]
   rw[this]
   by_cases e:Lib.compareBytes x y=0
   ·simp[orL,e]
   ·simp[orL,e]
theorem Ns:SWO (ltOf cfS) where
 irrefl x:=by rw[Lt,Ls]
 trans x y z h1 h2:=by rw[Lt]at h1 h2⊢;exact Nd h1 h2
 ntrans x y z h1 h2:=by
  rw[Lt]at h1 h2⊢
  cases e:ltS (toI x) (toI z)with
  |false=>rfl
  |true=>
   exfalso
   cases Z:ltS (toI y) (toI x)with
   |true=>rw[Nd Z e]at h2;cases h2
   |false=>rw[Nf h1 Z]at e;rw[e]at h2;cases h2
theorem ajS(x y:Byt)(h1:ltOf cfS x y=false)(h2:ltOf cfS y x=false):x=y:=by rw[Lt]at h1 h2;exact LS (Nf h1 h2)
theorem ahr(a b:Byt)(w:World) :Calls ZP 183 #[Ca a,Ca b] w λe w'=>e=.returned (int i64 (cfS a b))/\∃q os,w'=grow (w.drewN q) os:=by
 have I:Hid (cfS a b=orL [DK a.length b.length,Lib.compareBytes a b]):=rfl;have Y:(Bh a).size=a.length:=by simp[Bh,ByteArray.size]
 have Z:(Bh b).size=b.length:=by simp[Bh,ByteArray.size]
 have U:=akP (Bh a) (Bh b);have N:(Bh a).data.toList=a:=by simp[Bh]
 have e2:(Bh b).data.toList=b:=by simp[Bh]
 rw[N,e2]at U;obtain⟨y,V⟩:∃s,Bh a=s:=⟨_,rfl⟩;obtain⟨A,X⟩:∃s,Bh b=s:=⟨_,rfl⟩;unfold Ca;rw[V]at Y U⊢;rw[X]at Z U⊢;have H:=AA U;have C:=AA Y;have D:=AA Z;clear U Y Z N e2 V X;go_enter func183,ntmps183
 go_wp2_with fail
 refine(afN _ _ _).mono ?_;rintro e J ⟨rfl,rfl⟩
 go_wp2_with fail
 refine(H.out _).mono ?_;rintro e J ⟨rfl,rfl⟩
 go_wp2_with fail
 rw[C.out,D.out];refine(aoO _ _ _ [DK a.length b.length,Lib.compareBytes a b] _ (Sl1.lay _ _ [DK a.length b.length,Lib.compareBytes a b] _ _ sm) sm).mono ?_;rintro e B ⟨rfl,rfl⟩;go_wp2;go_ret;exact⟨by rw[I.out];rfl,0,#[_],rfl⟩
end
section
open Go.RowKit Go.Sort Go.Maps Go.WideAt Go.WideMaps
def ofI(xs:List Int):Byt:=xs.map λn=>UInt8.ofNat n.toNat
theorem agO(xs:List Int):strOfNums xs=Bh (ofI xs):=rfl
theorem Mj{xs:List Int}(h:∀x∈xs,0<=x/\x<=255):toI (ofI xs)=xs:=by
 unfold toI ofI;rw[List.map_map]
 conv=>rhs;rw[<-List.map_id xs]
 apply OJ
 intro x Z;have:=h x Z;simp only[Function.comp,id,UInt8.toNat_ofNat'];omega
theorem ao9(l:Byt):ofI (toI l)=l:=LS (Mj λx Z=>by unfold toI at Z;obtain⟨b,_,rfl⟩:=Be.1 Z;have:=b.toNat_lt;omega)
theorem Oe(l:Byt):(Bh l).size=l.length:=by simp[Bh,ByteArray.size]
theorem LV:Keyed ZP 9:=Keyed.of_law (string_law underlying9)
theorem LW(l:Byt)(h:l.length<=maxLen):keyOf ZP 9 (Ca l)=some (.string l):=by
 have:=keyOf_string_mk (P:=ZP) underlying9 (s:=Bh l) (by rw[Oe];exact h);have e:(Bh l).data.toList=l:=by simp[Bh]
 rw[e]at this;exact this
theorem aeQ(w:World):(zeroValue 3).run ZP w=.ok (int i64 0) w:=by kernel_rfl
def MS(W:World)(b n:Nat)(f:Byt->Option Int):Prop:=
 ∃D:DataW Unit,W.ownsMap ZP 9 (plainElem ZP 3) b n D/\IsMap D/\∀l:Byt,Maps.has D (.string l)=(f l).isSome/\∀m,f l=some m->D.atKey (.string l) (.lit (.int .i64 0))=.lit (.int .i64 m)
theorem MS.start{b:Nat}(w:World)(Z:w.ownsMap ZP 9 (plainElem ZP 3) b 0 (.map []:DataW Unit)):MS w b 0 (λ_=>none):=⟨_,Z,isMap_empty,λl=>⟨rfl,λm h=>by cases h⟩⟩
theorem MS.kept{W Y:World}{b n:Nat}{f:Byt->Option Int}{row:Option Nat}(h:MS W b n f)(X:W.grownBy Y row)(Z:row≠some b):MS Y b n f:=by obtain⟨D,h1,h2⟩:=h;exact⟨D,h1.kept X (λe=>Z e.symm),h2⟩
theorem MS.alloc{W:World}{b n:Nat}{f:Byt->Option Int}(h:MS W b n f)(o:Obj):MS (W.alloc o) b n f:=by obtain⟨D,h1,h2⟩:=h;exact⟨D,h1.alloc o,h2⟩
section
variable {w:World}{ops:Array Oper}{rest:List Oper}{o:Oper}{a:Act}{Q:Exit->Act->World->Prop}{b n:Nat}{f:Byt->Option Int}
theorem OR(I:o.guard=none)(m x:Operand)(Y:o.op=Op.lookup 228 m x true)(N:a.eval m=.map (some b))(Z:MS w b n f)(l:Byt)(V:a.eval x=Ca l)(J:l.length<=maxLen)
  (H:∀c:Int,(∀q,f l=some q->c=q)->wpList ZP ops Q rest (a.put o.dst (.tuple #[int i64 c,bool (f l).isSome])) w):wpList ZP ops Q (o::rest) a w:=by
 obtain⟨D,h1,h2,h3⟩:=Z;refine wpList_lookup_own_ok_int _ I m x 228 Y 9 3 .i64 LV underlying228 underlying3 (aeQ _) b n D N h1 _ _ V (LW l J) ?_;intro c X _;rw[(h3 l).1];exact H c λq U=>by have:=X.symm.trans ((h3 l).2 q U);simpa using this
theorem MS.put_{D:DataW Unit}{v:Int}{l:Byt}(h2:IsMap D)(h3:∀l:Byt,Maps.has D (.string l)=(f l).isSome/\∀m,f l=some m->D.atKey (.string l) (.lit (.int .i64 0))=.lit (.int .i64 m))(V:l.length<=maxLen) :IsMap (D.put (.string l) (.lit (.int .i64 v)))/\∀k:Byt,Maps.has (D.put (.string l) (.lit (.int .i64 v))) (.string k)=(if k=l then some v else f k).isSome/\∀m,(if k=l then some v else f k)=some m->(D.put (.string l) (.lit (.int .i64 v))).atKey (.string k) (.lit (.int .i64 0))=.lit (.int .i64 m):=by
 have Z:=LV.key (LW l V);refine⟨h2.put _ _,λk=>?_⟩
 by_cases e:k=l
 ·subst e;rw[Vb rfl];refine⟨by rw[has_put_same h2 Z];rfl,λm Y=>?_⟩;obtain rfl:=AK Y;rw[atKey_put_same h2 Z]
 ·have X:(Lit.string k)≠Lit.string l:=λh=>e (by injection h);rw[Va e];exact⟨by rw[has_put_other X,(h3 k).1],λm Y=>by rw[atKey_put_other X,(h3 k).2 m Y]⟩
theorem OQ(s:o.guard=none)(m x y:Operand)(Y:o.op=Op.mapUpdate 228 m x y)(A:a.eval m=.map (some b))(Z:MS w b n f)(B:n<maxLen)(l:Byt)(v:Int)(C:(Lit.int .i64 v).wf=true)(I:a.eval x=Ca l)(J:a.eval y=.int .i64 v)(V:l.length<=maxLen)
  (j:∀w',MS w' b (n+1) (λk=>if k=l then some v else f k)->w.grownBy w' (some b)->wpList ZP ops Q rest (a.put o.dst undef) w'):wpList ZP ops Q (o::rest) a w:=by
 obtain⟨D,h1,h2,h3⟩:=Z;obtain⟨N,U⟩:=MS.put_ (f:=f) (v:=v) h2 h3 V;refine wpList_mapUpdate_own _ s m x y 228 Y 9 3 LV underlying228 _ b n D A h1 B _ _ _ I J (LW l V) _ [] (plainElem_int underlying3 C) ?_;intro w' H X;exact j w' ⟨_,H,N,U⟩ X
theorem ade(e:o.guard=none)(m x y:Operand)(X:o.op=Op.insert 228 m x y)(j:a.eval m=.map (some b))(Y:MS w b n f)(s:n<maxLen)(l:Byt)(v:Int)(A:(Lit.int .i64 v).wf=true)(B:a.eval x=Ca l)(C:a.eval y=.int .i64 v)(U:l.length<=maxLen)
  (hK:∀w',MS w' b (n+1) (λk=>if k=l then some v else f k)->w.grownBy w' (some b)->wpList ZP ops Q rest (a.put o.dst undef) w'):wpList ZP ops Q (o::rest) a w:=by
 obtain⟨D,h1,h2,h3⟩:=Y;obtain⟨H,I⟩:=MS.put_ (f:=f) (v:=v) h2 h3 U;refine wpList_plain e λK' V=>?_;obtain⟨w',Z,J,N⟩:=h1.update LV underlying228 s (LW l U) (plainElem_int underlying3 A);unfold Oper.wp;simp[execOp,X,j,B,C,Z,Result.andThen];exact V _ _ (hK w' ⟨_,J,H,I⟩ N)
end
end
/-! ### plain -/
def Gk(l:List Byt)(b:Byt):List Byt:=if b∈l then l else l++[b]
def ER(l:List Byt)(x:Byt)(k:Nat):List Byt:=(List.range k).foldl (λl j=>Gk l (x.take (j+1))) l
def Eg(ws:List Byt):List Byt:=ws.foldl (λl x=>ER l x x.length) [[]]
theorem Nu(l:List Byt)(x:Byt)(k:Nat):ER l x (k+1)=Gk (ER l x k) (x.take (k+1)):=by simp[ER,El,FI]
theorem aav(ws:List Byt)(x:Byt):Eg (ws++[x])=ER (Eg ws) x x.length:=by simp[Eg,FI]
theorem alv{l:List Byt}{b x:Byt}:x∈Gk l b↔x∈l∨x=b:=by
 unfold Gk
 split
 ·constructor
  ·exact .inl
  ·rintro(h|rfl)<;>assumption
 ·simp
theorem ahC{l:List Byt}{b:Byt}(h:l.Nodup):(Gk l b).Nodup:=by
 unfold Gk
 split
 ·exact h
 ·rename_i Y
  rw[List.nodup_append];refine⟨h,by simp,λa ha c Z e=>?_⟩;simp at Z;subst Z;subst e;exact Y ha
theorem amn(l:List Byt)(b:Byt):l.length<=(Gk l b).length/\(Gk l b).length<=l.length+1:=by
 unfold Gk
 split<;>simp
theorem abF(l:List Byt)(x:Byt):∀k,l.length<=(ER l x k).length/\(ER l x k).length<=l.length+k
 |0=>by simp[ER]
 |k+1=>by have h1:=abF l x k;have h2:=amn (ER l x k) (x.take (k+1));rw[Nu];omega
theorem acx{l:List Byt}(x:Byt)(h:l.Nodup):∀k,(ER l x k).Nodup/\∀y,y∈ER l x k↔y∈l∨∃j,1<=j/\j<=k/\y=x.take j
 |0=>by
  refine⟨by simpa[ER]using h,λy=>?_⟩
  constructor
  ·intro Z;exact .inl (by simpa[ER]using Z)
  ·rintro(Z|⟨j,h1,h2,_⟩)
   ·simpa[ER]using Z
   ·omega
 |k+1=>by
  obtain⟨h1,h2⟩:=acx x h k;rw[Nu];refine⟨ahC h1,λy=>?_⟩;rw[alv,h2]
  constructor
  ·rintro((Z|⟨j,a1,a2,a3⟩)|Z)
   ·exact .inl Z
   ·exact .inr ⟨j,a1,by omega,a3⟩
   ·exact .inr ⟨k+1,by omega,by omega,Z⟩
  ·rintro(Z|⟨j,a1,a2,a3⟩)
   ·exact .inl (.inl Z)
   ·by_cases e:j=k+1
    ·subst e;exact .inr a3
    ·exact .inl (.inr ⟨j,a1,by omega,a3⟩)
theorem MG(ws:List Byt):(Eg ws).Nodup/\∀y,y∈Eg ws↔y=[]∨∃x∈ws,∃k,1<=k/\k<=x.length/\y=x.take k:=by
 refine IT (P:=λws=>(Eg ws).Nodup/\∀y,y∈Eg ws↔y=[]∨∃x∈ws,∃k,1<=k/\k<=x.length/\y=x.take k) (by simp[Eg]) (λws x ⟨h1,h2⟩=>?_) ws;rw[aav];obtain⟨X,Y⟩:=acx x h1 x.length;refine⟨X,λy=>?_⟩;rw[Y,h2]
 constructor
 ·rintro((h|⟨z,Z,r⟩)|⟨j,a1,a2,a3⟩)
  ·exact .inl h
  ·exact .inr ⟨z,by simp[Z],r⟩
  ·exact .inr ⟨x,by simp,j,a1,a2,a3⟩
 ·rintro(h|⟨z,Z,k,a1,a2,a3⟩)
  ·exact .inl (.inl h)
  ·rcases Bf.1 Z with Z|Z
   ·exact .inl (.inr ⟨z,Z,k,a1,a2,a3⟩)
   ·simp at Z;subst Z;exact .inr ⟨k,a1,a2,a3⟩
def Ef(ws:List Byt):Nat:=(ws.map List.length).sum
theorem ahA(ws:List Byt):(Eg ws).length<=1+Ef ws:=by
 refine IT (P:=λws=>(Eg ws).length<=1+Ef ws) (by simp[Eg,Ef]) (λws x h=>?_) ws;rw[aav];have:=(abF (Eg ws) x x.length).2;have e:Ef (ws++[x])=Ef ws+x.length:=by simp[Ef]
 omega
theorem agk(x:Byt)(k:Nat):toI (x.take k)=(toI x).take k:=by simp[toI,List.map_take]
theorem aeF{wss:Lq}(V:∀w∈wss,∀x∈w,0<=x/\x<=255){l:List Byt}(h1:l.Perm (Eg (wss.map ofI)))(h2:ED (l.map toI)):l.map toI=AB wss:=by
 refine adt h2 λx=>?_;rw[Be]
 constructor
 ·rintro⟨y,X,rfl⟩;rw[h1.mem_iff,(MG _).2]at X
  rcases X with rfl|⟨z,U,k,Y,a2,rfl⟩
  ·exact .inl rfl
  ·obtain⟨w,Z,rfl⟩:=Be.1 U;refine .inr ⟨w,Z,k,Y,by simpa[ofI]using a2,?_⟩;rw[agk,Mj (V w Z)]
 ·rintro(rfl|⟨w,Z,k,Y,a2,rfl⟩)
  ·exact⟨[],by rw[h1.mem_iff,(MG _).2];exact .inl rfl,rfl⟩
  ·refine⟨(ofI w).take k,?_,by rw[agk,Mj (V w Z)]⟩;rw[h1.mem_iff,(MG _).2];exact .inr ⟨ofI w,Be.2 ⟨w,Z,rfl⟩,k,Y,by simpa[ofI]using a2,rfl⟩
section
open Go.RowKit Go.Sort Go.Shelf
theorem abX{α:Type} [Inhabited α] (enc:α->Value){B:Nat}{X W:World}(h:Below B X W)(g off n:Nat)(d:Array α)(os:Array Obj)(U:B<=g)(V:B<=W.heap.size):Below B X (sortWorld enc W g off n d os):=by
 have Z:(sortWorld enc W g off n d os).heap.size=W.heap.size+os.size:=by simp[sortWorld,putRow,mapBlock,Go.Sort.grow,Go.Sort.ahead]
 refine⟨h.os,h.tape,h.output,by rw[Z];have:=h.size;omega,λk hk=>?_⟩;have Y:k<W.heap.size:=by omega
 refine Eq.trans ?_ (h.block k hk);show((W.heap.modify g _)++os)[k]?=_;rw[Array.getElem?_append_left (by simpa using Y),Js,Va om]
theorem af9(g cap:Nat)(l:List Byt)(w:World)(J:g<w.heap.size)(o:∀i x,l[i]?=some x->w.cell? ⟨g,i,none⟩=some (Ca x)/\w.frozen? ⟨g,i,none⟩=false)(A:l.length<4611686018427387904) :Calls ZP 182 #[.slice (some ⟨g,0,none⟩) l.length cap,.func (.func 183) #[] #[]] w λe w'=>e=.returned (.tuple #[])/\
   ∃V:List Byt,V.Perm l/\V.Pairwise (λa b=>ltS (toI b) (toI a)=false)/\Sl1 Ca w' (some ⟨g,0,none⟩) l.length V/\∀B X,Below B X w->B<=g->B<=w.heap.size->Below B X w':=by
 have D:Holds Ca w g 0 l.toArray:=λj H=>by
  have v:j<l.length:=by simpa using H
  obtain⟨h1,h2⟩:=o j l[j] sm;rw[DD];refine⟨?_,h2⟩;rw[h1,getElem!_pos l.toArray j H];simp
 have h:=Any.slices_SortFunc_total (P:=ZP) (ρ:=abg) an5 Ca (λ_=>rfl) cfS Ns 183 #[] g 0 cap l.toArray w (enters_of func183 kr rfl)
  (λm os dk hs x y=>by have:=ahr x y (sortWorld Ca w g 0 m dk os);exact this)
  D J (by simpa using A) ajS
 have U:l.toArray.size=l.length:=by simp
 rw[U]at h;refine Calls.mono h ?_;rintro e w' ⟨s,n,os,rfl⟩;have Z:(l.mergeSort λx y=>!(ltOf cfS) y x).Perm l:=List.mergeSort_perm l _;have Y:(l.mergeSort λx y=>!(ltOf cfS) y x).Pairwise (λx y=>(!(ltOf cfS) y x)=true):=by
  refine List.pairwise_mergeSort (le:=λx y=>!(ltOf cfS) y x) (λa b c h1 h2=>?_) (λa b=>?_) l
  ·simp only[Bool.not_eq_true',Bool.not_eq_eq_eq_not,Bool.not_true]at h1 h2⊢;exact Ns.ntrans _ _ _ h2 h1
  ·cases e1:ltOf cfS b a with
   |false=>simp
   |true=>
    cases e2:ltOf cfS a b with
    |false=>simp
    |true=>exact absurd (Ns.trans _ _ _ e1 e2) (by rw[Ns.irrefl];simp)
 refine⟨s,_,Z,Y.imp λ{a b} h=>?_,⟨Z.length_eq,.inr ⟨g,0,rfl,lt_sortWorld _ _ _ _ _ _ _ J,λi x C=>?_⟩⟩,λB X hb h1 h2=>abX _ hb _ _ _ _ _ h1 h2⟩
 ·rw[<-Lt]
  simpa using h
 ·have I:=holds_sortWorld Ca w g 0 n l.toArray (l.mergeSort λx y=>!(ltOf cfS) y x).toArray os J D (by simp[Z.length_eq]);have N:=(AP.1 C);have:=(I i (by simpa using N.1)).1;rw[getElem!_pos _ i (by simpa using N.1)]at this;simp only[List.getElem_toArray]at this;rw[N.2]at this
  rwa[DD]at this⊢
end
theorem alA:(ZP.info? 9).map (λi=>(i.zero,i.size,i.bytes))=some (some (.string ⟨#[]⟩),1,16):=by kernel_rfl
abbrev apb(w:World)(base:Nat)(v:Value)(l:List Byt):Prop:=w.ownsRow base 9 1 v l.length (l.map Ca)
theorem OW{n:Nat}(h:n<=1000000000):(Lit.int .i64 (n:Int)).wf=true:=by simp[Lit.wf,IntKind.min,IntKind.max,IntKind.signed,IntKind.bits];omega
theorem ajc{Z:List Byt}{f:Byt->Option Int}(Y:∀x,(f x).isSome=decide (x∈Z)){b:Byt}{v:Int}:∀x,(if x=b then some v else f x).isSome=decide (x∈Z++[b]):=λx=>by
 by_cases e:x=b
 ·rw[Vb e];simp[e]
 ·rw[Va e,Y x];simp[e]
theorem adG(wss:Lq)(k:Nat):Ef ((wss.take k).map ofI)<=Ef (wss.map ofI):=by
 have e:Ef (wss.map ofI)=Ef ((wss.take k).map ofI)+Ef ((wss.drop k).map ofI):=by unfold Ef;rw[<-List.sum_append,<-Aj,<-Aj,Dx]
 omega
theorem amO{w:World}{n:Nat}{e:TypeId}{size k:Nat}{v:Value}{xs:List Value}(h:w.ownsRow (n+1) e size v k xs):v.ownBlock=none∨v.ownBlock≠some n:=by
 rcases h.2 with⟨rfl,_⟩|⟨g,cap,Z,rfl,Y,_⟩
 ·exact .inl rfl
 ·exact .inr (by simp[Value.ownBlock];omega)
theorem Wds.bytes{w:World}{a:Option Addr}{U:Nat}{wss:Lq}(h:Wds w a U wss):∀x∈wss,∀c∈x,0<=c/\c<=255:=λx N c V=>by obtain⟨i,X⟩:=DR N;have Y:=(AP.1 X).1;rw[h.len]at Y;obtain⟨_,_,_,_,_,I,_,_,_,Z,J,_⟩:=h.at_ Y;rw[X]at Z;rw[AK Z]at V;exact J.2 c V
structure GB(w:World)(s4:Value)(lst:List Byt)(W:World):Prop where
 bel:Br w W
 row:apb W (w.heap.size+1) s4 lst
 map:∃f,MS W w.heap.size lst.length f/\∀x,(f x).isSome=decide (x∈lst)
 sz:w.heap.size+1<W.heap.size
theorem ame(a:Option Addr)(A ca:Nat)(wss:Lq)(w:World)(hA:Wds w a A wss)(b6:A<=1000000)(hM:∀x∈wss,x.length<=1000000)(hS:Ef (wss.map ofI)<=1000000) :Calls ZP 131 #[slice a A ca] w λe w'=>∃(a':Option Addr)(n c:Nat)(l:List Byt),e=.returned (slice a' n c)/\n=l.length/\l.map toI=AB wss/\Sl1 Ca w' a' n l/\Br w w':=by
 obtain⟨i0,hi,aH,aG,aF⟩:=Vk alA;have HL:=AA hA.len;have aW:=AA hA;have b4:=@run_makeMap ZP;have m0:(w.alloc (Obj.map #[] 0)).ownsMap ZP 9 (plainElem ZP 3) w.heap.size 0 (.map []:DataW Unit):=MQ w ZP 9 (plainElem ZP 3);go_enter func131,ntmps131;go_upto_region 2 with(refine ade rfl _ _ _ rfl rfl (MS.start (b:=w.heap.size) _ m0) (by unfold maxLen;omega) [] 0 rfl rfl rfl sm ?_;intro w1 ai a7)
 have aK:w.heap.size+1<=w1.heap.size:=by have:=a7.size;simp at this;omega
 have av:Br w w1:=(AL w (Obj.map #[] 0)).grown a7 sm (λk e=>by cases e;exact AC _);have ar:GB w (slice (some ⟨w1.heap.size,0,none⟩) 1 1) [[]] (w1.alloc (.cells #[Ca []] 9)):=
  ⟨av.alloc om _,⟨rfl,.inr ⟨w1.heap.size,1,#[Ca []],rfl,aK,AT _ _,AC _,by unfold maxLen;omega,rfl,rfl⟩⟩,⟨_,ai.alloc _,λx=>by by_cases e:x=[]<;>simp[e]⟩,by simp;omega⟩
 have aB:=AA ar;clear ai a7 av ar m0;go_wp2
 go_loopw[4,16] (λs4 aE wr=>∃(k:Nat)(lst:List Byt)(v:Value),v=s4/\k<=A/\aE=int i64 k/\Hid (lst=Eg ((wss.take k).map ofI))/\GB w v lst wr) (λ_ i _=>A-(intOf i).toNat)
 case atStart=>exact⟨0,[[]],_,rfl,AR _,rfl,rfl,aB.out⟩
 case round=>
  clear aB;obtain⟨k,lst,v,rfl,hk,rfl,aa,X⟩:=hrel;have aY:lst.length<=1000001:=by rw[aa.out];have h1:=ahA ((wss.take k).map ofI);have h2:=adG wss k;omega
  by_cases a6:k<A
  ·have aN:decide ((k:Int)<A)=true:=by simp;omega
   obtain⟨bb,off,ax,s,cx,x,ap,J,N,o,hX,b5⟩:=(hA.below X.bel).at_ a6;have C:bb<w.heap.size:=by
    obtain⟨_,_,_,_,_,_,e,aj,_⟩:=hA.at_ a6;rw[ap]at e
    injection e with e
    injection e with e1 e2
    omega
   subst ap;have aR:Bys w ax s x:=by
    obtain⟨_,_,bh,b0,bg,x',e,aj,D,ae,aS,_⟩:=hA.at_ a6
    injection e with e
    injection e with e1 e2 e3
    subst e1 e2;have e4:=(X.bel.cell (p:=⟨bb,off+k,none⟩) C).trans D;rw[N]at e4
    injection e4 with e4
    injection e4 with e5 e6 e7
    subst e5 e6 e7;rw[o]at ae;rw[AK ae];exact aS
   have b1:s<=1000000:=by have:=Ff hM o;rw[hX.len]at this;exact this
   have HX:=AA o;have aV:=AA hX.len;clear o hX;go_wp2;clear N
   go_loopw[4,22] (λs4 aD wr=>∃(j:Nat)(l2:List Byt)(v:Value),v=s4/\j<=s/\aD=int i64 j/\Hid (l2=ER lst (ofI x) j)/\GB w v l2 wr) (λ_ i _=>s-(intOf i).toNat)
   case atStart=>exact⟨0,lst,_,rfl,AR _,rfl,rfl,X⟩
   case round=>
    clear X;obtain⟨j,l2,v,rfl,hj,rfl,B,X⟩:=hrel;have aL:l2.length<=2000001:=by rw[B.out];have:=(abF lst (ofI x) j).2;omega
    by_cases b7:j<s
    ·have aO:decide ((j:Int)<s)=true:=by simp;omega
     have b8:(j:Int)+1<=cx:=by omega
     have aZ:j+1<=cx:=by omega
     have cv:=Gh ((aR.below X.bel).take (m:=j+1) om) cx;rw[agO]at cv;have J:(ofI (x.take (j+1))).length<=maxLen:=by simp[ofI];unfold maxLen;omega
     have a8:Hid (ofI (x.take (j+1))=(ofI x).take (j+1)):=by simp[Hid,ofI,List.map_take]
     obtain⟨b,ao⟩:∃b,ofI (x.take (j+1))=b:=⟨_,rfl⟩;rw[ao]at cv J a8;obtain⟨f,U,al⟩:=X.map;have ac:=AA al;clear al ao
     by_cases hm:b∈l2
     ·have a1:(f b).isSome=true:=by rw[ac.out];simp[hm]
      have HN:Hid (l2=ER lst (ofI x) (j+1)):=by rw[Hid,Nu,<-B.out,<-a8.out];unfold Gk;rw[Vb hm]
      clear hm
      go_wp2_with (at_lookup;refine OR rfl _ _ rfl rfl U b rfl J ?_;intro c' aQ;rw[a1])
      go_roundw
      case rel=>exact⟨j+1,l2,_,rfl,by omega,by go_num,HN,X⟩
      case measure=>simp[intOf];omega
     ·have a1:(f b).isSome=false:=by rw[ac.out];simp[hm]
      have HN:Hid (l2++[b]=ER lst (ofI x) (j+1)):=by rw[Hid,Nu,<-B.out,<-a8.out];unfold Gk;rw[Va hm]
      have Z:=X.row;obtain⟨m,a2⟩:∃m,l2.length=m:=⟨_,rfl⟩;unfold apb at Z;rw[a2]at Z U aL;have az:=AA a2;obtain⟨a4,c4,rfl,bf,_⟩:=Co Z;have aq:=X.bel;have b2:=X.sz;clear hm a2
      go_wp2_with (first
       |(at_lookup;refine OR rfl _ _ rfl rfl U b rfl J ?_;intro c' aQ;rw[a1])
       |(at_mapUpdate;refine OQ rfl _ _ _ rfl rfl U (by unfold maxLen;omega) b m (OW om) rfl rfl J ?_;intro w5 y H;have Y:=Z.kept H (amO Z);have au:Br w w5:=aq.grown H aq.size (λk e=>by cases e;exact AC _);have b3:=H.size)
       |(at_builtin;refine wpList_append_own _ rfl _ _ 231 rfl (w.heap.size+1) 9 i0 (.string ⟨#[]⟩) 1 16 underlying231 hi aH aG aF rfl (by decide) _ _ _ rfl (Y.alloc _) ⟨w5.heap.size,0,none⟩ 1 1 [Ca b] rfl rfl (GI _ _ sm) (by simp[Value.oneCell']) (by unfold maxLen;omega) om (by simp;omega) ?_;intro v' w6 V I aX))
      have aJ:=I.size;simp at aJ;have aT:Hid (GB w v' (l2++[b]) w6):=by
       refine⟨(au.alloc au.size _).grown I (by simp;omega) (λk e=>by have:=(Y.lt k e).1;omega),?_,⟨_,?_,ajc (b:=b) (v:=(m:Int)) ac.out⟩,by omega⟩
       ·unfold apb;rw[List.length_append,az.out,Aj];exact V
       ·rw[List.length_append,az.out];refine MS.kept (row:=(slice a4 m c4).ownBlock) (y.alloc _) I ?_
        rcases amO Z with e|e
        ·rw[e];simp
        ·exact e
      clear Z Y V U y H I
      go_roundw
      case rel=>exact⟨j+1,_,_,rfl,by omega,by go_num,HN,aT.out⟩
      case measure=>simp[intOf];omega
    ·obtain rfl:j=s:=by omega
     have aO:decide ((j:Int)<j)=false:=by simp
     have HN:Hid (l2=Eg ((wss.take (k+1)).map ofI)):=by rw[Hid,As HX.out,Aj,BO,DE,aav,<-aa.out,show(ofI x).length=j by simp[ofI,aV.out]];exact B.out
     go_wp2
     go_roundw
     case rel=>exact⟨k+1,l2,_,rfl,by omega,by go_num,HN,X⟩
     case measure=>simp[intOf];omega
  ·obtain rfl:k=A:=by omega
   have aN:decide ((k:Int)<k)=false:=by simp
   have ab:Hid (lst=Eg (wss.map ofI)):=by rw[Hid,aa.out,Ap (by rw[HL.out];exact AC _)]
   have af:lst≠[]:=λe=>by
    have:=((MG (wss.map ofI)).2 []).2 (.inl rfl);rw[<-ab.out,e]at this
    cases this
   rcases X.row.2 with⟨_,h0⟩|⟨g,cap,aw,rfl,bd,hh,hn,be,aP,am⟩
   ·exact absurd (Bz h0) af
   ·have aM:g<wr.heap.size:=(AD.1 hh).1;have AV:∀i x,lst[i]?=some x->wr.cell? ⟨g,i,none⟩=some (Ca x)/\wr.frozen? ⟨g,i,none⟩=false:=λi x o=>by
     have b9:=(AP.1 o).1;have h1:(aw.toList.take (lst.length*1))[i]?=some (Ca x):=by rw[am];simp[o]
     rw[FT,Vb om]at h1;have h2:aw[i]?=some (Ca x):=by simpa using h1
     simp[cell?,frozen?,hh,h2]
    have ay:=AA (af9 g cap lst wr aM AV om);have hB:=X.bel;have ak:w.heap.size<=g:=by omega
    have aC:=AA (aW.out.bytes);clear AV hh am aP X af
    go_wp2_with fail
    refine ay.out.mono ?_;rintro e w2 ⟨rfl,l',hp,hs,aI,C⟩;have aU:Br w w2:=C _ _ hB ak hB.size;have HN:Hid (l'.map toI=AB wss):=by
     refine aeF aC.out (by rw[<-ab.out];exact hp) ?_;have ag:l'.Nodup:=by rw[hp.nodup_iff,ab.out];exact(MG _).1
     rw[List.nodup_iff_pairwise_ne]at ag;rw[ED,List.pairwise_map];refine(hs.and ag).imp λ{a b} ⟨h1,h2⟩=>?_
     cases e:ltS (toI a) (toI b)with
     |true=>rfl
     |false=>exact absurd (LS (Nf e h1)) h2
    have aA:Hid (lst.length=l'.length):=hp.length_eq.symm;clear hp hs C hB ay;go_wp2;go_ret;exact⟨_,_,_,l',rfl,aA.out,HN.out,aI,aU⟩
def sep(u v:Value):Prop:=∀k,u.ownBlock=some k->v.ownBlock≠some k
theorem sep.symm{u v:Value}(h:sep u v):sep v u:=λk h1 h2=>h k h2 h1
theorem sep.kept{u v:Value}(h:sep u v):v.ownBlock=none∨v.ownBlock≠u.ownBlock:=by
 cases e:v.ownBlock with
 |none=>exact .inl rfl
 |some k=>exact .inr λe2=>h k e2.symm e
theorem sep.put{u Z v:Value}{n:Nat}(h:sep u v)(V:Z.ownBlock=u.ownBlock∨Z.ownBlock=some n)(Y:∀k,v.ownBlock=some k->k<n):sep Z v:=λk h1 h2=>by
 rcases V with e|e
 ·exact h k (by rw[<-e];exact h1) h2
 ·rw[e]at h1;have:=Y k h2
  injection h1 with h1
  omega
abbrev FB(w:World)(base:Nat)(v:Value)(l:List Int):Prop:=w.ownsRow base 3 1 v l.length (l.map (int i64))
abbrev apn(w:World)(base:Nat)(v:Value)(l:List Int):Prop:=w.ownsRow base 5 1 v l.length (l.map (Value.int .u8))
abbrev JL(u d x b:Value)(nb wb:Nat):Array Value:=#[u,d,x,b,.map (some nb),.map (some wb)]
structure MK(base mb nb wb n1 n2:Nat)(fN fW:Byt->Option Int)(U D X B:List Int)(u d x b:Value)(W:World):Prop where
 box:W.heap[mb]?=some (.cells (JL u d x b nb wb) 230 (0,0))
 up:FB W base u U
 dep:FB W base d D
 wrd:FB W base x X
 byt:apn W base b B
 s1:sep u d
 s2:sep u x
 s3:sep u b
 s4:sep d x
 s5:sep d b
 s6:sep x b
 nod:MS W nb n1 fN
 wds:MS W wb n2 fW
 lt:mb<base/\nb<base/\wb<base/\mb≠nb/\mb≠wb/\nb≠wb
 sz:base<=W.heap.size
theorem MS.below{W W':World}{b n:Nat}{f:Byt->Option Int}(h:MS W b n f)(Z:Br W W'):MS W' b n f:=h.kept (afV Z (b+1)) sm
theorem MS.run_get{W:World}{b n:Nat}{f:Byt->Option Int}(h:MS W b n f){l:Byt}(N:l.length<=maxLen){u:Int}(V:f l=some u) :Sem.run ZP (Instr.lookup 228 (.map (some b)) (Ca l) false) W=.ok (int i64 u) W:=by
 obtain⟨D,h1,h2,h3⟩:=h;obtain⟨c,Z,Y,_⟩:=h1.lookup_int LV underlying228 underlying3 (aeQ W) (LW l N);have:=Y.symm.trans ((h3 l).2 u V);obtain rfl:c=u:=by simpa using this
 exact Z
theorem akR(s:Byt):(Bh s).extract 0 (s.length-1)=Bh s.dropLast:=by
 apply ByteArray.ext
 rw[ByteArray.data_extract]
 apply Array.ext'
 simp[Bh,List.dropLast_eq_take]
theorem adz{s:Byt}(h:s≠[]):(Bh s).toList.isEmpty=false:=by
 cases e:(Bh s).toList.isEmpty with
 |false=>rfl
 |true=>
  exfalso
  have h1:(Bh s).toList=[]:=by simpa using e
  have h2:(Bh s).data.toList=[]:=by rw[<-ByteArray.toList_eq];exact h1
  exact h (by simpa[Bh]using h2)
def Ie(b:Byt):Int:=((b.getLast?).map λc=>(c.toNat:Int)).getD 0
theorem alH{s:Byt}{q:Nat}(Z:s.length=q+1)(h:q<(Bh s).size):(((Bh s)[q].toNat:Nat):Int)=Ie s:=by
 have e:s.getLast?=some (s[q]'om):=by rw[List.getLast?_eq_getElem?,show s.length-1=q by omega];simp
 unfold Ie;rw[e]
 rfl
theorem NB{w w':World}{base n size:Nat}{e:TypeId}{v:Value}{xs:List Value}(h:w.ownsRow base e size v n xs)(J:Br w w'):w'.ownsRow base e size v n xs:=by
 obtain⟨h1,h2|⟨g,cap,Z,e,N,Y,V⟩⟩:=h
 ·exact⟨h1,.inl h2⟩
 ·exact⟨h1,.inr ⟨g,cap,Z,e,N,(J.block g (AD.1 Y).1).trans Y,V⟩⟩
theorem Gv{w:World}{base n size m:Nat}{e:TypeId}{v:Value}{xs:List Value}(h:w.ownsRow base e size v n xs)(Y:m<base):v.ownBlock=none∨v.ownBlock≠some m:=by
 rcases h.2 with⟨rfl,_⟩|⟨g,cap,Z,rfl,V,_⟩
 ·exact .inl rfl
 ·exact .inr (by simp[Value.ownBlock];omega)
theorem Bm{w:World}{base n size m i:Nat}{e:TypeId}{v:Value}{xs:List Value}(h:w.ownsRow base e size v n xs)(Z:m<base)(u:Value):(w.setCell ⟨m,i,none⟩ u).ownsRow base e size v n xs:=h.kept (BH w m i u) (Gv h Z)
theorem MS.set{w:World}{b n m i:Nat}{f:Byt->Option Int}(h:MS w b n f)(Z:m≠b)(u:Value):MS (w.setCell ⟨m,i,none⟩ u) b n f:=h.kept (BH w m i u) (by intro e;injection e with e;exact Z e)
theorem BA{w:World}{base n size:Nat}{e:TypeId}{v:Value}{xs:List Value}(h:w.ownsRow base e size v n xs):∀k,v.ownBlock=some k->base<=k/\k<w.heap.size:=λk hk=>by
 rcases h.2 with⟨rfl,_⟩|⟨g,cap,V,rfl,Y,Z,_⟩
 ·cases hk
 ·simp[Value.ownBlock]at hk;subst hk;exact⟨Y,(AD.1 Z).1⟩
structure Bl(mb nb base:Nat)(w W:World):Prop where
 os:W.os=w.os
 tape:W.tape=w.tape
 output:W.output=w.output
 size:w.heap.size<=W.heap.size
 block:∀k,k<base->k≠mb->k≠nb->W.heap[k]?=w.heap[k]?
theorem Bl.refl(mb nb base:Nat)(w:World):Bl mb nb base w w:=⟨rfl,rfl,rfl,AC _,λ_ _ _ _=>rfl⟩
theorem Bl.trans{mb nb base:Nat}{u v w:World}(h:Bl mb nb base u v)(k:Bl mb nb base v w):Bl mb nb base u w:=⟨k.os.trans h.os,k.tape.trans h.tape,k.output.trans h.output,AS h.size k.size,λi h1 h2 h3=>(k.block i h1 h2 h3).trans (h.block i h1 h2 h3)⟩
theorem Bl.of_below{mb nb base:Nat}{v w:World}(h:Br v w)(Z:base<=v.heap.size):Bl mb nb base v w:=⟨h.os,h.tape,h.output,h.size,λk h1 _ _=>h.block k om⟩
theorem Bl.alloc{mb nb base:Nat}{v w:World}(h:Bl mb nb base v w)(Z:base<=w.heap.size)(o:Obj):Bl mb nb base v (w.alloc o):=h.trans (.of_below (AL w o) Z)
theorem Bl.grown{mb nb base:Nat}{u v w:World}{row:Option Nat}(h:Bl mb nb base u v)(Z:v.grownBy w row)(Y:∀k,row=some k->base<=k∨k=nb)(V:base<=v.heap.size):Bl mb nb base u w:=h.trans ⟨Z.os,Z.tape,Z.output,Z.size,λk h1 h2 h3=>Z.block k om (λe=>by rcases Y k e.symm with g|g<;>omega)⟩
theorem Bl.set{mb nb base:Nat}{v w:World}(h:Bl mb nb base v w)(i:Nat)(x:Value):Bl mb nb base v (w.setCell ⟨mb,i,none⟩ x):=h.trans ⟨rfl,rfl,rfl,by simp,λk h1 h2 h3=>AQ w ⟨mb,i,none⟩ x k h2⟩
theorem Bl.below{mb nb base B:Nat}{u v w:World}(h:Bl mb nb base v w)(Z:Below B u v)(h1:B<=mb)(h2:B<=nb)(h3:B<=base):Below B u w:=⟨h.os.trans Z.os,h.tape.trans Z.tape,h.output.trans Z.output,AS Z.size h.size,λk hk=>(h.block k om om om).trans (Z.block k hk)⟩
section
variable {base mb nb wb n1 n2:Nat}{fN fW:Byt->Option Int}{U D X B:List Int}{u d x b:Value}{W W':World}
theorem MK.below(h:MK base mb nb wb n1 n2 fN fW U D X B u d x b W)(Z:Br W W'):MK base mb nb wb n1 n2 fN fW U D X B u d x b W':=⟨(Z.block _ (AD.1 h.box).1).trans h.box,NB h.up Z,NB h.dep Z,NB h.wrd Z,NB h.byt Z,h.s1,h.s2,h.s3,h.s4,h.s5,h.s6,h.nod.below Z,h.wds.below Z,h.lt,AS h.sz Z.size⟩
theorem MK.cells(h:MK base mb nb wb n1 n2 fN fW U D X B u d x b W):(W.cell? ⟨mb,0,none⟩=some u/\W.cell? ⟨mb,1,none⟩=some d/\W.cell? ⟨mb,2,none⟩=some x/\W.cell? ⟨mb,3,none⟩=some b/\W.cell? ⟨mb,4,none⟩=some (.map (some nb))/\W.cell? ⟨mb,5,none⟩=some (.map (some wb)))/\∀i,W.frozen? ⟨mb,i,none⟩=false:=by refine⟨⟨?_,?_,?_,?_,?_,?_⟩,λi=>?_⟩<;>simp[cell?,frozen?,h.box]
theorem MK.put_u(h:MK base mb nb wb n1 n2 fN fW U D X B u d x b W){V:World}{Z:Value}{z:Int}(o:Obj)(I:V.ownsRow base 3 1 Z (U.length+1) (U.map (int i64)++[int i64 z]))(Y:(W.alloc o).grownBy V u.ownBlock)(N:Z.ownBlock=u.ownBlock∨Z.ownBlock=some (W.alloc o).heap.size) :MK base mb nb wb n1 n2 fN fW (U++[z]) D X B Z d x b (V.setCell ⟨mb,0,none⟩ Z)/\Bl mb nb base W (V.setCell ⟨mb,0,none⟩ Z):=by
 have hs:=Y.size;simp at hs;have J:W.heap.size<=(W.alloc o).heap.size:=by simp
 have j:=(AD.1 h.box).1;have v:u.ownBlock≠some mb:=λe=>by have:=(BA h.up _ e).1;have:=h.lt.1;omega
 have s:u.ownBlock≠some nb:=λe=>by have:=(BA h.up _ e).1;have:=h.lt.2.1;omega
 have y:u.ownBlock≠some wb:=λe=>by have:=(BA h.up _ e).1;have:=h.lt.2.2.1;omega
 have a1:V.heap[mb]?=some (.cells (JL u d x b nb wb) 230 (0,0)):=(Y.block mb (by simp;omega) (λe=>v e.symm)).trans ((Bg _ _ _ j).trans h.box);have C:=Bm (i:=0) ((h.dep.alloc o).kept Y h.s1.kept) h.lt.1 Z;have H:=Bm (i:=0) ((h.wrd.alloc o).kept Y h.s2.kept) h.lt.1 Z;have A:=Bm (i:=0) ((h.byt.alloc o).kept Y h.s3.kept) h.lt.1 Z;exact⟨⟨AJ a1 _,(by unfold FB;rw[List.length_append,Aj];exact Bm I h.lt.1 _),C,H,A,(h.s1.put N (λk e=>Af (BA h.dep k e).2 J)),(h.s2.put N (λk e=>Af (BA h.wrd k e).2 J)),(h.s3.put N (λk e=>Af (BA h.byt k e).2 J)),h.s4,h.s5,h.s6,((h.nod.alloc o).kept Y s).set h.lt.2.2.2.1 _,((h.wds.alloc o).kept Y y).set h.lt.2.2.2.2.1 _,h.lt,by have:=h.sz;simp;omega⟩,(((Bl.refl mb nb base W).alloc h.sz o).grown Y (λk e=>.inl (BA h.up k e).1) (by have:=h.sz;simp;omega)).set _ _⟩
theorem MK.put_d(h:MK base mb nb wb n1 n2 fN fW U D X B u d x b W){V:World}{Z:Value}{z:Int}(o:Obj)(I:V.ownsRow base 3 1 Z (D.length+1) (D.map (int i64)++[int i64 z]))(Y:(W.alloc o).grownBy V d.ownBlock)(N:Z.ownBlock=d.ownBlock∨Z.ownBlock=some (W.alloc o).heap.size) :MK base mb nb wb n1 n2 fN fW U (D++[z]) X B u Z x b (V.setCell ⟨mb,1,none⟩ Z)/\Bl mb nb base W (V.setCell ⟨mb,1,none⟩ Z):=by
 have hs:=Y.size;simp at hs;have J:W.heap.size<=(W.alloc o).heap.size:=by simp
 have j:=(AD.1 h.box).1;have v:d.ownBlock≠some mb:=λe=>by have:=(BA h.dep _ e).1;have:=h.lt.1;omega
 have s:d.ownBlock≠some nb:=λe=>by have:=(BA h.dep _ e).1;have:=h.lt.2.1;omega
 have y:d.ownBlock≠some wb:=λe=>by have:=(BA h.dep _ e).1;have:=h.lt.2.2.1;omega
 have a1:V.heap[mb]?=some (.cells (JL u d x b nb wb) 230 (0,0)):=(Y.block mb (by simp;omega) (λe=>v e.symm)).trans ((Bg _ _ _ j).trans h.box);have C:=Bm (i:=1) ((h.up.alloc o).kept Y h.s1.symm.kept) h.lt.1 Z;have H:=Bm (i:=1) ((h.wrd.alloc o).kept Y h.s4.kept) h.lt.1 Z;have A:=Bm (i:=1) ((h.byt.alloc o).kept Y h.s5.kept) h.lt.1 Z;exact⟨⟨AJ a1 _,C,(by unfold FB;rw[List.length_append,Aj];exact Bm I h.lt.1 _),H,A,(h.s1.symm.put N (λk e=>Af (BA h.up k e).2 J)).symm,h.s2,h.s3,(h.s4.put N (λk e=>Af (BA h.wrd k e).2 J)),(h.s5.put N (λk e=>Af (BA h.byt k e).2 J)),h.s6,((h.nod.alloc o).kept Y s).set h.lt.2.2.2.1 _,((h.wds.alloc o).kept Y y).set h.lt.2.2.2.2.1 _,h.lt,by have:=h.sz;simp;omega⟩,(((Bl.refl mb nb base W).alloc h.sz o).grown Y (λk e=>.inl (BA h.dep k e).1) (by have:=h.sz;simp;omega)).set _ _⟩
theorem MK.put_x(h:MK base mb nb wb n1 n2 fN fW U D X B u d x b W){V:World}{Z:Value}{z:Int}(o:Obj)(I:V.ownsRow base 3 1 Z (X.length+1) (X.map (int i64)++[int i64 z]))(Y:(W.alloc o).grownBy V x.ownBlock)(N:Z.ownBlock=x.ownBlock∨Z.ownBlock=some (W.alloc o).heap.size) :MK base mb nb wb n1 n2 fN fW U D (X++[z]) B u d Z b (V.setCell ⟨mb,2,none⟩ Z)/\Bl mb nb base W (V.setCell ⟨mb,2,none⟩ Z):=by
 have hs:=Y.size;simp at hs;have J:W.heap.size<=(W.alloc o).heap.size:=by simp
 have j:=(AD.1 h.box).1;have v:x.ownBlock≠some mb:=λe=>by have:=(BA h.wrd _ e).1;have:=h.lt.1;omega
 have s:x.ownBlock≠some nb:=λe=>by have:=(BA h.wrd _ e).1;have:=h.lt.2.1;omega
 have y:x.ownBlock≠some wb:=λe=>by have:=(BA h.wrd _ e).1;have:=h.lt.2.2.1;omega
 have a1:V.heap[mb]?=some (.cells (JL u d x b nb wb) 230 (0,0)):=(Y.block mb (by simp;omega) (λe=>v e.symm)).trans ((Bg _ _ _ j).trans h.box);have H:=Bm (i:=2) ((h.up.alloc o).kept Y h.s2.symm.kept) h.lt.1 Z;have C:=Bm (i:=2) ((h.dep.alloc o).kept Y h.s4.symm.kept) h.lt.1 Z;have A:=Bm (i:=2) ((h.byt.alloc o).kept Y h.s6.kept) h.lt.1 Z;exact⟨⟨AJ a1 _,H,C,(by unfold FB;rw[List.length_append,Aj];exact Bm I h.lt.1 _),A,h.s1,(h.s2.symm.put N (λk e=>Af (BA h.up k e).2 J)).symm,h.s3,(h.s4.symm.put N (λk e=>Af (BA h.dep k e).2 J)).symm,h.s5,(h.s6.put N (λk e=>Af (BA h.byt k e).2 J)),((h.nod.alloc o).kept Y s).set h.lt.2.2.2.1 _,((h.wds.alloc o).kept Y y).set h.lt.2.2.2.2.1 _,h.lt,by have:=h.sz;simp;omega⟩,(((Bl.refl mb nb base W).alloc h.sz o).grown Y (λk e=>.inl (BA h.wrd k e).1) (by have:=h.sz;simp;omega)).set _ _⟩
theorem MK.put_b(h:MK base mb nb wb n1 n2 fN fW U D X B u d x b W){V:World}{b':Value}{z:Int}(o:Obj)(J:V.ownsRow base 5 1 b' (B.length+1) (B.map (Value.int .u8)++[.int .u8 z]))(Z:(W.alloc o).grownBy V b.ownBlock)(Y:b'.ownBlock=b.ownBlock∨b'.ownBlock=some (W.alloc o).heap.size) :MK base mb nb wb n1 n2 fN fW U D X (B++[z]) u d x b' (V.setCell ⟨mb,3,none⟩ b')/\Bl mb nb base W (V.setCell ⟨mb,3,none⟩ b'):=by
 have hs:=Z.size;simp at hs;have N:W.heap.size<=(W.alloc o).heap.size:=by simp
 have s:=(AD.1 h.box).1;have y:b.ownBlock≠some mb:=λe=>by have:=(BA h.byt _ e).1;have:=h.lt.1;omega
 have v:b.ownBlock≠some nb:=λe=>by have:=(BA h.byt _ e).1;have:=h.lt.2.1;omega
 have A:b.ownBlock≠some wb:=λe=>by have:=(BA h.byt _ e).1;have:=h.lt.2.2.1;omega
 have j:V.heap[mb]?=some (.cells (JL u d x b nb wb) 230 (0,0)):=(Z.block mb (by simp;omega) (λe=>y e.symm)).trans ((Bg _ _ _ s).trans h.box);have H:=Bm (i:=3) ((h.up.alloc o).kept Z h.s3.symm.kept) h.lt.1 b';have C:=Bm (i:=3) ((h.dep.alloc o).kept Z h.s5.symm.kept) h.lt.1 b';have I:=Bm (i:=3) ((h.wrd.alloc o).kept Z h.s6.symm.kept) h.lt.1 b';exact⟨⟨AJ j _,H,C,I,(by unfold apn;rw[List.length_append,Aj];exact Bm J h.lt.1 _),h.s1,h.s2,(h.s3.symm.put Y (λk e=>Af (BA h.up k e).2 N)).symm,h.s4,(h.s5.symm.put Y (λk e=>Af (BA h.dep k e).2 N)).symm,(h.s6.symm.put Y (λk e=>Af (BA h.wrd k e).2 N)).symm,((h.nod.alloc o).kept Z v).set h.lt.2.2.2.1 _,((h.wds.alloc o).kept Z A).set h.lt.2.2.2.2.1 _,h.lt,by have:=h.sz;simp;omega⟩,(((Bl.refl mb nb base W).alloc h.sz o).grown Z (λk e=>.inl (BA h.byt k e).1) (by have:=h.sz;simp;omega)).set _ _⟩
end
theorem alq:(ZP.info? 5).map (λi=>(i.zero,i.size,i.bytes))=some (some (.int .u8 0),1,1):=by kernel_rfl
theorem JS:(ZP.info? 3).map (λi=>(i.zero,i.size,i.bytes))=some (some (int i64 0),1,8):=by kernel_rfl
section
variable {base mb nb wb n1 n2:Nat}{fN fW:Byt->Option Int}{U D X B:List Int}{u d x b:Value}{W V:World}
theorem MK.putN(h:MK base mb nb wb n1 n2 fN fW U D X B u d x b W){N:Byt->Option Int}{m:Nat}(J:MS V nb m N)(Z:W.grownBy V (some nb)):MK base mb nb wb m n2 N fW U D X B u d x b V:=by have Y:=(AD.1 h.box).1;refine⟨(Z.block mb Y (λe=>by injection e with e;exact h.lt.2.2.2.1 e)).trans h.box,h.up.kept Z (Gv h.up h.lt.2.1),h.dep.kept Z (Gv h.dep h.lt.2.1),h.wrd.kept Z (Gv h.wrd h.lt.2.1),h.byt.kept Z (Gv h.byt h.lt.2.1),h.s1,h.s2,h.s3,h.s4,h.s5,h.s6,J,h.wds.kept Z (λe=>by injection e with e;exact h.lt.2.2.2.2.2 e),h.lt,AS h.sz Z.size⟩
theorem MK.fz(h:MK base mb nb wb n1 n2 fN fW U D X B u d x b W)(o:Obj){row:Option Nat}(N:(W.alloc o).grownBy V row)(Y:row≠some mb)(i:Nat):V.frozen? ⟨mb,i,none⟩=false:=by have Z:=(AD.1 h.box).1;have:=(N.block mb (by simp;omega) (λe=>Y e.symm)).trans ((Bg _ _ _ Z).trans h.box);simp[frozen?,this]
theorem MK.cz(h:MK base mb nb wb n1 n2 fN fW U D X B u d x b W)(o:Obj){row:Option Nat}(N:(W.alloc o).grownBy V row)(Y:row≠some mb):V.cell? ⟨mb,0,none⟩=some u/\V.cell? ⟨mb,1,none⟩=some d/\V.cell? ⟨mb,2,none⟩=some x/\V.cell? ⟨mb,3,none⟩=some b:=by have Z:=(AD.1 h.box).1;have:=(N.block mb (by simp;omega) (λe=>Y e.symm)).trans ((Bg _ _ _ Z).trans h.box);refine⟨?_,?_,?_,?_⟩<;>simp[cell?,this]
end
theorem IX{w:World}{base n size m:Nat}{e:TypeId}{v:Value}{xs:List Value}(h:w.ownsRow base e size v n xs)(Z:m<base):v.ownBlock≠some m:=by
 rcases Gv h Z with e|e
 ·rw[e];simp
 ·exact e
theorem anN(base mb nb wb n1 n2:Nat)(fN fW:Byt->Option Int)(U D X B:List Int)(u d x b:Value)(s:Byt)(uI:Int)(w:World)(h:MK base mb nb wb n1 n2 fN fW U D X B u d x b w)(bf:n1<=1000000)(bi:U.length<=1000000)(bj:D.length<=1000000)(bh:X.length<=1000000)(bk:B.length<=1000000)
  (hs:s.length<=1000000) (ap:s=[]->uI=0) (ao:s≠[]->fN s.dropLast=some uI) :
  Calls ZP 132 #[pointer (some ⟨mb,0,none⟩),Ca s] w λe w'=>e=.returned (.tuple #[])/\∃u' d' x' b',MK base mb nb wb (n1+1) n2 (λk=>if k=s then some (U.length:Int) else fN k) fW (U++[uI]) (D++[(s.length:Int)]) (X++[(fW s).getD (-1)]) (B++[Ie s]) u' d' x' b' w'/\Bl mb nb base w w':=by
 obtain⟨i0,hi,am,al,ak⟩:=Vk JS;obtain⟨i1,hj,aM,aL,aK⟩:=Vk alq;have HS:=AA (Oe s);obtain⟨E,aC⟩:∃E,(Bh s).toList.isEmpty=E:=⟨_,rfl⟩;go_enter func132,ntmps132
 go_upto_if 9 with fail
 have ay:=AA aC;clear aC
 go_cut[4,5] (λs4 s5 wx=>s4=int i64 uI/\s5=.int .u8 (Ie s)/\Br w wx)
 case first=>
  cases E with
  |true=>
   have h0:s=[]:=Md λe=>by have:=adz e;rw[ay.out]at this;cases this
   have aP:=ap h0
   go_wp2_with fail
   go_meet
   exact⟨by rw[aP],by rw[h0];rfl,AH _ _⟩
  |false=>
   have h0:s≠[]:=λe=>by rw[e]at ay;have:=ay.out;simp[Bh,ByteArray.toList_eq]at this
   obtain⟨q,hq⟩:∃q,s.length=q+1:=⟨s.length-1,by have:s.length≠0:=λe=>h0 (Bz e);omega⟩;have hcut:=akR s;have aN:=Oe s;rw[hq]at aN hcut;rw[Jl]at hcut;have bg:∀d os,Sem.run ZP (Instr.lookup 228 (.map (some nb)) (.string ((Bh s).extract 0 q)) false) (grow (redrawn w d) os)=.ok (int i64 uI) (grow (redrawn w d) os):=λd os=>by rw[hcut];exact(h.nod.below (Vf w d os)).run_get (by rw[List.length_dropLast];unfold maxLen;omega) (ao h0)
   have aO:q<(Bh s).size:=by omega
   have b9:=AA (alH hq aO);have be:q<=1000000:=by omega
   have bb:(q:Int)<(q:Int)+1:=by omega
   clear hcut hq h0 ap ao;have az:mb<w.heap.size:=(AD.1 h.box).1;have c4:∀d os,(grow (redrawn w d) os).cell? ⟨mb,4,none⟩=some (.map (some nb)):=λd os=>((Vf w d os).cell (p:=⟨mb,4,none⟩) az).trans h.cells.1.2.2.2.2.1;go_upto_region 2 with fail
   refine wp_region_quiet_below mixed kr ?_
   repeat (go_big_quiet_step (fail))
   refine wpQuiet_nil ?_;rintro _ ⟨⟨dq,aJ⟩,rfl⟩
   go_wp2_with fail
   go_meet
   exact⟨rfl,by rw[<-b9.out],Vf w dq aJ⟩
 case rest=>
  obtain⟨rfl,rfl,hb⟩:=hcut;have I:Bl mb nb base w wc:=.of_below hb h.sz;have h:=h.below hb;clear hb ap ao;obtain⟨O,hO⟩:∃O,fW s=O:=⟨_,rfl⟩;obtain⟨⟨c0,c1,c2,c3,c4,c5⟩,_⟩:=h.cells;have hms0:=h.wds
  go_upto_if 35 with(at_lookup;refine OR rfl _ _ rfl rfl hms0 s rfl (by unfold maxLen;omega) ?_;intro cw hcw;rw[hO])
  rw[hO]at hcw;have HO:=AA hO;clear hO c0 c1 c2 c3 c4 c5
  go_cut[6] (λs6 wx=>wc=wx/\s6=int i64 (O.getD (-1)))
  case first=>
   cases O with
   |none=>
    go_wp2_with fail
    go_meet
    exact⟨rfl,rfl⟩
   |some v=>
    obtain rfl:cw=v:=hcw v rfl
    go_wp2_with fail
    go_meet
    exact⟨rfl,rfl⟩
  case rest=>
  obtain⟨rfl,rfl⟩:=hcut;clear hcw hms0;obtain⟨Z,hZ⟩:∃Z:Int,O.getD (-1)=Z:=⟨_,rfl⟩;rw[hZ];have HZ:Hid ((fW s).getD (-1)=Z):=by rw[Hid,HO.out];exact hZ
  clear hZ HO;obtain⟨au,cu,rfl,_,_⟩:=Co h.up;obtain⟨ad,cd,rfl,_,_⟩:=Co h.dep;obtain⟨ax,cx,rfl,_,_⟩:=Co h.wrd;obtain⟨ab,cb,rfl,_,_⟩:=Co h.byt;have az:mb<wc.heap.size:=(AD.1 h.box).1;obtain⟨⟨c0,c1,c2,c3,c4,c5⟩,_⟩:=h.cells;go_upto_region 6 with fail
  refine Hw 11 mixed kr ?_;dsimp only[List.take_succ_cons,List.take_zero,List.drop_succ_cons,List.drop_zero]
  repeat (go_big_quiet_step (fail))
  refine wpQuiet_nil ?_;rintro _ ⟨nq,rfl⟩;have h6:=h.below (AN wc nq);have aA:Bl mb nb base w (wc.drewN nq):=I.trans (.of_below (AN wc nq) h.sz);refine OQ rfl _ _ _ rfl rfl h6.nod (by unfold maxLen;omega) s U.length (OW om) rfl rfl (by unfold maxLen;omega) ?_;intro w5 aa aw;have aB:Bl mb nb base w w5:=aA.grown aw (λk e=>by cases e;exact .inr rfl) h6.sz;have h5:=h6.putN aa aw;clear c0 c1 c2 c3 c4 c5 h6 aa aw aA I h;have I:=aB;have h:=h5;clear h5 aB;have bm:=AA hs;obtain⟨c0,c1,c2,c3,c4,c5⟩:=h.cells.1;go_upto_region 8 with(at_builtin;refine wpList_append_own_at _ rfl _ _ 30 rfl base 3 i0 (.int .i64 0) 1 8 underlying30 hi am al ak rfl (by decide) _ _ _ rfl (h.up.alloc _) ⟨w5.heap.size,0,none⟩ 1 1 [.int .i64 uI] rfl rfl (GI _ _ sm) (by simp[Value.oneCell']) (by unfold maxLen;omega) om (by have:=h.sz;simp;omega) ?_;intro v7 aj y a8 av af;obtain⟨g7,b8,rfl⟩:=ownsRow_succ y;have aT:aj.frozen? ⟨mb,0,none⟩=false:=h.fz _ a8 (IX h.up h.lt.1) 0;obtain⟨b5,b4,b3,b2⟩:=h.cz _ a8 (IX h.up h.lt.1))
  obtain⟨h',N⟩:=h.put_u _ y a8 af;have J:=I.trans N;clear b5 b4 b3 b2 c0 c1 c2 c3 c4 c5 y a8 av af N aT h I;have h:=h';have I:=J;clear h' J;obtain⟨Y7,hY⟩:∃Y,Y=aj.setCell ⟨mb,0,none⟩ (.slice (some ⟨g7,0,none⟩) (U.length+1) b8):=⟨_,rfl⟩;rw[<-hY]at h I⊢;clear hY aj;obtain⟨c0,c1,c2,c3,c4,c5⟩:=h.cells.1;go_upto_region 9 with(at_builtin;refine wpList_append_own_at _ rfl _ _ 32 rfl base 5 i1 (.int .u8 0) 1 1 underlying32 hj aM aL aK rfl (by decide) _ _ _ rfl (h.byt.alloc _) ⟨Y7.heap.size,0,none⟩ 1 1 [.int .u8 (Ie s)] rfl rfl (GI _ _ sm) (by simp[Value.oneCell']) (by unfold maxLen;omega) om (by have:=h.sz;simp;omega) ?_;intro v8 ai A a7 ar ae;obtain⟨g8,b7,rfl⟩:=ownsRow_succ A;have aS:ai.frozen? ⟨mb,3,none⟩=false:=h.fz _ a7 (IX h.byt h.lt.1) 3;obtain⟨b1,b0,aZ,aY⟩:=h.cz _ a7 (IX h.byt h.lt.1))
  obtain⟨h',N⟩:=h.put_b _ A a7 ae;have J:=I.trans N;clear b1 b0 aZ aY c0 c1 c2 c3 c4 c5 A a7 ar ae N aS h I;have h:=h';have I:=J;clear h' J;obtain⟨Y8,hY⟩:∃Y,Y=ai.setCell ⟨mb,3,none⟩ (.slice (some ⟨g8,0,none⟩) (B.length+1) b7):=⟨_,rfl⟩;rw[<-hY]at h I⊢;clear hY ai;obtain⟨c0,c1,c2,c3,c4,c5⟩:=h.cells.1;go_upto_region 10 with(at_builtin;refine wpList_append_own_at _ rfl _ _ 30 rfl base 3 i0 (.int .i64 0) 1 8 underlying30 hi am al ak rfl (by decide) _ _ _ rfl (h.dep.alloc _) ⟨Y8.heap.size,0,none⟩ 1 1 [.int .i64 (s.length:Int)] rfl rfl (GI _ _ sm) (by simp[Value.oneCell']) (by unfold maxLen;omega) om (by have:=h.sz;simp;omega) ?_;intro v9 ag C a6 aq ac;obtain⟨g9,b6,rfl⟩:=ownsRow_succ C;have aR:ag.frozen? ⟨mb,1,none⟩=false:=h.fz _ a6 (IX h.dep h.lt.1) 1;obtain⟨aX,aW,aV,aU⟩:=h.cz _ a6 (IX h.dep h.lt.1))
  obtain⟨h',N⟩:=h.put_d _ C a6 ac;have J:=I.trans N;clear aX aW aV aU c0 c1 c2 c3 c4 c5 C a6 aq ac N aR h I;have h:=h';have I:=J;clear h' J;obtain⟨Y9,hY⟩:∃Y,Y=ag.setCell ⟨mb,1,none⟩ (slice (some ⟨g9,0,none⟩) (D.length+1) b6):=⟨_,rfl⟩;rw[<-hY]at h I⊢;clear hY ag;obtain⟨c0,c1,c2,c3,c4,c5⟩:=h.cells.1
  go_wp2_with (at_builtin;refine wpList_append_own_at _ rfl _ _ 30 rfl base 3 i0 (.int .i64 0) 1 8 underlying30 hi am al ak rfl (by decide) _ _ _ rfl (h.wrd.alloc _) ⟨Y9.heap.size,0,none⟩ 1 1 [.int .i64 Z] rfl rfl (GI _ _ sm) (by simp[Value.oneCell']) (by unfold maxLen;omega) om (by have:=h.sz;simp;omega) ?_;intro bd j H o a2 a1;obtain⟨aQ,aI,rfl⟩:=ownsRow_succ H;have aD:j.frozen? ⟨mb,2,none⟩=false:=h.fz _ o (IX h.wrd h.lt.1) 2;obtain⟨aH,aG,aF,aE⟩:=h.cz _ o (IX h.wrd h.lt.1))
  obtain⟨h',N⟩:=h.put_x _ H o a1;have J:=I.trans N;clear aH aG aF aE c0 c1 c2 c3 c4 c5 H o a2 a1 N aD h I;have h:=h';have I:=J;clear h' J;obtain⟨bl,hY⟩:∃Y,Y=j.setCell ⟨mb,2,none⟩ (slice (some ⟨aQ,0,none⟩) (X.length+1) aI):=⟨_,rfl⟩;rw[<-hY]at h I⊢;clear hY j
  go_end0
  rw[HZ.out];exact⟨rfl,_,_,_,_,h,I⟩
end Go.Proofs.YtaamacoicojhnaaGreat
