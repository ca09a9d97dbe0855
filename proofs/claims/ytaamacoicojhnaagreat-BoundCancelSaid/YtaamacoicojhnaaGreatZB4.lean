/- Proofs over the given program, part 4. -/
import Derived.Test.YtaamacoicojhnaaGreatZB3
set_option linter.unusedVariables false
set_option linter.unusedSimpArgs false
set_option maxRecDepth 100000
set_option maxHeartbeats 16000000
open Go.Proofs.Tryz
open Go.Proofs.Tryz renaming prog→ZP
namespace Go.Proofs.YtaamacoicojhnaaGreat
open Go.RowKit Go.Sort
theorem acq {α:Type}{P:List α->Prop}(h0:P [])(h1:∀l x,P l->P (l++[x])):∀l,P l:=by
 intro l;obtain⟨n,Y⟩:∃n,l.length=n:=⟨_,rfl⟩
 induction n generalizing l with
 | zero=>obtain rfl:=ayk Y;exact h0
 | succ n ih=>
  obtain⟨Z,x,rfl⟩:∃Z x,l=Z++[x]:=⟨l.dropLast,l.getLast (by intro h;simp [h] at Y),(ayO _).symm⟩;exact h1 Z x (ih Z (by simpa using Y))
theorem arK:∀(l:List (List Int)),(cnt l).1=l.length/\(cnt l).2.1=ajA l/\((cnt l).2.2.1 > 32↔∃x∈l,x.length > 32)/\0<=(cnt l).2.2.2/\(l≠[]->((cnt l).2.2.2=0↔∃x∈l,x.length=0)):=by
 apply acq
 · simp [cnt,ajA]
 ·
  intro l x ⟨h1,h2,h3,h4,h5⟩;rw [aja,al4];simp only [anK];refine⟨by rw [h1];simp,by rw [h2],?_,by split<;>omega,fun _=>?_⟩
  ·
   constructor
   ·
    intro h
    by_cases X:x.length > 32
    · exact⟨x,by simp,X⟩
    · obtain⟨y,Z,Y⟩:=h3.1 (by omega);exact⟨y,by simp [Z],Y⟩
   ·
    rintro ⟨y,Z,Y⟩
    rcases ayd.1 Z with Z | Z
    · have:=h3.2 ⟨y,Z,Y⟩;omega
    · simp at Z;subst Z;omega
  ·
   by_cases V:l=[]
   · subst V;simp [cnt]
   ·
    have U:l.length≠0:=fun e=>V (ayk e);have h6:=h5 V
    constructor
    ·
     intro h
     by_cases X:x.length=0
     · exact⟨x,by simp,X⟩
     ·
      split at h
      · omega
      · obtain⟨y,Z,Y⟩:=h6.1 h;exact⟨y,by simp [Z],Y⟩
    ·
     rintro ⟨y,Z,Y⟩
     rcases ayd.1 Z with Z | Z
     · have:=h6.2 ⟨y,Z,Y⟩;rw [if_neg (by omega)];exact this
     ·
      simp at Z;subst Z
      split<;>omega
theorem alX (f:Nat->Bool):ad6 f=if f 0 then 50 else if f 1 then 51 else if f 2 then 52 else if f 3 then 53 else if f 4 then 54 else if f 5 then 55 else 0:=by
 unfold ad6;simp only [List.range,List.range.loop,List.find?]
 cases f 0<;>cases f 1<;>cases f 2<;>cases f 3<;>cases f 4<;>cases f 5<;>rfl
theorem asM (fold:Bool)(wss:List (List Int)):ac4 fold wss=abn fold wss:=by
 obtain⟨h1,h2,h3,h4,h5⟩:=arK wss;unfold ac4 abn;rw [alX];simp only [avb,h1,h2,arG,decide_eq_true_eq,h3]
 by_cases h0:wss.length=0
 · rw [if_pos (by omega),if_pos h0]
 ·
  rw [if_neg (by omega),if_neg h0];have X:wss≠[]:=fun e=>h0 (by rw [e];rfl)
  by_cases Z:wss.length > 64
  · rw [if_pos (by omega),if_pos Z]
  ·
   rw [if_neg (by omega),if_neg Z]
   by_cases Y:∃x∈wss,x.length=0
   · rw [if_pos ((h5 X).2 Y),if_pos Y]
   · rw [if_neg (fun h=>Y ((h5 X).1 h)),if_neg Y]
theorem ajx (fold:Bool)(wss:List (List Int)):aan fold wss=adk fold wss:=by
 unfold aan adk;rw [asM]
abbrev aam:=Int×Int
def akL (a b:Int):Int:=if a<b then -1 else if b<a then 1 else 0
def awA (fold:Bool)(wss:List (List Int))(Y:List Int)(Z:Nat)(k:Nat):Bool:=atL fold Y Z ((wss[k]?).getD [])
theorem alQ (x y:Int)(w:World) :
  Calls ZP 185 #[.int .i64 x,.int .i64 y] w fun e w'=>e=.returned (.int .i64 (akL x y))/\w=w':=by
 by_cases h1:x<y
 ·
  have Z:Hid (akL x y=-1):=by simp [Hid,akL,h1]
  go_enter func185,ntmps185;go_wp2;go_ret;exact⟨by rw [Z.out];rfl,rfl⟩
 ·
  by_cases h2:y<x
  ·
   have Z:Hid (akL x y=1):=by simp [Hid,akL,h1,h2]
   go_enter func185,ntmps185;go_wp2;go_ret;exact⟨by rw [Z.out];rfl,rfl⟩
  ·
   have Z:Hid (akL x y=0):=by simp [Hid,akL,h1,h2]
   go_enter func185,ntmps185;go_wp2;go_ret;exact⟨by rw [Z.out];rfl,rfl⟩
def orL (zs:List Int):Int:=(zs.find? (fun z=>z != 0)).getD 0
theorem auY {Z rest:List Int}{z:Int}(h:∀x∈Z,x=0)(Y:z≠0):orL (Z++z :: rest)=z:=by
 unfold orL;rw [List.find?_append,List.find?_eq_none.2 (fun x X=>by simp [h x X])];simp [Y]
theorem atk {zs:List Int}(h:∀x∈zs,x=0):orL zs=0:=by
 unfold orL;rw [List.find?_eq_none.2 (fun x Z=>by simp [h x Z])]
 rfl
theorem avD (a:Option Addr)(Z s:Nat)(zs:List Int)(w:World)(v:Sl1 (Value.int .i64) w a Z zs)(y:Z<=1000000) :
  Calls ZP 184 #[.slice a Z s] w fun e w'=>e=.returned (.int .i64 (orL zs))/\w=w':=by
 obtain⟨H,I⟩:=v;have B:=ax3 H;clear H;go_enter func184,ntmps184;go_wp2
 go_loop [8] (fun i=>∃k:Nat,k<=Z/\i=.int .i64 k/\Hid (∀x∈zs.take k,x=0)) (fun i=>Z-(intOf i).toNat)
 case atStart=>exact⟨0,axh _,rfl,fun x Y=>by simp at Y⟩
 case round=>
  obtain⟨k,o,rfl,J⟩:=hrel
  by_cases U:k<Z
  ·
   obtain⟨b,off,rfl,j,D⟩:=I.resolve_left (by omega);obtain⟨z,V⟩:∃z,zs[k]?=some z:=⟨zs[k]'(by rw [B.out];exact U),by simp⟩;have N:w.cell? ⟨b,off+k,none⟩=some (.int .i64 z):=D k z V;have C:=ax3 V;clear V D I
   by_cases h0:z=0
   ·
    subst h0;have X:Hid (∀x∈zs.take (k+1),x=0):=by
     rw [aa7 C.out];intro x Y
     rcases ayd.1 Y with Y | Y
     · exact J.out x Y
     · simpa using Y
    go_wp2
    go_round
    case rel=>exact⟨k+1,by omega,by go_num,X⟩
    case measure=>simp [intOf];omega
   ·
    have X:Hid (orL zs=z):=by
     have h:=auY (rest:=zs.drop (k+1)) J.out h0
     rwa [<-agm C.out] at h
    have A:(z != 0)=true:=by simp [h0]
    clear h0;go_wp2;go_ret;exact⟨by rw [X.out];rfl,rfl⟩
  ·
   obtain rfl:k=Z:=by omega
   have X:Hid (orL zs=0):=by
    have h:=J.out;rw [axo (by rw [B.out];exact axe _)] at h;exact atk h
   go_wp2;go_ret;exact⟨by rw [X.out];rfl,rfl⟩
theorem Sl1.lay {α:Type}(enc:α->Value)(w:World)(zs:List α)(t:TypeId)(n:Nat)(h:w.heap.size=n):Sl1 enc (w.alloc (.cells (zs.map enc).toArray t)) (some ⟨n,0,none⟩) zs.length zs:=by
 subst h;refine⟨rfl,.inr ⟨w.heap.size,0,rfl,by simp,fun i x Z=>?_⟩⟩;have Y:=axg w (.cells (zs.map enc).toArray t);unfold World.cell?;dsimp only;rw [Y];simp [Z]
theorem ad5 {w:World}{n:Nat}(h:w.heap.size=n)(o:Obj):(w.alloc o).heap[n]?=some o:=by
 subst h;exact axg w o
def Bx (n:Nat)(os:List Obj)(W:World):Prop:=∀(i:Nat) (o:Obj),os[i]?=some o->W.heap[n+i]?=some o
theorem Bx.below {n:Nat}{os:List Obj}{W Z:World}(h:Bx n os W)(X:Below W.heap.size W Z):Bx n os Z:=fun i o Y=>
 have:=h i o Y
 (X.block _ (awU.1 this).1).trans this
theorem Bx.nil (n:Nat)(W:World):Bx n [] W:=fun i o Z=>by simp at Z
theorem Bx.snoc {n:Nat}{os:List Obj}{W:World}(h:Bx n os W)(o:Obj)(X:W.heap.size=n+os.length):Bx n (os++[o]) (W.alloc o):=fun i x Z=>by
 by_cases Y:i<os.length
 · rw [ax8 Y] at Z;exact (axi _ _ _ (by omega)).trans (h i x Z)
 ·
  rw [az9 (by omega)] at Z;have:i-os.length=0:=by
   by_cases e:i-os.length=0
   · exact e
   · rw [az0 (by simp;omega)] at Z;cases Z
  rw [this] at Z;simp at Z;subst Z;exact ad5 (by omega) _
theorem Bx.cell {n i j:Nat}{os:List Obj}{W:World}(h:Bx n os W){cs:Array Value}{t:TypeId}{fr:Nat×Nat}(Y:os[i]?=some (.cells cs t fr)){v:Value}(Z:cs[j]?=some v):W.cell? ⟨n+i,j,none⟩=some v:=by
 have:=h i _ Y;simp [World.cell?,this,Z]
theorem Bys.take {w:World}{a:Option Addr}{n:Nat}{l:List Int}(h:Bys w a n l){m:Nat}(U:m<=n):Bys w a m (l.take m):=by
 refine⟨⟨by rw [ay6,h.len];omega,?_⟩,fun x V=>h.2 x (axk V)⟩
 by_cases h0:m=0
 · exact .inl h0
 ·
  right
  obtain⟨b,off,rfl,X,Z⟩:=h.1.2.resolve_left (by omega);refine⟨b,off,rfl,X,fun i u Y=>Z i u ?_⟩;rw [awS] at Y
  split at Y
  · exact Y
  · cases Y
theorem aa2 (W:World)(n:Nat):Below W.heap.size W (W.drewN n):=⟨rfl,rfl,rfl,axe _,fun _ _=>rfl⟩
theorem aa1 (w:World)(o:Obj):Below w.heap.size w (w.alloc o):=(axf _ _).alloc (axe _) _
theorem aly {W Z:World}(h:Below W.heap.size W Z)(g:Nat):W.grownBy Z (some g):=⟨h.os,h.tape,h.output,h.size,fun k Y _=>h.block k Y⟩
theorem ab7 {w:World}(cs:Array Value)(t:TypeId){n:Nat}(h:w.heap.size=n):∀j u,cs.toList[j]?=some u->(w.alloc (.cells cs t)).cell? ((⟨n,0,none⟩:Addr).add j)=some u:=by
 intro j u Z;subst h;rw [aah];have Y:=axg w (.cells cs t);unfold World.cell?;dsimp only;rw [Y]
 simpa using Z
def SlK (size:Nat)(w:World)(a:Option Addr)(len:Nat)(cs:List Value):Prop:=
 cs.length=len*size/\(len=0∨∃b off,a=some ⟨b,off,none⟩/\b<w.heap.size/\∀(i:Nat) (u:Value),cs[i]?=some u->w.cell? ⟨b,off+i,none⟩=some u)
theorem SlK.below {size:Nat}{w w':World}{a:Option Addr}{len:Nat}{cs:List Value}(h:SlK size w a len cs)(Y:Below w.heap.size w w'):SlK size w' a len cs:=by
 obtain⟨h1,h2 | ⟨b,off,e,Z,V⟩⟩:=h
 · exact⟨h1,.inl h2⟩
 · exact⟨h1,.inr ⟨b,off,e,ax6 Z Y.size,fun i u X=>(Y.cell (p:=⟨b,off+i,none⟩) Z).trans (V i u X)⟩⟩
theorem SlK.news {size:Nat}{w:World}{Y:Addr}{m:Nat}{cs:List Value}(h:SlK size w (some Y) m cs):∀j u,cs[j]?=some u->w.cell? (Y.add j)=some u:=by
 intro j u Z;obtain⟨h1,h2⟩:=h;have V:=(awR.1 Z).1;have h0:m≠0:=by
  intro e;subst e;rw [h1,Nat.zero_mul] at V;omega
 obtain⟨b,off,e,X,U⟩:=h2.resolve_left h0;obtain rfl:=awV e;rw [aah];exact U j u Z
theorem SlK.own {size base n:Nat}{w:World}{e:TypeId}{v:Value}{cs:List Value}(h:w.ownsRow base e size v n cs):∃a c,v=.slice a n c/\n<=c/\SlK size w a n cs:=by
 have Z:=h.1
 rcases h.2 with ⟨rfl,rfl⟩ | ⟨g,cap,U,rfl,N,V,X,_,_,J⟩
 · exact⟨none,0,rfl,axe _,Z,.inl rfl⟩
 ·
  refine⟨_,cap,rfl,X,Z,.inr ⟨g,0,rfl,(awU.1 V).1,fun i x Y=>?_⟩⟩;have:=h.cells (g:=g) rfl i x Y
  rwa [aah] at this
theorem aaq {P:Program}(w:World)(base:Nat)(t x e:TypeId)(i:TypeInfo)(z:Value)(size bytes:Nat)(I:P.underlying t=some (.slice e))(C:P.info? e=some i)(s:i.zero=some z)
  (X:i.size=size) (B:i.bytes=bytes) (J:z.cells.size=size) (H:0<size) (v:Value) (n:Nat) (xs:List Value) (Z:w.ownsRow base e size v n xs)
  (A:Option Addr) (m c:Nat) (cs:List Value) (N:SlK size w A m cs) (U:∀u∈cs,u.oneCell'=true) (y:n+m<=maxLen) (Y:(n+m)*bytes<=140737488355328) (V:base<=w.heap.size) :
  ∃v' w',(Builtin.append_ #[t,t] x #[v,.slice A m c]).run P w=.ok v' w'/\w'.ownsRow base e size v' (n+m) (xs++cs)/\w.grownBy w' v.ownBlock/\
   (v'.ownBlock=v.ownBlock∨v'.ownBlock=some w.heap.size):=by
 cases A with
 | some ad=>
  obtain⟨v',w',j,h2,h3,_,h5⟩:=run_append_own_at (P:=P) w base t x e i z size bytes I C s X B J H v n xs Z ad m c cs N.1 N.news U y Y V;exact⟨v',w',j,h2,h3,h5⟩
 | none=>
  have h:m=0:=N.2.elim id fun ⟨b,off,e,_⟩=>by cases e
  subst h;have o:cs=[]:=ayk (by rw [N.1,Nat.zero_mul]);subst o;refine⟨v,w,?_,by simpa using Z,World.grownBy.refl w _,.inl rfl⟩
  rcases Z.2 with ⟨rfl,rfl⟩ | ⟨g,cap,a1,rfl,_,_,D,_⟩
  · simp [Builtin.append_,run_underlying I,sizeOf,typeInfo,C,Builtin.lenOf,Builtin.firstCells]
  · simp [Builtin.append_,run_underlying I,sizeOf,typeInfo,C,Builtin.lenOf,Builtin.firstCells,D,storeCells]
theorem abb {P:Program}{w:World}{V:Array Oper}{rest:List Oper}{o:Oper}{a:Act}{Q:Exit->Act->World->Prop}(D:o.guard=none)(s x:Operand)(t:TypeId)
  (ho:o.op=.call { callee:=.builtin .append,args:=#[s,x],argTypes:=#[t,t] })
  (base:Nat) (e:TypeId) (i:TypeInfo) (z:Value) (size bytes:Nat) (ht:P.underlying t=some (.slice e)) (hi:P.info? e=some i) (y:i.zero=some z) (Y:i.size=size) (C:i.bytes=bytes) (J:z.cells.size=size) (I:0<size)
  (v:Value) (n:Nat) (xs:List Value) (hs:a.eval s=v) (U:w.ownsRow base e size v n xs) (A:Option Addr) (m c:Nat) (cs:List Value) (j:a.eval x=.slice A m c) (H:SlK size w A m cs) (N:∀u∈cs,u.oneCell'=true)
  (B:n+m<=maxLen) (Z:(n+m)*bytes<=140737488355328) (X:base<=w.heap.size)
  (h:∀v' w',w'.ownsRow base e size v' (n+m) (xs++cs)->w.grownBy w' v.ownBlock->(v'.ownBlock=v.ownBlock∨v'.ownBlock=some w.heap.size)->wpList P V Q rest (a.put o.dst v') w'):wpList P V Q (o :: rest) a w:=by
 refine wpList_plain D fun K hK=>?_;obtain⟨v',w',hr,h2,h3,h4⟩:=aaq (P:=P) w base t o.type e i z size bytes ht hi y Y C J I v n xs U A m c cs H N B Z X;unfold Oper.wp execOp;simp only [ho,resolve,invoke,builtin,awX,awY,Result.andThen_ok,awZ,ax0,ax1,hs,j,hr];exact hK _ _ (h v' w' h2 h3 h4)
theorem acm {F:Fence}{k:Nat}{P:Program}(w:World){U:Array Oper}{rest:List Oper}{o:Oper}{a:Act}{Q:Exit->Act->World->Prop}(B:o.guard=none)(s x:Operand)(t:TypeId)
  (X:o.op=.call { callee:=.builtin .append,args:=#[s,x],argTypes:=#[t,t] })
  (base:Nat) (e:TypeId) (i:TypeInfo) (z:Value) (size bytes:Nat) (ht:P.underlying t=some (.slice e)) (hi:P.info? e=some i) (hz:i.zero=some z) (Y:i.size=size) (j:i.bytes=bytes) (H:z.cells.size=size) (D:0<size)
  (v:Value) (n:Nat) (xs:List Value) (hs:a.eval s=v) (J:w.ownsRow base e size v n xs) (A:Option Addr) (m c:Nat) (cs:List Value) (hx:a.eval x=.slice A m c) (C:SlK size w A m cs) (I:∀u∈cs,u.oneCell'=true)
  (a2:n+m<=maxLen) (Z:(n+m)*bytes<=140737488355328) (V:base<=w.heap.size)
  (h:∀v' w',w'.ownsRow base e size v' (n+m) (xs++cs)->w.grownBy w' v.ownBlock->(v'.ownBlock=v.ownBlock∨v'.ownBlock=some w.heap.size)->wpListIn F k P U Q rest (a.put o.dst v') w'):wpListIn F k P U Q (o :: rest) a w:=by
 refine wpListIn_plain B fun K a1=>?_;obtain⟨v',w',N,r1,r2,r3⟩:=aaq (P:=P) w base t o.type e i z size bytes ht hi hz Y j H D v n xs J A m c cs C I a2 Z V;unfold Oper.wpIn;refine⟨?_,?_⟩
 · simp [Oper.about,X,resolve,Target.leads,awY]
 · rw [Oper.semAt_plain F _ _ (by rw [X];intro c y;cases y)];simp [execOp,X,resolve,invoke,builtin,hs,hx,N,Result.andThen];exact a1 _ _ (h v' w' r1 r2 r3)
/-! ### hits -/
def I64 (n:Int):Prop:=-9223372036854775808<=n/\n<=9223372036854775807
def au0 (h:aam):List Value:=[.int .i64 h.1,.int .i64 h.2]
def aad (l:List aam):List Value:=l.flatMap au0
theorem alZ (l:List aam)(h:aam):aad (l++[h])=aad l++[.int .i64 h.1,.int .i64 h.2]:=by simp [aad,au0]
theorem acS (l m:List aam):aad (l++m)=aad l++aad m:=by simp [aad]
theorem abG:∀(l:List aam),(aad l).length=l.length*2
 | []=>rfl
 | h :: l=>by
  have:=abG l;simp only [aad,au0,List.flatMap_cons,List.length_append,axU,axV] at this ⊢;omega
theorem aiA (l:List aam):∀u∈aad l,u.oneCell'=true:=by
 intro u Z;simp only [aad,ayo,au0] at Z;obtain⟨h,_,Z⟩:=Z;simp at Z
 rcases Z with rfl | rfl<;>rfl
def Hts (w:World)(a:Option Addr)(len:Nat)(l:List aam):Prop:=SlK 2 w a len (aad l)/\∀h∈l,I64 h.1/\I64 h.2
abbrev adV (w:World)(base:Nat)(v:Value)(l:List aam):Prop:=w.ownsRow base 116 2 v l.length (aad l)
theorem adV.hts {w:World}{base:Nat}{v:Value}{l:List aam}(h:adV w base v l)(Y:∀x∈l,I64 x.1/\I64 x.2):∃a c,v=.slice a l.length c/\l.length<=c/\Hts w a l.length l:=by
 obtain⟨a,c,e,Z,h1⟩:=SlK.own h;exact⟨a,c,e,Z,h1,Y⟩
theorem adc:(ZP.info? 116).map (fun i=>(i.zero,i.size,i.bytes))=some (some (.agg #[.int .i64 0,.int .i64 0]),2,16):=by kernel_rfl
section
open Go.ChangeShapes Go.WideShapes Go.ChangeAt Go.RowKit Go.Joins Go.Deep
theorem aqV:ZP.cellsOf 24=2:=by kernel_rfl
theorem afn:ZP.cellsOf 4=1:=by kernel_rfl
theorem asF:ZP.cellsOf 5=1:=by kernel_rfl
theorem aqt:ZP.cellsOf 32=1:=by kernel_rfl
theorem akK:ZP.cellsOf 22=1:=by kernel_rfl
theorem awk {n:Int}(h:(Lit.int .u8 n).wf=true):0<=n/\n<=255:=by
 simp [Lit.wf,IntKind.min,IntKind.max,IntKind.signed,IntKind.bits] at h;omega
section
variable {H:Type}{enc:TypeId×Value->H}{W:World}{r:Reach}{base:Nat}{d:DataW H}{p:List MemPlace}{v:Value}
theorem ajP {D:Nat}{v:Value}{x:DataW H×List MemPlace}(h:DataW.trod enc ZP W 0 (fun _=>true) true D 22 [v]=some x):∃(a:Option Addr) (len cap:Nat) (wss:List (List Int)),v=.slice a len cap/\Wds W a len wss/\len<=cap/\cap<=maxLen:=by
 rcases open_int_rows underlying22 underlying32 underlying5 aqt asF h with ⟨X,_⟩ | ⟨x,len,cap,A,L,C,Z,X,_,hl,hm,_,s⟩
 · simp at X;exact⟨none,0,0,[],X,⟨[],⟨rfl,.inl rfl⟩,rfl,fun i v xs h=>by simp at h⟩,axe _,by unfold maxLen;omega⟩
 ·
  simp at X;refine⟨some x,len,cap,(List.range len).map fun i=>(Z i).take (L i),X,⟨(List.range len).map fun i=>(A i,L i,C i),⟨by simp,?_⟩,by simp,fun i v xs z hx=>?_⟩,hl,hm⟩
  ·
   by_cases h0:len=0
   · exact .inl h0
   ·
    right
    obtain⟨b,off,Y⟩:=x;have J:=(s 0 (by omega)).1;obtain rfl:Y=none:=by simpa [Addr.add] using World.cell?_spot J
    refine⟨b,off,rfl,?_,fun i u V=>?_⟩
    ·
     have:=awQ W _ J
     rwa [aah] at this
    ·
     have U:i<len:=by have:=(awR.1 V).1;simpa using this
     simp [U] at V;have h1:=(s i (by omega)).1;rw [aah] at h1;rw [h1,<-V]
  ·
   have U:i<len:=by have:=(awR.1 z).1;simpa using this
   simp [U] at z hx;subst z hx;obtain⟨_,o,a1,hZ,B,e,hA⟩:=s i (by omega);refine⟨⟨⟨by simp;omega,?_⟩,fun n hn=>awk (B n (axk hn))⟩,o⟩
   by_cases h0:L i=0
   · exact .inl h0
   ·
    right
    cases I:A i with
    | none=>have:=e I;omega
    | some y=>
     obtain⟨_,J⟩:=hA y I;obtain⟨b,off,Y⟩:=y;have N:=J 0 (by omega);obtain rfl:Y=none:=by simpa [Addr.add] using World.cell?_spot N
     refine⟨b,off,rfl,?_,fun j u V=>?_⟩
     ·
      have:=awQ W _ N
      rwa [aah] at this
     ·
      have hj:j<L i:=by have:=(awR.1 V).1;simp at this;omega
      have h1:=J j (by omega);rw [aah] at h1;rw [h1];rw [awS,if_pos hj] at V;simp [V]
end
end
def abX (bl:Nat)(W:World):Option Nat:=(W.cell? ⟨bl,0,none⟩).bind Value.ownBlock
def KpL (bl:Nat)(W Z:World):Prop:=
 W.heap.size<=Z.heap.size/\(∀k cs t f,W.heap[k]?=some (.cells cs t f)->k≠bl->abX bl W≠some k->Z.heap[k]?=some (.cells cs t f))/\(abX bl Z=abX bl W∨∃r,abX bl Z=some r/\W.heap.size<=r/\r<Z.heap.size)
theorem KpL.lt {bl:Nat}{W:World}{k:Nat}{cs:Array Value}{t:TypeId}{f:Nat×Nat}(h:W.heap[k]?=some (.cells cs t f)):k<W.heap.size:=(awU.1 h).1
theorem KpL.b {bl:Nat}{w:World}(U:bl<w.heap.size)(W:World)(l:Nat)(o o':Obj)(X:w.heap.size<=l)(h:W.heap[l]?=some o)(Y:o.isCells=false)(_:o.isWalk=false):KpL bl W (W.putObj l o'):=by
 refine⟨by simp [World.putObj],fun k cs t f Z _ _=>?_,.inl ?_⟩
 ·
  rw [ayn (fun e=>?_)]
  · exact Z
  ·
   rw [e,h] at Z
   cases Z
   cases Y
 · unfold abX;rw [axp (a:=⟨bl,0,none⟩) (ayn (by show bl≠l;omega))]
section
variable {bl g:Nat}{w W V:World}
end
theorem KpL.of_below {bl:Nat}{W V:World}(Z:Below W.heap.size W V)(X:bl<W.heap.size):KpL bl W V:=
 ⟨Z.size,fun k cs t f Y _ _=>(Z.block k (KpL.lt (bl:=bl) Y)).trans Y,.inl (by unfold abX;rw [axp (a:=⟨bl,0,none⟩) (Z.block bl X)])⟩
theorem abm {α:Type}{enc:α->Value}{w:World}{a:Option Addr}{n:Nat}{xs:List α}(h:Sl1 enc w a n xs){k:Nat}(V:k<n):∃b off x,a=some ⟨b,off,none⟩/\b<w.heap.size/\w.cell? ⟨b,off+k,none⟩=some (enc x)/\xs[k]?=some x:=by
 obtain⟨h1,h2⟩:=h;obtain⟨b,off,e,Z,X⟩:=h2.resolve_left (by omega);obtain⟨x,Y⟩:∃x,xs[k]?=some x:=⟨xs[k]'(by omega),by simp⟩;exact⟨b,off,x,e,Z,X k x Y,Y⟩
section
open Go.Shelf
def agL:Go.Shelf.Ren:=⟨fun | 6=>182 | 15=>227 | 14=>226 | 28=>265 | 29=>266 | 20=>257 | 21=>258 | 22=>259 | 23=>260 | 24=>261 | 25=>262 | 26=>263 | 27=>264 | 46=>288 | 47=>289 | 48=>290 | 49=>291 | 50=>292 | 57=>296 | n=>n,fun | 22=>231 | 24=>9 | 25=>291 | 3=>3 | 39=>324 | 0=>0 | 53=>363 | 55=>365 | 4=>4 | 46=>357 | 45=>356 | 50=>40 | 5=>5 | 9=>9 | 66=>382 | 70=>386 | 76=>400 | 77=>401 | n=>n,fun | n=>n⟩
theorem auj:Go.Proofs.SlLaysF.n6 ZP agL:={
 mixed:=by kernel_rfl
 f6:=⟨f182.name,by decide,func182.trans (congrArg some (by kernel_rfl))⟩
 f14:=⟨f226.name,by decide,func226.trans (congrArg some (by kernel_rfl))⟩
 f15:=func227.trans (congrArg some (by kernel_rfl))
 f20:=⟨f257.name,by decide,func257.trans (congrArg some (by kernel_rfl))⟩
 f21:=⟨f258.name,by decide,func258.trans (congrArg some (by kernel_rfl))⟩
 f22:=⟨f259.name,by decide,func259.trans (congrArg some (by kernel_rfl))⟩
 f23:=⟨f260.name,by decide,func260.trans (congrArg some (by kernel_rfl))⟩
 f24:=⟨f261.name,by decide,func261.trans (congrArg some (by kernel_rfl))⟩
 f25:=⟨f262.name,by decide,func262.trans (congrArg some (by kernel_rfl))⟩
 f26:=⟨f263.name,by decide,func263.trans (congrArg some (by kernel_rfl))⟩
 f27:=⟨f264.name,by decide,func264.trans (congrArg some (by kernel_rfl))⟩
 f28:=func265.trans (congrArg some (by kernel_rfl))
 f29:=func266.trans (congrArg some (by kernel_rfl))
 f46:=⟨f288.name,by decide,func288.trans (congrArg some (by kernel_rfl))⟩
 f47:=func289.trans (congrArg some (by kernel_rfl))
 f48:=func290.trans (congrArg some (by kernel_rfl))
 f49:=⟨f291.name,by decide,func291.trans (congrArg some (by kernel_rfl))⟩
 f50:=⟨f292.name,by decide,func292.trans (congrArg some (by kernel_rfl))⟩
 f57:=⟨f296.name,by decide,func296.trans (congrArg some (by kernel_rfl))⟩
 t0:=underlying0
 a0:=Tryz.isAgg0
 z0:=Tryz.sizeOf0
 v0:=Tryz.zeroValue0
 t3:=underlying3
 a3:=Tryz.isAgg3
 z3:=Tryz.sizeOf3
 v3:=Tryz.zeroValue3
 t4:=underlying4
 a4:=Tryz.isAgg4
 z4:=Tryz.sizeOf4
 v4:=Tryz.zeroValue4
 t5:=underlying5
 a5:=Tryz.isAgg5
 z5:=Tryz.sizeOf5
 v5:=Tryz.zeroValue5
 t9:=underlying9
 a9:=Tryz.isAgg9
 z9:=Tryz.sizeOf9
 v9:=Tryz.zeroValue9
 t22:=underlying231
 a22:=Tryz.isAgg231
 z22:=Tryz.sizeOf231
 v22:=Tryz.zeroValue231
 a24:=Tryz.isAgg9
 z24:=Tryz.sizeOf9
 t25:=underlying291
 a25:=Tryz.isAgg291
 z25:=Tryz.sizeOf291
 v25:=Tryz.zeroValue291
 t39:=underlying324
 a39:=Tryz.isAgg324
 z39:=Tryz.sizeOf324
 v39:=Tryz.zeroValue324
 t45:=underlying356
 a45:=Tryz.isAgg356
 z45:=Tryz.sizeOf356
 v45:=Tryz.zeroValue356
 t46:=underlying357
 a46:=Tryz.isAgg357
 z46:=Tryz.sizeOf357
 v46:=Tryz.zeroValue357
 t50:=underlying40
 a50:=Tryz.isAgg40
 z50:=Tryz.sizeOf40
 v50:=Tryz.zeroValue40
 t53:=underlying363
 a53:=Tryz.isAgg363
 z53:=Tryz.sizeOf363
 v53:=Tryz.zeroValue363
 t55:=underlying365
 a55:=Tryz.isAgg365
 z55:=Tryz.sizeOf365
 v55:=Tryz.zeroValue365
 t66:=underlying382
 a66:=Tryz.isAgg382
 z66:=Tryz.sizeOf382
 v66:=Tryz.zeroValue382
 t70:=underlying386
 a70:=Tryz.isAgg386
 z70:=Tryz.sizeOf386
 v70:=Tryz.zeroValue386
 t76:=underlying400
 a76:=Tryz.isAgg400
 z76:=Tryz.sizeOf400
 v76:=Tryz.zeroValue400
 t77:=underlying401
 a77:=Tryz.isAgg401
 z77:=Tryz.sizeOf401
 v77:=Tryz.zeroValue401 }
end
def lexB:List Int->List Int->Bool
 | x :: xs,y :: ys=>if x<y then true else if y<x then false else lexB xs ys
 | _,_=>false
def ltS (x y:List Int):Bool:=if x.length<y.length then true else if y.length<x.length then false else lexB x y
theorem agS:∀x,lexB x x=false
 | []=>rfl
 | x :: xs=>by simp [lexB,agS xs]
theorem aiw:∀{x y z:List Int},lexB x y=true->lexB y z=true->lexB x z=true
 | [],_,_,h,_=>by simp [lexB] at h
 | _ :: _,[],_,h,_=>by simp [lexB] at h
 | _ :: _,_ :: _,[],_,h=>by simp [lexB] at h
 | x :: xs,y :: ys,z :: zs,h1,h2=>by
  have Y:=aiw (x:=xs) (y:=ys) (z:=zs);unfold lexB at h1 h2 ⊢
  by_cases a:x<y
  ·
   by_cases b:y<z
   · rw [if_pos (by omega)]
   ·
    rw [if_neg b] at h2
    by_cases c:z<y
    · rw [if_pos c] at h2;cases h2
    · rw [if_pos (by omega)]
  ·
   rw [if_neg a] at h1
   by_cases Z:y<x
   · rw [if_pos Z] at h1;cases h1
   ·
    rw [if_neg Z] at h1
    by_cases b:y<z
    · rw [if_pos (by omega)]
    ·
     rw [if_neg b] at h2
     by_cases c:z<y
     · rw [if_pos c] at h2;cases h2
     · rw [if_neg c] at h2;rw [if_neg (by omega),if_neg (by omega)];exact Y h1 h2
theorem air:∀{x y:List Int},x.length=y.length->lexB x y=false->lexB y x=false->x=y
 | [],[],_,_,_=>rfl
 | [],_ :: _,h,_,_=>by simp at h
 | _ :: _,[],h,_,_=>by simp at h
 | x :: xs,y :: ys,h,h1,h2=>by
  unfold lexB at h1 h2
  by_cases a:x<y
  · rw [if_pos a] at h1;cases h1
  ·
   by_cases b:y<x
   · rw [if_pos b] at h2;cases h2
   ·
    rw [if_neg a,if_neg b] at h1;rw [if_neg b,if_neg a] at h2;have e:x=y:=by omega
    rw [e,air (by simpa using h) h1 h2]
theorem acN (x:List Int):ltS x x=false:=by simp [ltS,agS]
theorem aeM {x y z:List Int}(h1:ltS x y=true)(h2:ltS y z=true):ltS x z=true:=by
 unfold ltS at h1 h2 ⊢
 by_cases a:x.length<y.length
 ·
  by_cases b:y.length<z.length
  · rw [if_pos (by omega)]
  ·
   rw [if_neg b] at h2
   by_cases c:z.length<y.length
   · rw [if_pos c] at h2;cases h2
   · rw [if_pos (by omega)]
 ·
  rw [if_neg a] at h1
  by_cases Z:y.length<x.length
  · rw [if_pos Z] at h1;cases h1
  ·
   rw [if_neg Z] at h1
   by_cases b:y.length<z.length
   · rw [if_pos (by omega)]
   ·
    rw [if_neg b] at h2
    by_cases c:z.length<y.length
    · rw [if_pos c] at h2;cases h2
    · rw [if_neg c] at h2;rw [if_neg (by omega),if_neg (by omega)];exact aiw h1 h2
theorem apL {x y:List Int}(h:ltS x y=true):ltS y x=false:=by
 cases e:ltS y x with
 | false=>rfl
 | true=>have:=aeM h e;rw [acN] at this;cases this
theorem aeR {x y:List Int}(h1:ltS x y=false)(h2:ltS y x=false):x=y:=by
 unfold ltS at h1 h2
 by_cases a:x.length<y.length
 · rw [if_pos a] at h1;cases h1
 ·
  by_cases b:y.length<x.length
  · rw [if_pos b] at h2;cases h2
  · rw [if_neg a,if_neg b] at h1;rw [if_neg b,if_neg a] at h2;exact air (by omega) h1 h2
theorem alF {x y:List Int}(h:ltS x y=true):x.length<=y.length:=by
 unfold ltS at h
 by_cases a:x.length<y.length
 · omega
 ·
  rw [if_neg a] at h
  by_cases b:y.length<x.length
  · rw [if_pos b] at h;cases h
  · omega
abbrev ajJ (l:List (List Int)):Prop:=l.Pairwise (fun a b=>ltS a b=true)
theorem ajJ.nodup {l:List (List Int)}(h:ajJ l):l.Nodup:=by
 rw [List.nodup_iff_pairwise_ne];exact h.imp fun Z e=>by rw [e,acN] at Z;cases Z
theorem agA:∀{l m:List (List Int)},ajJ l->ajJ m->(∀x,x∈l↔x∈m)->l=m
 | [],[],_,_,_=>rfl
 | [],b :: m,_,_,h=>by have:=(h b).2 (by simp);simp at this
 | a :: l,[],_,_,h=>by have:=(h a).1 (by simp);simp at this
 | a :: l,b :: m,h1,h2,h=>by
  rw [ajJ,ays] at h1 h2;have N:a=b:=by
   have ha:=(h a).1 (by simp);have U:=(h b).2 (by simp)
   rcases axG.1 ha with e | ha
   · exact e
   ·
    rcases axG.1 U with e | U
    · exact e.symm
    ·
     have I:=h2.1 a ha;have J:=h1.1 b U;rw [apL I] at J
     cases J
  subst N;have V:a ∉ l:=fun Z=>by have:=h1.1 a Z;rw [acN] at this;cases this
  have X:a ∉ m:=fun Z=>by have:=h2.1 a Z;rw [acN] at this;cases this
  congr 1;refine agA h1.2 h2.2 fun x=>⟨fun Y=>?_,fun Y=>?_⟩
  ·
   rcases axG.1 ((h x).1 (by simp [Y])) with e | Z
   · subst e;exact absurd Y V
   · exact Z
  ·
   rcases axG.1 ((h x).2 (by simp [Y])) with e | Z
   · subst e;exact absurd Y X
   · exact Z
def asw (l:List (List Int))(b:List Int):List (List Int):=
 match l with
 | []=>[b]
 | x :: xs=>if ltS x b then x :: asw xs b else if x=b then x :: xs else b :: x :: xs
theorem ajv:∀{l:List (List Int)} {b x:List Int},x∈asw l b↔x=b∨x∈l
 | [],b,x=>by simp [asw]
 | y :: ys,b,x=>by
  have Z:=ajv (l:=ys) (b:=b) (x:=x);unfold asw
  split
  ·
   rw [axG,Z,axG]
   constructor
   ·
    rintro (h | h | h)
    · exact .inr (.inl h)
    · exact .inl h
    · exact .inr (.inr h)
   ·
    rintro (h | h | h)
    · exact .inr (.inl h)
    · exact .inl h
    · exact .inr (.inr h)
  ·
   split
   ·
    rename_i e
    rw [axG]
    constructor
    ·
     rintro (h | h)
     · exact .inl (h.trans e)
     · exact .inr (.inr h)
    ·
     rintro (h | h | h)
     · exact .inl (h.trans e.symm)
     · exact .inl h
     · exact .inr h
   · rw [axG,axG]
theorem amT:∀{l:List (List Int)} {b:List Int},ajJ l->ajJ (asw l b)
 | [],b,_=>by simp [asw]
 | y :: ys,b,h=>by
  have X:=h;rw [ajJ,ays] at X;have V:=amT (b:=b) X.2;unfold asw
  split
  ·
   rename_i e
   rw [ajJ,ays];refine⟨fun x Z=>?_,V⟩
   rcases ajv.1 Z with rfl | Z
   · exact e
   · exact X.1 x Z
  ·
   split
   · exact h
   ·
    rename_i N U
    rw [ajJ,ays];have Y:ltS b y=true:=by
     cases e:ltS b y with
     | true=>rfl
     | false=>exact absurd (aeR (by simpa using N) e) U
    refine⟨fun x Z=>?_,h⟩
    rcases axG.1 Z with rfl | Z
    · exact Y
    · exact aeM Y (X.1 x Z)
def ae6 (wss:List (List Int))(x:List Int):Prop:=x=[]∨∃w∈wss,∃k,1<=k/\k<=w.length/\x=w.take k
theorem ae6.iff {wss:List (List Int)}{x:List Int}:ae6 wss x↔x=[]∨x≠[]/\∃w∈wss,x <+: w:=by
 constructor
 ·
  rintro (h | ⟨w,hw,k,h1,h2,rfl⟩)
  · exact .inl h
  ·
   right
   refine⟨fun e=>?_,w,hw,List.take_prefix _ _⟩;have:=congrArg List.length e;rw [ay6,axV] at this;omega
 ·
  rintro (h | ⟨h0,w,hw,h⟩)
  · exact .inl h
  ·
   right
   obtain⟨t,rfl⟩:=h;refine⟨_,hw,x.length,?_,by simp,by simp⟩
   cases x with
   | nil=>exact absurd rfl h0
   | cons a b=>simp
theorem ae6.up {wss:List (List Int)}{x:List Int}(h:ae6 wss x):ae6 wss x.dropLast:=by
 rw [ae6.iff] at h ⊢
 rcases h with rfl | ⟨h0,w,Z,Y⟩
 · exact .inl rfl
 ·
  by_cases e:x.dropLast=[]
  · exact .inl e
  · exact .inr ⟨e,w,Z,(List.dropLast_prefix x).trans Y⟩
def putW (l:List (List Int))(w:List Int)(k:Nat):List (List Int):=(List.range k).foldl (fun l j=>asw l (w.take (j+1))) l
theorem al1 (l:List (List Int))(w:List Int)(k:Nat):putW l w (k+1)=asw (putW l w k) (w.take (k+1)):=by simp [putW,ayt,axJ]
theorem amX {l:List (List Int)}{w:List Int}(h:ajJ l):∀k,ajJ (putW l w k)
 | 0=>by simpa [putW] using h
 | k+1=>by rw [al1];exact amT (amX h k)
theorem ane {l:List (List Int)}{w x:List Int}:∀{k:Nat},x∈putW l w k↔x∈l∨∃j,1<=j/\j<=k/\x=w.take j
 | 0=>by simp [putW];omega
 | k+1=>by
  rw [al1,ajv,ane (k:=k)]
  constructor
  ·
   rintro (h | h | ⟨j,h1,h2,h3⟩)
   · exact .inr ⟨k+1,by omega,by omega,h⟩
   · exact .inl h
   · exact .inr ⟨j,h1,by omega,h3⟩
  ·
   rintro (h | ⟨j,h1,h2,h3⟩)
   · exact .inr (.inl h)
   ·
    by_cases e:j=k+1
    · subst e;exact .inl h3
    · exact .inr (.inr ⟨j,h1,by omega,h3⟩)
def aa0 (wss:List (List Int)):List (List Int):=wss.foldl (fun l w=>putW l w w.length) [[]]
theorem ah3 (wss:List (List Int))(w:List Int):aa0 (wss++[w])=putW (aa0 wss) w w.length:=by simp [aa0,axJ]
theorem aac (wss:List (List Int)):ajJ (aa0 wss):=by
 refine acq (P:=fun wss=>ajJ (aa0 wss)) (by simp [aa0]) (fun l x Z=>?_) wss;rw [ah3];exact amX Z _
theorem aal {x:List Int}(wss:List (List Int)):x∈aa0 wss↔ae6 wss x:=by
 refine acq (P:=fun wss=>x∈aa0 wss↔ae6 wss x) (by simp [aa0,ae6]) (fun l w Y=>?_) wss;rw [ah3,ane,Y];unfold ae6
 constructor
 ·
  rintro ((h | ⟨v,Z,r⟩) | ⟨j,h1,h2,h3⟩)
  · exact .inl h
  · exact .inr ⟨v,by simp [Z],r⟩
  · exact .inr ⟨w,by simp,j,h1,h2,h3⟩
 ·
  rintro (h | ⟨v,Z,r⟩)
  · exact .inl (.inl h)
  ·
   rcases ayd.1 Z with Z | Z
   · exact .inl (.inr ⟨v,Z,r⟩)
   · simp at Z;subst Z;exact .inr r
theorem ajt {wss l:List (List Int)}(h1:ajJ l)(h2:∀x,x∈l↔ae6 wss x):l=aa0 wss:=agA h1 (aac wss) fun x=>(h2 x).trans (aal wss).symm
theorem adD (wss:List (List Int)):aa0 wss≠[]:=fun e=>by
 have:=(aal (x:=[]) wss).2 (.inl rfl);rw [e] at this;cases this
theorem aaf (wss:List (List Int)):(aa0 wss)[0]?=some []:=by
 have h1:=aac wss;have h2:=(aal (x:=[]) wss).2 (.inl rfl)
 revert h1 h2
 cases aa0 wss with
 | nil=>intro _ h;cases h
 | cons a l=>
  intro h1 h2;rw [ajJ,ays] at h1
  rcases axG.1 h2 with e | h
  · simp [e]
  · have:=alF (h1.1 _ h);simp at this;simp [this]
def aaR (l:List (List Int))(b:List Int):Int:=if b∈l then (l.idxOf b:Int) else -1
theorem aae {l:List (List Int)}(Z:l.Nodup){i:Nat}{b:List Int}(h:l[i]?=some b):aaR l b=i:=by
 have Y:=(awR.1 h).1;unfold aaR;rw [if_pos (ay9 h)];have:=List.Nodup.idxOf_getElem Z i Y;rw [(awR.1 h).2] at this;rw [this]
theorem agt {l:List (List Int)}{b:List Int}(h:b ∉ l):aaR l b=-1:=by unfold aaR;rw [if_neg h]
def acH (x:List Int):Int:=(x.getLast?).getD 0
structure aaN where
 up:List Int
 dep:List Int
 wrd:List Int
 byt:List Int
def aa5 (wss:List (List Int)):aaN:=
 ⟨(aa0 wss).map fun x=>aaR (aa0 wss) x.dropLast,(aa0 wss).map fun x=>(x.length:Int),(aa0 wss).map fun x=>aaR wss x,(aa0 wss).map acH⟩
section
open Go.RowKit Go.Sort Go.Shelf
def aiz:Go.Shelf.Ren:=⟨fun | 106=>186 | 213=>229 | 265=>267 | n=>n,fun | 3=>3 | 9=>9 | n=>n,fun | n=>n⟩
theorem avF:Go.Proofs.Lays.n106 ZP aiz:={
 mixed:=by kernel_rfl
 f106:=func186.trans (congrArg some (by kernel_rfl))
 f213:=func229.trans (congrArg some (by kernel_rfl))
 f265:=func267.trans (congrArg some (by kernel_rfl))
 t3:=underlying3
 a3:=Tryz.isAgg3
 z3:=Tryz.sizeOf3
 v3:=Tryz.zeroValue3
 t9:=underlying9
 a9:=Tryz.isAgg9
 z9:=Tryz.sizeOf9
 v9:=Tryz.zeroValue9 }
theorem arH (a b:ByteArray)(w:World):Calls ZP 186 #[.string a,.string b] w fun e w'=>e=.returned (.int .i64 (Lib.compareBytes a.data.toList b.data.toList))/\w=w':=
 (Any.strings_Compare (P:=ZP) (ρ:=aiz) avF a b w).mono fun e w' ⟨h1,h2⟩=>⟨h1,h2.symm⟩
abbrev Byt:=List UInt8
def ae3 (l:Byt):ByteArray:=⟨l.toArray⟩
abbrev afX (l:Byt):Value:=.string (ae3 l)
def toI (l:Byt):List Int:=l.map fun b=>(b.toNat:Int)
theorem adR (l:Byt):(toI l).length=l.length:=by simp [toI]
theorem agE:∀{x y:Byt},toI x=toI y->x=y
 | [],[],_=>rfl
 | [],_ :: _,h=>by simp [toI] at h
 | _ :: _,[],h=>by simp [toI] at h
 | a :: x,b :: y,h=>by
  simp only [toI,ax0,axF] at h;have h1:a=b:=UInt8.toNat_inj.1 (by omega);rw [h1,agE h.2]
def cfS (a b:Byt):Int:=orL [akL a.length b.length,Lib.compareBytes a b]
theorem ahd:∀{x y:Byt},x.length=y.length->(decide (Lib.compareBytes x y<0)=lexB (toI x) (toI y))
 | [],[],_=>rfl
 | [],_ :: _,h=>by simp at h
 | _ :: _,[],h=>by simp at h
 | a :: x,b :: y,h=>by
  have X:=ahd (x:=x) (y:=y) (by simpa using h);have U:(a<b)=((a.toNat:Int)<b.toNat):=by rw [UInt8.lt_iff_toNat_lt];exact propext (by omega)
  have V:(b<a)=((b.toNat:Int)<a.toNat):=by rw [UInt8.lt_iff_toNat_lt];exact propext (by omega)
  have h1:toI (a :: x)=(a.toNat:Int) :: toI x:=rfl;have h2:toI (b :: y)=(b.toNat:Int) :: toI y:=rfl;rw [h1,h2];unfold Lib.compareBytes lexB;simp only [U,V]
  by_cases Z:(a.toNat:Int)<b.toNat
  · simp [Z]
  ·
   by_cases Y:(b.toNat:Int)<a.toNat
   · simp [Z,Y]
   · rw [if_neg Z,if_neg Y,if_neg Z,if_neg Y];exact X
theorem aeZ (x y:Byt):ltOf cfS x y=ltS (toI x) (toI y):=by
 unfold ltOf cfS ltS;rw [adR,adR]
 by_cases h1:x.length<y.length
 ·
  rw [if_pos h1];have:akL (x.length:Int) (y.length:Int)=-1:=by unfold akL;rw [if_pos (by omega)]
  simp [orL,this]
 ·
  rw [if_neg h1]
  by_cases h2:y.length<x.length
  ·
   rw [if_pos h2];have:akL (x.length:Int) (y.length:Int)=1:=by unfold akL;rw [if_neg (by omega),if_pos (by omega)]
   simp [orL,this]
  ·
   rw [if_neg h2,<-ahd (by omega)];have:akL (x.length:Int) (y.length:Int)=0:=by unfold akL;rw [if_neg (by omega),if_neg (by omega)]
   rw [this]
   by_cases e:Lib.compareBytes x y=0
   · simp [orL,e]
   · simp [orL,e]
theorem ajd:SWO (ltOf cfS) where
 irrefl x:=by rw [aeZ,acN]
 trans x y z h1 h2:=by rw [aeZ] at h1 h2 ⊢;exact aeM h1 h2
 ntrans x y z h1 h2:=by
  rw [aeZ] at h1 h2 ⊢
  cases e:ltS (toI x) (toI z) with
  | false=>rfl
  | true=>
   exfalso
   cases Z:ltS (toI y) (toI x) with
   | true=>rw [aeM Z e] at h2;cases h2
   | false=>rw [aeR h1 Z] at e;rw [e] at h2;cases h2
theorem art (x y:Byt)(h1:ltOf cfS x y=false)(h2:ltOf cfS y x=false):x=y:=by
 rw [aeZ] at h1 h2;exact agE (aeR h1 h2)
theorem aoL (a b:Byt)(w:World) :
  Calls ZP 183 #[afX a,afX b] w fun e w'=>e=.returned (.int .i64 (cfS a b))/\∃q os,w'=grow (w.drewN q) os:=by
 have H:Hid (cfS a b=orL [akL a.length b.length,Lib.compareBytes a b]):=rfl;have Y:(ae3 a).size=a.length:=by simp [ae3,ByteArray.size]
 have Z:(ae3 b).size=b.length:=by simp [ae3,ByteArray.size]
 have U:=arH (ae3 a) (ae3 b);have J:(ae3 a).data.toList=a:=by simp [ae3]
 have N:(ae3 b).data.toList=b:=by simp [ae3]
 rw [J,N] at U;obtain⟨y,V⟩:∃s,ae3 a=s:=⟨_,rfl⟩;obtain⟨z,X⟩:∃s,ae3 b=s:=⟨_,rfl⟩;unfold afX;rw [V] at Y U ⊢;rw [X] at Z U ⊢;have D:=ax3 U;have B:=ax3 Y;have C:=ax3 Z;clear U Y Z J N V X;go_enter func183,ntmps183
 go_wp2_with fail
 refine (alQ _ _ _).mono ?_;rintro e I ⟨rfl,rfl⟩
 go_wp2_with fail
 refine (D.out _).mono ?_;rintro e I ⟨rfl,rfl⟩
 go_wp2_with fail
 rw [B.out,C.out];refine (avD _ _ _ [akL a.length b.length,Lib.compareBytes a b] _ (Sl1.lay _ _ [akL a.length b.length,Lib.compareBytes a b] _ _ (by simp)) (by simp)).mono ?_;rintro e A ⟨rfl,rfl⟩;go_wp2;go_ret;exact⟨by rw [H.out];rfl,0,#[_],rfl⟩
end
section
open Go.RowKit Go.Sort Go.Maps Go.WideAt Go.WideMaps
def ofI (xs:List Int):Byt:=xs.map fun n=>UInt8.ofNat n.toNat
theorem ani (xs:List Int):strOfNums xs=ae3 (ofI xs):=rfl
theorem aje {xs:List Int}(h:∀x∈xs,0<=x/\x<=255):toI (ofI xs)=xs:=by
 unfold toI ofI;rw [List.map_map]
 conv=>rhs;rw [<-List.map_id xs]
 apply axD
 intro x Z;have:=h x Z;simp only [Function.comp,id,UInt8.toNat_ofNat'];omega
theorem auS (l:Byt):ofI (toI l)=l:=agE (aje fun x Z=>by
 unfold toI at Z;obtain⟨b,_,rfl⟩:=axE.1 Z;have:=b.toNat_lt;omega)
theorem ahw (l:Byt):(ae3 l).size=l.length:=by simp [ae3,ByteArray.size]
theorem agw:Keyed ZP 9:=Keyed.of_law (string_law underlying9)
theorem agz (l:Byt)(h:l.length<=maxLen):keyOf ZP 9 (afX l)=some (.string l):=by
 have:=keyOf_string_mk (P:=ZP) underlying9 (s:=ae3 l) (by rw [ahw];exact h);have e:(ae3 l).data.toList=l:=by simp [ae3]
 rw [e] at this;exact this
theorem akv (w:World):(zeroValue 3).run ZP w=.ok (.int .i64 0) w:=by kernel_rfl
def MS (W:World)(b n:Nat)(f:Byt->Option Int):Prop:=
 ∃D:DataW Unit,W.ownsMap ZP 9 (plainElem ZP 3) b n D/\IsMap D/\∀l:Byt,Maps.has D (.string l)=(f l).isSome/\∀m,f l=some m->D.atKey (.string l) (.lit (.int .i64 0))=.lit (.int .i64 m)
theorem MS.start {b:Nat}(w:World)(Z:w.ownsMap ZP 9 (plainElem ZP 3) b 0 (.map []:DataW Unit)):MS w b 0 (fun _=>none):=
 ⟨_,Z,isMap_empty,fun l=>⟨rfl,fun m h=>by cases h⟩⟩
theorem MS.kept {W Y:World}{b n:Nat}{f:Byt->Option Int}{row:Option Nat}(h:MS W b n f)(X:W.grownBy Y row)(Z:row≠some b):MS Y b n f:=by
 obtain⟨D,h1,h2⟩:=h;exact⟨D,h1.kept X (fun e=>Z e.symm),h2⟩
theorem MS.alloc {W:World}{b n:Nat}{f:Byt->Option Int}(h:MS W b n f)(o:Obj):MS (W.alloc o) b n f:=by
 obtain⟨D,h1,h2⟩:=h;exact⟨D,h1.alloc o,h2⟩
section
variable {w:World}{ops:Array Oper}{rest:List Oper}{o:Oper}{a:Act}{Q:Exit->Act->World->Prop}{b n:Nat}{f:Byt->Option Int}
theorem adw (I:o.guard=none)(m x:Operand)(Y:o.op=Op.lookup 228 m x true)(N:a.eval m=.map (some b))(Z:MS w b n f)(l:Byt)(V:a.eval x=afX l)(J:l.length<=maxLen)
  (H:∀c:Int,(∀q,f l=some q->c=q)->wpList ZP ops Q rest (a.put o.dst (.tuple #[.int .i64 c,.bool (f l).isSome])) w):wpList ZP ops Q (o :: rest) a w:=by
 obtain⟨D,h1,h2,h3⟩:=Z;refine wpList_lookup_own_ok_int _ I m x 228 Y 9 3 .i64 agw underlying228 underlying3 (akv _) b n D N h1 _ _ V (agz l J) ?_;intro c X _;rw [(h3 l).1];exact H c fun q U=>by have:=X.symm.trans ((h3 l).2 q U);simpa using this
theorem MS.put_ {D:DataW Unit}{v:Int}{l:Byt}(h2:IsMap D)(h3:∀l:Byt,Maps.has D (.string l)=(f l).isSome/\∀m,f l=some m->D.atKey (.string l) (.lit (.int .i64 0))=.lit (.int .i64 m))(V:l.length<=maxLen) :
  IsMap (D.put (.string l) (.lit (.int .i64 v)))/\∀k:Byt,Maps.has (D.put (.string l) (.lit (.int .i64 v))) (.string k)=(if k=l then some v else f k).isSome/\∀m,(if k=l then some v else f k)=some m->(D.put (.string l) (.lit (.int .i64 v))).atKey (.string k) (.lit (.int .i64 0))=.lit (.int .i64 m):=by
 have Z:=agw.key (agz l V);refine⟨h2.put _ _,fun k=>?_⟩
 by_cases e:k=l
 · subst e;rw [if_pos rfl];refine⟨by rw [has_put_same h2 Z];rfl,fun m Y=>?_⟩;obtain rfl:=awV Y;rw [atKey_put_same h2 Z]
 · have X:(Lit.string k)≠Lit.string l:=fun h=>e (by injection h);rw [if_neg e];exact⟨by rw [has_put_other X,(h3 k).1],fun m Y=>by rw [atKey_put_other X,(h3 k).2 m Y]⟩
theorem acV (z:o.guard=none)(m x y:Operand)(Y:o.op=Op.mapUpdate 228 m x y)(A:a.eval m=.map (some b))(Z:MS w b n f)(B:n<maxLen)(l:Byt)(v:Int)(C:(Lit.int .i64 v).wf=true)(I:a.eval x=afX l)(J:a.eval y=.int .i64 v)(V:l.length<=maxLen)
  (s:∀w',MS w' b (n+1) (fun k=>if k=l then some v else f k)->w.grownBy w' (some b)->wpList ZP ops Q rest (a.put o.dst undef) w'):wpList ZP ops Q (o :: rest) a w:=by
 obtain⟨D,h1,h2,h3⟩:=Z;obtain⟨N,U⟩:=MS.put_ (f:=f) (v:=v) h2 h3 V;refine wpList_mapUpdate_own _ z m x y 228 Y 9 3 agw underlying228 _ b n D A h1 B _ _ _ I J (agz l V) _ [] (plainElem_int underlying3 C) ?_;intro w' H X;exact s w' ⟨_,H,N,U⟩ X
theorem ajl (j:o.guard=none)(m x y:Operand)(X:o.op=Op.insert 228 m x y)(s:a.eval m=.map (some b))(Y:MS w b n f)(z:n<maxLen)(l:Byt)(v:Int)(A:(Lit.int .i64 v).wf=true)(B:a.eval x=afX l)(C:a.eval y=.int .i64 v)(U:l.length<=maxLen)
  (h:∀w',MS w' b (n+1) (fun k=>if k=l then some v else f k)->w.grownBy w' (some b)->wpList ZP ops Q rest (a.put o.dst undef) w'):wpList ZP ops Q (o :: rest) a w:=by
 obtain⟨D,h1,h2,h3⟩:=Y;obtain⟨H,I⟩:=MS.put_ (f:=f) (v:=v) h2 h3 U;refine wpList_plain j fun e V=>?_;obtain⟨w',Z,J,N⟩:=h1.update agw underlying228 z (agz l U) (plainElem_int underlying3 A);unfold Oper.wp;simp [execOp,X,s,B,C,Z,Result.andThen];exact V _ _ (h w' ⟨_,J,H,I⟩ N)
end
end
/-! ### plain -/
def aqE (l:List Byt)(b:Byt):List Byt:=if b∈l then l else l++[b]
def adA (l:List Byt)(x:Byt)(k:Nat):List Byt:=(List.range k).foldl (fun l j=>aqE l (x.take (j+1))) l
def abY (ws:List Byt):List Byt:=ws.foldl (fun l x=>adA l x x.length) [[]]
theorem adP (l:List Byt)(x:Byt)(k:Nat):adA l x (k+1)=aqE (adA l x k) (x.take (k+1)):=by simp [adA,ayt,axJ]
theorem aej (ws:List Byt)(x:Byt):abY (ws++[x])=adA (abY ws) x x.length:=by simp [abY,axJ]
theorem asP {l:List Byt}{b x:Byt}:x∈aqE l b↔x∈l∨x=b:=by
 unfold aqE
 split
 ·
  constructor
  · exact .inl
  · rintro (h | rfl)<;>assumption
 · simp
theorem anI {l:List Byt}{b:Byt}(h:l.Nodup):(aqE l b).Nodup:=by
 unfold aqE
 split
 · exact h
 ·
  rename_i Y
  rw [List.nodup_append];refine⟨h,by simp,fun a ha c Z e=>?_⟩;simp at Z;subst Z;subst e;exact Y ha
theorem arO (l:List Byt)(b:Byt):l.length<=(aqE l b).length/\(aqE l b).length<=l.length+1:=by
 unfold aqE
 split<;>simp
theorem agv (l:List Byt)(x:Byt):∀k,l.length<=(adA l x k).length/\(adA l x k).length<=l.length+k
 | 0=>by simp [adA]
 | k+1=>by
  have h1:=agv l x k;have h2:=arO (adA l x k) (x.take (k+1));rw [adP];omega
theorem ai6 {l:List Byt}(x:Byt)(h:l.Nodup):∀k,(adA l x k).Nodup/\∀y,y∈adA l x k↔y∈l∨∃j,1<=j/\j<=k/\y=x.take j
 | 0=>by
  refine⟨by simpa [adA] using h,fun y=>?_⟩
  constructor
  · intro Z;exact .inl (by simpa [adA] using Z)
  ·
   rintro (Z | ⟨j,h1,h2,_⟩)
   · simpa [adA] using Z
   · omega
 | k+1=>by
  obtain⟨h1,h2⟩:=ai6 x h k;rw [adP];refine⟨anI h1,fun y=>?_⟩;rw [asP,h2]
  constructor
  ·
   rintro ((Z | ⟨j,a1,a2,a3⟩) | Z)
   · exact .inl Z
   · exact .inr ⟨j,a1,by omega,a3⟩
   · exact .inr ⟨k+1,by omega,by omega,Z⟩
  ·
   rintro (Z | ⟨j,a1,a2,a3⟩)
   · exact .inl (.inl Z)
   ·
    by_cases e:j=k+1
    · subst e;exact .inr a3
    · exact .inl (.inr ⟨j,a1,by omega,a3⟩)
theorem ace (ws:List Byt):(abY ws).Nodup/\∀y,y∈abY ws↔y=[]∨∃x∈ws,∃k,1<=k/\k<=x.length/\y=x.take k:=by
 refine acq (P:=fun ws=>(abY ws).Nodup/\∀y,y∈abY ws↔y=[]∨∃x∈ws,∃k,1<=k/\k<=x.length/\y=x.take k) (by simp [abY]) (fun ws x ⟨h1,h2⟩=>?_) ws;rw [aej];obtain⟨X,Y⟩:=ai6 x h1 x.length;refine⟨X,fun y=>?_⟩;rw [Y,h2]
 constructor
 ·
  rintro ((h | ⟨z,Z,r⟩) | ⟨j,a1,a2,a3⟩)
  · exact .inl h
  · exact .inr ⟨z,by simp [Z],r⟩
  · exact .inr ⟨x,by simp,j,a1,a2,a3⟩
 ·
  rintro (h | ⟨z,Z,k,a1,a2,a3⟩)
  · exact .inl (.inl h)
  ·
   rcases ayd.1 Z with Z | Z
   · exact .inl (.inr ⟨z,Z,k,a1,a2,a3⟩)
   · simp at Z;subst Z;exact .inr ⟨k,a1,a2,a3⟩
def abf (ws:List Byt):Nat:=(ws.map List.length).sum
theorem ap6 (ws:List Byt):(abY ws).length<=1+abf ws:=by
 refine acq (P:=fun ws=>(abY ws).length<=1+abf ws) (by simp [abY,abf]) (fun ws x h=>?_) ws;rw [aej];have:=(agv (abY ws) x x.length).2;have e:abf (ws++[x])=abf ws+x.length:=by simp [abf]
 omega
theorem amL (x:Byt)(k:Nat):toI (x.take k)=(toI x).take k:=by simp [toI,List.map_take]
theorem akU {wss:List (List Int)}(V:∀w∈wss,∀x∈w,0<=x/\x<=255){l:List Byt}(h1:l.Perm (abY (wss.map ofI)))(h2:ajJ (l.map toI)):l.map toI=aa0 wss:=by
 refine ajt h2 fun x=>?_;rw [axE]
 constructor
 ·
  rintro ⟨y,X,rfl⟩;rw [h1.mem_iff,(ace _).2] at X
  rcases X with rfl | ⟨z,U,k,Y,a2,rfl⟩
  · exact .inl rfl
  · obtain⟨w,Z,rfl⟩:=axE.1 U;refine .inr ⟨w,Z,k,Y,by simpa [ofI] using a2,?_⟩;rw [amL,aje (V w Z)]
 ·
  rintro (rfl | ⟨w,Z,k,Y,a2,rfl⟩)
  · exact⟨[],by rw [h1.mem_iff,(ace _).2];exact .inl rfl,rfl⟩
  · refine⟨(ofI w).take k,?_,by rw [amL,aje (V w Z)]⟩;rw [h1.mem_iff,(ace _).2];exact .inr ⟨ofI w,axE.2 ⟨w,Z,rfl⟩,k,Y,by simpa [ofI] using a2,rfl⟩
section
open Go.RowKit Go.Sort Go.Shelf
theorem agQ {α:Type} [Inhabited α] (enc:α->Value){B:Nat}{X W:World}(h:Below B X W)(g off n:Nat)(d:Array α)(os:Array Obj)(N:B<=g)(U:B<=W.heap.size):Below B X (sortWorld enc W g off n d os):=by
 have Z:(sortWorld enc W g off n d os).heap.size=W.heap.size+os.size:=by simp [sortWorld,putRow,mapBlock,Go.Sort.grow,Go.Sort.ahead]
 refine⟨h.os,h.tape,h.output,by rw [Z];have:=h.size;omega,fun k V=>?_⟩;have Y:k<W.heap.size:=by omega
 refine Eq.trans ?_ (h.block k V);show ((W.heap.modify g _)++os)[k]?=_;rw [Array.getElem?_append_left (by simpa using Y),axy,if_neg (by omega)]
theorem amx (g cap:Nat)(l:List Byt)(w:World)(J:g<w.heap.size)(s:∀i x,l[i]?=some x->w.cell? ⟨g,i,none⟩=some (afX x)/\w.frozen? ⟨g,i,none⟩=false)(A:l.length<4611686018427387904) :
  Calls ZP 182 #[.slice (some ⟨g,0,none⟩) l.length cap,.func (.func 183) #[] #[]] w fun e w'=>e=.returned (.tuple #[])/\
   ∃V:List Byt,V.Perm l/\V.Pairwise (fun a b=>ltS (toI b) (toI a)=false)/\Sl1 afX w' (some ⟨g,0,none⟩) l.length V/\∀B X,Below B X w->B<=g->B<=w.heap.size->Below B X w':=by
 have D:Holds afX w g 0 l.toArray:=fun j H=>by
  have z:j<l.length:=by simpa using H
  obtain⟨h1,h2⟩:=s j l[j] (by simp);rw [axz];refine⟨?_,h2⟩;rw [h1,getElem!_pos l.toArray j H];simp
 have h:=Any.slices_SortFunc_total (P:=ZP) (ρ:=agL) auj afX (fun _=>rfl) cfS ajd 183 #[] g 0 cap l.toArray w (enters_of func183 (by kernel_rfl) rfl)
  (fun m os dk hs x y=>by
   have:=aoL x y (sortWorld afX w g 0 m dk os);exact this)
  D J (by simpa using A) art
 have U:l.toArray.size=l.length:=by simp
 rw [U] at h;refine Calls.mono h ?_;rintro e w' ⟨v,n,os,rfl⟩;have Z:(l.mergeSort fun x y=>!(ltOf cfS) y x).Perm l:=List.mergeSort_perm l _;have Y:(l.mergeSort fun x y=>!(ltOf cfS) y x).Pairwise (fun x y=>(!(ltOf cfS) y x)=true):=by
  refine List.pairwise_mergeSort (le:=fun x y=>!(ltOf cfS) y x) (fun a b c h1 h2=>?_) (fun a b=>?_) l
  · simp only [Bool.not_eq_true',Bool.not_eq_eq_eq_not,Bool.not_true] at h1 h2 ⊢;exact ajd.ntrans _ _ _ h2 h1
  ·
   cases e1:ltOf cfS b a with
   | false=>simp
   | true=>
    cases e2:ltOf cfS a b with
    | false=>simp
    | true=>exact absurd (ajd.trans _ _ _ e1 e2) (by rw [ajd.irrefl];simp)
 refine⟨v,_,Z,Y.imp fun {a b} h=>?_,⟨Z.length_eq,.inr ⟨g,0,rfl,lt_sortWorld _ _ _ _ _ _ _ J,fun i x C=>?_⟩⟩,fun B X o h1 h2=>agQ _ o _ _ _ _ _ h1 h2⟩
 ·
  rw [<-aeZ]
  simpa using h
 ·
  have I:=holds_sortWorld afX w g 0 n l.toArray (l.mergeSort fun x y=>!(ltOf cfS) y x).toArray os J D (by simp [Z.length_eq]);have N:=(awR.1 C);have:=(I i (by simpa using N.1)).1;rw [getElem!_pos _ i (by simpa using N.1)] at this;simp only [List.getElem_toArray] at this;rw [N.2] at this
  rwa [axz] at this ⊢
end
theorem atw:(ZP.info? 9).map (fun i=>(i.zero,i.size,i.bytes))=some (some (.string ⟨#[]⟩),1,16):=by kernel_rfl
abbrev awc (w:World)(base:Nat)(v:Value)(l:List Byt):Prop:=w.ownsRow base 9 1 v l.length (l.map afX)
theorem awi {n:Nat}(h:n<=1000000000):(Lit.int .i64 (n:Int)).wf=true:=by
 simp [Lit.wf,IntKind.min,IntKind.max,IntKind.signed,IntKind.bits];omega
theorem aq7 {Z:List Byt}{f:Byt->Option Int}(Y:∀x,(f x).isSome=decide (x∈Z)){b:Byt}{v:Int}:∀x,(if x=b then some v else f x).isSome=decide (x∈Z++[b]):=fun x=>by
 by_cases e:x=b
 · rw [if_pos e];simp [e]
 · rw [if_neg e,Y x];simp [e]
theorem akQ (wss:List (List Int))(k:Nat):abf ((wss.take k).map ofI)<=abf (wss.map ofI):=by
 have e:abf (wss.map ofI)=abf ((wss.take k).map ofI)+abf ((wss.drop k).map ofI):=by
  unfold abf;rw [<-List.sum_append,<-ay7,<-ay7,axI]
 omega
theorem atI {w:World}{n:Nat}{e:TypeId}{size k:Nat}{v:Value}{xs:List Value}(h:w.ownsRow (n+1) e size v k xs):v.ownBlock=none∨v.ownBlock≠some n:=by
 rcases h.2 with ⟨rfl,_⟩ | ⟨g,cap,Z,rfl,Y,_⟩
 · exact .inl rfl
 · exact .inr (by simp [Value.ownBlock];omega)
theorem Wds.bytes {w:World}{a:Option Addr}{U:Nat}{wss:List (List Int)}(h:Wds w a U wss):∀x∈wss,∀c∈x,0<=c/\c<=255:=fun x N c V=>by
 obtain⟨i,X⟩:=ayB N;have Y:=(awR.1 X).1;rw [h.len] at Y;obtain⟨_,_,_,_,_,I,_,_,_,Z,J,_⟩:=h.at_ Y;rw [X] at Z;rw [awV Z] at V;exact J.2 c V
structure GB (w:World)(s4:Value)(lst:List Byt)(W:World):Prop where
 bel:Below w.heap.size w W
 row:awc W (w.heap.size+1) s4 lst
 map:∃f,MS W w.heap.size lst.length f/\∀x,(f x).isSome=decide (x∈lst)
 sz:w.heap.size+1<W.heap.size
theorem atq (a:Option Addr)(A ca:Nat)(wss:List (List Int))(w:World)(hA:Wds w a A wss)(b2:A<=1000000)(hM:∀x∈wss,x.length<=1000000)(hS:abf (wss.map ofI)<=1000000) :
  Calls ZP 131 #[.slice a A ca] w fun e w'=>∃(a':Option Addr) (n c:Nat) (l:List Byt),e=.returned (.slice a' n c)/\n=l.length/\l.map toI=aa0 wss/\Sl1 afX w' a' n l/\Below w.heap.size w w':=by
 obtain⟨i0,hi,aD,aC,aB⟩:=info_parts atw;have HL:=ax3 hA.len;have aS:=ax3 hA;have b0:=@run_makeMap ZP;have m0:(w.alloc (Obj.map #[] 0)).ownsMap ZP 9 (plainElem ZP 3) w.heap.size 0 (.map []:DataW Unit):=ayV w ZP 9 (plainElem ZP 3);go_enter func131,ntmps131;go_upto_region 2 with (refine ajl rfl _ _ _ rfl rfl (MS.start (b:=w.heap.size) _ m0) (by unfold maxLen;omega) [] 0 rfl rfl rfl (by simp) ?_;intro w1 ae a2)
 have aG:w.heap.size+1<=w1.heap.size:=by have:=a2.size;simp at this;omega
 have ap:Below w.heap.size w w1:=(aa1 w (Obj.map #[] 0)).grown a2 (by simp) (fun k e=>by cases e;exact axe _);have am:GB w (.slice (some ⟨w1.heap.size,0,none⟩) 1 1) [[]] (w1.alloc (.cells #[afX []] 9)):=
  ⟨ap.alloc (by omega) _,⟨rfl,.inr ⟨w1.heap.size,1,#[afX []],rfl,aG,axg _ _,axe _,by unfold maxLen;omega,rfl,rfl⟩⟩,⟨_,ae.alloc _,fun x=>by by_cases e:x=[]<;>simp [e]⟩,by simp;omega⟩
 have aw:=ax3 am;clear ae a2 ap am m0;go_wp2
 go_loopw [4,16] (fun s4 aA wr=>∃(k:Nat) (lst:List Byt) (v:Value),v=s4/\k<=A/\aA=.int .i64 k/\Hid (lst=abY ((wss.take k).map ofI))/\GB w v lst wr) (fun _ i _=>A-(intOf i).toNat)
 case atStart=>exact⟨0,[[]],_,rfl,axh _,rfl,rfl,aw.out⟩
 case round=>
  clear aw;obtain⟨k,lst,v,rfl,hk,rfl,a7,X⟩:=hrel;have aU:lst.length<=1000001:=by rw [a7.out];have h1:=ap6 ((wss.take k).map ofI);have h2:=akQ wss k;omega
  by_cases a1:k<A
  ·
   have aJ:decide ((k:Int)<A)=true:=by simp;omega
   obtain⟨bb,off,ax,y,cx,x,ak,J,N,s,hX,b1⟩:=(hA.below X.bel).at_ a1;have C:bb<w.heap.size:=by
    obtain⟨_,_,_,_,_,_,e,af,_⟩:=hA.at_ a1;rw [ak] at e
    injection e with e
    injection e with e1 e2
    omega
   subst ak;have aN:Bys w ax y x:=by
    obtain⟨_,_,bd,aW,b9,x',e,af,D,ab,aO,_⟩:=hA.at_ a1
    injection e with e
    injection e with e1 e2 e3
    subst e1 e2;have e4:=(X.bel.cell (p:=⟨bb,off+k,none⟩) C).trans D;rw [N] at e4
    injection e4 with e4
    injection e4 with e5 e6 e7
    subst e5 e6 e7;rw [s] at ab;rw [awV ab];exact aO
   have aX:y<=1000000:=by have:=adg hM s;rw [hX.len] at this;exact this
   have HX:=ax3 s;have aR:=ax3 hX.len;clear s hX;go_wp2;clear N
   go_loopw [4,22] (fun s4 az wr=>∃(j:Nat) (l2:List Byt) (v:Value),v=s4/\j<=y/\az=.int .i64 j/\Hid (l2=adA lst (ofI x) j)/\GB w v l2 wr) (fun _ i _=>y-(intOf i).toNat)
   case atStart=>exact⟨0,lst,_,rfl,axh _,rfl,rfl,X⟩
   case round=>
    clear X;obtain⟨j,l2,v,rfl,hj,rfl,B,X⟩:=hrel;have aH:l2.length<=2000001:=by rw [B.out];have:=(agv lst (ofI x) j).2;omega
    by_cases b3:j<y
    ·
     have aK:decide ((j:Int)<y)=true:=by simp;omega
     have b4:(j:Int)+1<=cx:=by omega
     have aV:j+1<=cx:=by omega
     have cv:=abz ((aN.below X.bel).take (m:=j+1) (by omega)) cx;rw [ani] at cv;have J:(ofI (x.take (j+1))).length<=maxLen:=by simp [ofI];unfold maxLen;omega
     have a6:Hid (ofI (x.take (j+1))=(ofI x).take (j+1)):=by simp [Hid,ofI,List.map_take]
     obtain⟨b,aj⟩:∃b,ofI (x.take (j+1))=b:=⟨_,rfl⟩;rw [aj] at cv J a6;obtain⟨f,U,ah⟩:=X.map;have aa:=ax3 ah;clear ah aj
     by_cases hm:b∈l2
     ·
      have o:(f b).isSome=true:=by rw [aa.out];simp [hm]
      have HN:Hid (l2=adA lst (ofI x) (j+1)):=by rw [Hid,adP,<-B.out,<-a6.out];unfold aqE;rw [if_pos hm]
      clear hm
      go_wp2_with (at_lookup;refine adw rfl _ _ rfl rfl U b rfl J ?_;intro c' aM;rw [o])
      go_roundw
      case rel=>exact⟨j+1,l2,_,rfl,by omega,by go_num,HN,X⟩
      case measure=>simp [intOf];omega
     ·
      have o:(f b).isSome=false:=by rw [aa.out];simp [hm]
      have HN:Hid (l2++[b]=adA lst (ofI x) (j+1)):=by rw [Hid,adP,<-B.out,<-a6.out];unfold aqE;rw [if_neg hm]
      have Z:=X.row;obtain⟨m,h⟩:∃m,l2.length=m:=⟨_,rfl⟩;unfold awc at Z;rw [h] at Z U aH;have au:=ax3 h;obtain⟨a4,c4,rfl,b8,_⟩:=aaC Z;have al:=X.bel;have aY:=X.sz;clear hm h
      go_wp2_with (first
       | (at_lookup;refine adw rfl _ _ rfl rfl U b rfl J ?_;intro c' aM;rw [o])
       | (at_mapUpdate;refine acV rfl _ _ _ rfl rfl U (by unfold maxLen;omega) b m (awi (by omega)) rfl rfl J ?_;intro w5 z H;have Y:=Z.kept H (atI Z);have ao:Below w.heap.size w w5:=al.grown H al.size (fun k e=>by cases e;exact axe _);have aZ:=H.size)
       | (at_builtin;refine wpList_append_own _ rfl _ _ 231 rfl (w.heap.size+1) 9 i0 (.string ⟨#[]⟩) 1 16 underlying231 hi aD aC aB rfl (by decide) _ _ _ rfl (Y.alloc _) ⟨w5.heap.size,0,none⟩ 1 1 [afX b] rfl rfl (ab7 _ _ (by simp)) (by simp [Value.oneCell']) (by unfold maxLen;omega) (by omega) (by simp;omega) ?_;intro v' w6 V I aT))
      have aF:=I.size;simp at aF;have aP:Hid (GB w v' (l2++[b]) w6):=by
       refine⟨(ao.alloc ao.size _).grown I (by simp;omega) (fun k e=>by have:=(Y.lt k e).1;omega),?_,⟨_,?_,aq7 (b:=b) (v:=(m:Int)) aa.out⟩,by omega⟩
       · unfold awc;rw [List.length_append,au.out,ay7];exact V
       ·
        rw [List.length_append,au.out];refine MS.kept (row:=(Value.slice a4 m c4).ownBlock) (z.alloc _) I ?_
        rcases atI Z with e | e
        · rw [e];simp
        · exact e
      clear Z Y V U z H I
      go_roundw
      case rel=>exact⟨j+1,_,_,rfl,by omega,by go_num,HN,aP.out⟩
      case measure=>simp [intOf];omega
    ·
     obtain rfl:j=y:=by omega
     have aK:decide ((j:Int)<j)=false:=by simp
     have HN:Hid (l2=abY ((wss.take (k+1)).map ofI)):=by
      rw [Hid,aa7 HX.out,ay7,ax0,ax1,aej,<-a7.out,show (ofI x).length=j by simp [ofI,aR.out]];exact B.out
     go_wp2
     go_roundw
     case rel=>exact⟨k+1,l2,_,rfl,by omega,by go_num,HN,X⟩
     case measure=>simp [intOf];omega
  ·
   obtain rfl:k=A:=by omega
   have aJ:decide ((k:Int)<k)=false:=by simp
   have a8:Hid (lst=abY (wss.map ofI)):=by rw [Hid,a7.out,axo (by rw [HL.out];exact axe _)]
   have ac:lst≠[]:=fun e=>by
    have:=((ace (wss.map ofI)).2 []).2 (.inl rfl);rw [<-a8.out,e] at this
    cases this
   rcases X.row.2 with ⟨_,h0⟩ | ⟨g,cap,aq,rfl,b6,hh,hn,b7,aL,ai⟩
   · exact absurd (ayk h0) ac
   ·
    have aI:g<wr.heap.size:=(awU.1 hh).1;have aad:∀i x,lst[i]?=some x->wr.cell? ⟨g,i,none⟩=some (afX x)/\wr.frozen? ⟨g,i,none⟩=false:=fun i x s=>by
     have b5:=(awR.1 s).1;have h1:(aq.toList.take (lst.length*1))[i]?=some (afX x):=by rw [ai];simp [s]
     rw [awS,if_pos (by omega)] at h1;have h2:aq[i]?=some (afX x):=by simpa using h1
     simp [World.cell?,World.frozen?,hh,h2]
    have ar:=ax3 (amx g cap lst wr aI aad (by omega));have hB:=X.bel;have ag:w.heap.size<=g:=by omega
    have ay:=ax3 (aS.out.bytes);clear aad hh ai aL X ac
    go_wp2_with fail
    refine ar.out.mono ?_;rintro e w2 ⟨rfl,l',hp,hs,aE,C⟩;have aQ:Below w.heap.size w w2:=C _ _ hB ag hB.size;have HN:Hid (l'.map toI=aa0 wss):=by
     refine akU ay.out (by rw [<-a8.out];exact hp) ?_;have ad:l'.Nodup:=by rw [hp.nodup_iff,a8.out];exact (ace _).1
     rw [List.nodup_iff_pairwise_ne] at ad;rw [ajJ,List.pairwise_map];refine (hs.and ad).imp fun {a b} ⟨h1,h2⟩=>?_
     cases e:ltS (toI a) (toI b) with
     | true=>rfl
     | false=>exact absurd (agE (aeR e h1)) h2
    have av:Hid (lst.length=l'.length):=hp.length_eq.symm;clear hp hs C hB ar;go_wp2;go_ret;exact⟨_,_,_,l',rfl,av.out,HN.out,aE,aQ⟩
def sep (u v:Value):Prop:=∀k,u.ownBlock=some k->v.ownBlock≠some k
theorem sep.symm {u v:Value}(h:sep u v):sep v u:=fun k h1 h2=>h k h2 h1
theorem sep.kept {u v:Value}(h:sep u v):v.ownBlock=none∨v.ownBlock≠u.ownBlock:=by
 cases e:v.ownBlock with
 | none=>exact .inl rfl
 | some k=>exact .inr fun Z=>h k Z.symm e
theorem sep.put {u Z v:Value}{n:Nat}(h:sep u v)(V:Z.ownBlock=u.ownBlock∨Z.ownBlock=some n)(Y:∀k,v.ownBlock=some k->k<n):sep Z v:=fun k h1 h2=>by
 rcases V with e | e
 · exact h k (by rw [<-e];exact h1) h2
 ·
  rw [e] at h1;have:=Y k h2
  injection h1 with h1
  omega
abbrev ams (w:World)(base:Nat)(v:Value)(l:List Int):Prop:=w.ownsRow base 3 1 v l.length (l.map (Value.int .i64))
abbrev awu (w:World)(base:Nat)(v:Value)(l:List Int):Prop:=w.ownsRow base 5 1 v l.length (l.map (Value.int .u8))
abbrev aer (u d x b:Value)(nb wb:Nat):Array Value:=#[u,d,x,b,.map (some nb),.map (some wb)]
structure MK (base mb nb wb n1 n2:Nat)(fN fW:Byt->Option Int)(U D X B:List Int)(u d x b:Value)(W:World):Prop where
 box:W.heap[mb]?=some (.cells (aer u d x b nb wb) 230 (0,0))
 up:ams W base u U
 dep:ams W base d D
 wrd:ams W base x X
 byt:awu W base b B
 s1:sep u d
 s2:sep u x
 s3:sep u b
 s4:sep d x
 s5:sep d b
 s6:sep x b
 nod:MS W nb n1 fN
 wds:MS W wb n2 fW
 lt:mb<base/\nb<base/\wb<base/\mb≠nb/\mb≠wb/\nb≠wb
 sz:base<=W.heap.size
theorem MS.below {W W':World}{b n:Nat}{f:Byt->Option Int}(h:MS W b n f)(Z:Below W.heap.size W W'):MS W' b n f:=
 h.kept (aly Z (b+1)) (by simp)
theorem MS.run_get {W:World}{b n:Nat}{f:Byt->Option Int}(h:MS W b n f){l:Byt}(N:l.length<=maxLen){u:Int}(V:f l=some u) :
  Sem.run ZP (Instr.lookup 228 (.map (some b)) (afX l) false) W=.ok (.int .i64 u) W:=by
 obtain⟨D,h1,h2,h3⟩:=h;obtain⟨c,Z,Y,_⟩:=h1.lookup_int agw underlying228 underlying3 (akv W) (agz l N);have:=Y.symm.trans ((h3 l).2 u V);obtain rfl:c=u:=by simpa using this
 exact Z
theorem asR (s:Byt):(ae3 s).extract 0 (s.length-1)=ae3 s.dropLast:=by
 apply ByteArray.ext
 rw [ByteArray.data_extract]
 apply Array.ext'
 simp [ae3,List.dropLast_eq_take]
theorem ajs {s:Byt}(h:s≠[]):(ae3 s).toList.isEmpty=false:=by
 cases e:(ae3 s).toList.isEmpty with
 | false=>rfl
 | true=>
  exfalso
  have h1:(ae3 s).toList=[]:=by simpa using e
  have h2:(ae3 s).data.toList=[]:=by rw [<-ByteArray.toList_eq];exact h1
  exact h (by simpa [ae3] using h2)
def ajY (b:Byt):Int:=((b.getLast?).map fun c=>(c.toNat:Int)).getD 0
theorem asE {s:Byt}{q:Nat}(Z:s.length=q+1)(h:q<(ae3 s).size):(((ae3 s)[q].toNat:Nat):Int)=ajY s:=by
 have e:s.getLast?=some (s[q]'(by omega)):=by rw [List.getLast?_eq_getElem?,show s.length-1=q by omega];simp
 unfold ajY;rw [e]
 rfl
theorem af0 {w w':World}{base n size:Nat}{e:TypeId}{v:Value}{xs:List Value}(h:w.ownsRow base e size v n xs)(J:Below w.heap.size w w'):w'.ownsRow base e size v n xs:=by
 obtain⟨h1,h2 | ⟨g,cap,Z,e,N,Y,V⟩⟩:=h
 · exact⟨h1,.inl h2⟩
 · exact⟨h1,.inr ⟨g,cap,Z,e,N,(J.block g (awU.1 Y).1).trans Y,V⟩⟩
theorem aei {w:World}{base n size m:Nat}{e:TypeId}{v:Value}{xs:List Value}(h:w.ownsRow base e size v n xs)(Y:m<base):v.ownBlock=none∨v.ownBlock≠some m:=by
 rcases h.2 with ⟨rfl,_⟩ | ⟨g,cap,Z,rfl,V,_⟩
 · exact .inl rfl
 · exact .inr (by simp [Value.ownBlock];omega)
theorem aao {w:World}{base n size m i:Nat}{e:TypeId}{v:Value}{xs:List Value}(h:w.ownsRow base e size v n xs)(Z:m<base)(u:Value):(w.setCell ⟨m,i,none⟩ u).ownsRow base e size v n xs:=
 h.kept (aa9 w m i u) (aei h Z)
theorem MS.set {w:World}{b n m i:Nat}{f:Byt->Option Int}(h:MS w b n f)(Z:m≠b)(u:Value):MS (w.setCell ⟨m,i,none⟩ u) b n f:=h.kept (aa9 w m i u) (by intro e;injection e with e;exact Z e)
theorem aap {w:World}{base n size:Nat}{e:TypeId}{v:Value}{xs:List Value}(h:w.ownsRow base e size v n xs):∀k,v.ownBlock=some k->base<=k/\k<w.heap.size:=fun k Z=>by
 rcases h.2 with ⟨rfl,_⟩ | ⟨g,cap,N,rfl,V,Y,_⟩
 · cases Z
 · simp [Value.ownBlock] at Z;subst Z;exact⟨V,(awU.1 Y).1⟩
structure aaz (mb nb base:Nat)(w W:World):Prop where
 os:W.os=w.os
 tape:W.tape=w.tape
 output:W.output=w.output
 size:w.heap.size<=W.heap.size
 block:∀k,k<base->k≠mb->k≠nb->W.heap[k]?=w.heap[k]?
theorem aaz.refl (mb nb base:Nat)(w:World):aaz mb nb base w w:=⟨rfl,rfl,rfl,axe _,fun _ _ _ _=>rfl⟩
theorem aaz.trans {mb nb base:Nat}{u v w:World}(h:aaz mb nb base u v)(k:aaz mb nb base v w):aaz mb nb base u w:=
 ⟨k.os.trans h.os,k.tape.trans h.tape,k.output.trans h.output,awT h.size k.size,fun i h1 h2 h3=>(k.block i h1 h2 h3).trans (h.block i h1 h2 h3)⟩
theorem aaz.of_below {mb nb base:Nat}{v w:World}(h:Below v.heap.size v w)(Z:base<=v.heap.size):aaz mb nb base v w:=⟨h.os,h.tape,h.output,h.size,fun k h1 _ _=>h.block k (by omega)⟩
theorem aaz.alloc {mb nb base:Nat}{v w:World}(h:aaz mb nb base v w)(Z:base<=w.heap.size)(o:Obj):aaz mb nb base v (w.alloc o):=h.trans (.of_below (aa1 w o) Z)
theorem aaz.grown {mb nb base:Nat}{u v w:World}{row:Option Nat}(h:aaz mb nb base u v)(Z:v.grownBy w row)(Y:∀k,row=some k->base<=k∨k=nb)(V:base<=v.heap.size):aaz mb nb base u w:=
 h.trans ⟨Z.os,Z.tape,Z.output,Z.size,fun k h1 h2 h3=>Z.block k (by omega) (fun e=>by rcases Y k e.symm with g | g<;>omega)⟩
theorem aaz.set {mb nb base:Nat}{v w:World}(h:aaz mb nb base v w)(i:Nat)(x:Value):aaz mb nb base v (w.setCell ⟨mb,i,none⟩ x):=
 h.trans ⟨rfl,rfl,rfl,by simp,fun k h1 h2 h3=>axn w ⟨mb,i,none⟩ x k h2⟩
theorem aaz.below {mb nb base B:Nat}{u v w:World}(h:aaz mb nb base v w)(Z:Below B u v)(h1:B<=mb)(h2:B<=nb)(h3:B<=base):Below B u w:=
 ⟨h.os.trans Z.os,h.tape.trans Z.tape,h.output.trans Z.output,awT Z.size h.size,fun k Y=>(h.block k (by omega) (by omega) (by omega)).trans (Z.block k Y)⟩
section
variable {base mb nb wb n1 n2:Nat}{fN fW:Byt->Option Int}{U D X B:List Int}{u d x b:Value}{W W':World}
theorem MK.below (h:MK base mb nb wb n1 n2 fN fW U D X B u d x b W)(Z:Below W.heap.size W W'):MK base mb nb wb n1 n2 fN fW U D X B u d x b W':=
 ⟨(Z.block _ (awU.1 h.box).1).trans h.box,af0 h.up Z,af0 h.dep Z,af0 h.wrd Z,af0 h.byt Z,h.s1,h.s2,h.s3,h.s4,h.s5,h.s6,h.nod.below Z,h.wds.below Z,h.lt,awT h.sz Z.size⟩
theorem MK.cells (h:MK base mb nb wb n1 n2 fN fW U D X B u d x b W):(W.cell? ⟨mb,0,none⟩=some u/\W.cell? ⟨mb,1,none⟩=some d/\W.cell? ⟨mb,2,none⟩=some x/\W.cell? ⟨mb,3,none⟩=some b/\W.cell? ⟨mb,4,none⟩=some (.map (some nb))/\W.cell? ⟨mb,5,none⟩=some (.map (some wb)))/\∀i,W.frozen? ⟨mb,i,none⟩=false:=by
 refine⟨⟨?_,?_,?_,?_,?_,?_⟩,fun i=>?_⟩<;>simp [World.cell?,World.frozen?,h.box]
theorem MK.put_u (h:MK base mb nb wb n1 n2 fN fW U D X B u d x b W){V:World}{Z:Value}{z:Int}(o:Obj)(I:V.ownsRow base 3 1 Z (U.length+1) (U.map (Value.int .i64)++[.int .i64 z]))(Y:(W.alloc o).grownBy V u.ownBlock)(N:Z.ownBlock=u.ownBlock∨Z.ownBlock=some (W.alloc o).heap.size) :
  MK base mb nb wb n1 n2 fN fW (U++[z]) D X B Z d x b (V.setCell ⟨mb,0,none⟩ Z)/\aaz mb nb base W (V.setCell ⟨mb,0,none⟩ Z):=by
 have hs:=Y.size;simp at hs;have J:W.heap.size<=(W.alloc o).heap.size:=by simp
 have j:=(awU.1 h.box).1;have v:u.ownBlock≠some mb:=fun e=>by have:=(aap h.up _ e).1;have:=h.lt.1;omega
 have s:u.ownBlock≠some nb:=fun e=>by have:=(aap h.up _ e).1;have:=h.lt.2.1;omega
 have y:u.ownBlock≠some wb:=fun e=>by have:=(aap h.up _ e).1;have:=h.lt.2.2.1;omega
 have a1:V.heap[mb]?=some (.cells (aer u d x b nb wb) 230 (0,0)):=(Y.block mb (by simp;omega) (fun e=>v e.symm)).trans ((axi _ _ _ j).trans h.box);have C:=aao (i:=0) ((h.dep.alloc o).kept Y h.s1.kept) h.lt.1 Z;have H:=aao (i:=0) ((h.wrd.alloc o).kept Y h.s2.kept) h.lt.1 Z;have A:=aao (i:=0) ((h.byt.alloc o).kept Y h.s3.kept) h.lt.1 Z;exact⟨⟨aa4 a1 _,(by unfold ams;rw [List.length_append,ay7];exact aao I h.lt.1 _),C,H,A,(h.s1.put N (fun k e=>ax6 (aap h.dep k e).2 J)),(h.s2.put N (fun k e=>ax6 (aap h.wrd k e).2 J)),(h.s3.put N (fun k e=>ax6 (aap h.byt k e).2 J)),h.s4,h.s5,h.s6,((h.nod.alloc o).kept Y s).set h.lt.2.2.2.1 _,((h.wds.alloc o).kept Y y).set h.lt.2.2.2.2.1 _,h.lt,by have:=h.sz;simp;omega⟩,(((aaz.refl mb nb base W).alloc h.sz o).grown Y (fun k e=>.inl (aap h.up k e).1) (by have:=h.sz;simp;omega)).set _ _⟩
theorem MK.put_d (h:MK base mb nb wb n1 n2 fN fW U D X B u d x b W){V:World}{Z:Value}{z:Int}(o:Obj)(I:V.ownsRow base 3 1 Z (D.length+1) (D.map (Value.int .i64)++[.int .i64 z]))(Y:(W.alloc o).grownBy V d.ownBlock)(N:Z.ownBlock=d.ownBlock∨Z.ownBlock=some (W.alloc o).heap.size) :
  MK base mb nb wb n1 n2 fN fW U (D++[z]) X B u Z x b (V.setCell ⟨mb,1,none⟩ Z)/\aaz mb nb base W (V.setCell ⟨mb,1,none⟩ Z):=by
 have hs:=Y.size;simp at hs;have J:W.heap.size<=(W.alloc o).heap.size:=by simp
 have j:=(awU.1 h.box).1;have v:d.ownBlock≠some mb:=fun e=>by have:=(aap h.dep _ e).1;have:=h.lt.1;omega
 have s:d.ownBlock≠some nb:=fun e=>by have:=(aap h.dep _ e).1;have:=h.lt.2.1;omega
 have y:d.ownBlock≠some wb:=fun e=>by have:=(aap h.dep _ e).1;have:=h.lt.2.2.1;omega
 have a1:V.heap[mb]?=some (.cells (aer u d x b nb wb) 230 (0,0)):=(Y.block mb (by simp;omega) (fun e=>v e.symm)).trans ((axi _ _ _ j).trans h.box);have C:=aao (i:=1) ((h.up.alloc o).kept Y h.s1.symm.kept) h.lt.1 Z;have H:=aao (i:=1) ((h.wrd.alloc o).kept Y h.s4.kept) h.lt.1 Z;have A:=aao (i:=1) ((h.byt.alloc o).kept Y h.s5.kept) h.lt.1 Z;exact⟨⟨aa4 a1 _,C,(by unfold ams;rw [List.length_append,ay7];exact aao I h.lt.1 _),H,A,(h.s1.symm.put N (fun k e=>ax6 (aap h.up k e).2 J)).symm,h.s2,h.s3,(h.s4.put N (fun k e=>ax6 (aap h.wrd k e).2 J)),(h.s5.put N (fun k e=>ax6 (aap h.byt k e).2 J)),h.s6,((h.nod.alloc o).kept Y s).set h.lt.2.2.2.1 _,((h.wds.alloc o).kept Y y).set h.lt.2.2.2.2.1 _,h.lt,by have:=h.sz;simp;omega⟩,(((aaz.refl mb nb base W).alloc h.sz o).grown Y (fun k e=>.inl (aap h.dep k e).1) (by have:=h.sz;simp;omega)).set _ _⟩
theorem MK.put_x (h:MK base mb nb wb n1 n2 fN fW U D X B u d x b W){V:World}{Z:Value}{z:Int}(o:Obj)(I:V.ownsRow base 3 1 Z (X.length+1) (X.map (Value.int .i64)++[.int .i64 z]))(Y:(W.alloc o).grownBy V x.ownBlock)(N:Z.ownBlock=x.ownBlock∨Z.ownBlock=some (W.alloc o).heap.size) :
  MK base mb nb wb n1 n2 fN fW U D (X++[z]) B u d Z b (V.setCell ⟨mb,2,none⟩ Z)/\aaz mb nb base W (V.setCell ⟨mb,2,none⟩ Z):=by
 have hs:=Y.size;simp at hs;have J:W.heap.size<=(W.alloc o).heap.size:=by simp
 have j:=(awU.1 h.box).1;have v:x.ownBlock≠some mb:=fun e=>by have:=(aap h.wrd _ e).1;have:=h.lt.1;omega
 have s:x.ownBlock≠some nb:=fun e=>by have:=(aap h.wrd _ e).1;have:=h.lt.2.1;omega
 have y:x.ownBlock≠some wb:=fun e=>by have:=(aap h.wrd _ e).1;have:=h.lt.2.2.1;omega
 have a1:V.heap[mb]?=some (.cells (aer u d x b nb wb) 230 (0,0)):=(Y.block mb (by simp;omega) (fun e=>v e.symm)).trans ((axi _ _ _ j).trans h.box);have H:=aao (i:=2) ((h.up.alloc o).kept Y h.s2.symm.kept) h.lt.1 Z;have C:=aao (i:=2) ((h.dep.alloc o).kept Y h.s4.symm.kept) h.lt.1 Z;have A:=aao (i:=2) ((h.byt.alloc o).kept Y h.s6.kept) h.lt.1 Z;exact⟨⟨aa4 a1 _,H,C,(by unfold ams;rw [List.length_append,ay7];exact aao I h.lt.1 _),A,h.s1,(h.s2.symm.put N (fun k e=>ax6 (aap h.up k e).2 J)).symm,h.s3,(h.s4.symm.put N (fun k e=>ax6 (aap h.dep k e).2 J)).symm,h.s5,(h.s6.put N (fun k e=>ax6 (aap h.byt k e).2 J)),((h.nod.alloc o).kept Y s).set h.lt.2.2.2.1 _,((h.wds.alloc o).kept Y y).set h.lt.2.2.2.2.1 _,h.lt,by have:=h.sz;simp;omega⟩,(((aaz.refl mb nb base W).alloc h.sz o).grown Y (fun k e=>.inl (aap h.wrd k e).1) (by have:=h.sz;simp;omega)).set _ _⟩
theorem MK.put_b (h:MK base mb nb wb n1 n2 fN fW U D X B u d x b W){V:World}{b':Value}{z:Int}(o:Obj)(J:V.ownsRow base 5 1 b' (B.length+1) (B.map (Value.int .u8)++[.int .u8 z]))(Z:(W.alloc o).grownBy V b.ownBlock)(Y:b'.ownBlock=b.ownBlock∨b'.ownBlock=some (W.alloc o).heap.size) :
  MK base mb nb wb n1 n2 fN fW U D X (B++[z]) u d x b' (V.setCell ⟨mb,3,none⟩ b')/\aaz mb nb base W (V.setCell ⟨mb,3,none⟩ b'):=by
 have hs:=Z.size;simp at hs;have N:W.heap.size<=(W.alloc o).heap.size:=by simp
 have s:=(awU.1 h.box).1;have y:b.ownBlock≠some mb:=fun e=>by have:=(aap h.byt _ e).1;have:=h.lt.1;omega
 have v:b.ownBlock≠some nb:=fun e=>by have:=(aap h.byt _ e).1;have:=h.lt.2.1;omega
 have A:b.ownBlock≠some wb:=fun e=>by have:=(aap h.byt _ e).1;have:=h.lt.2.2.1;omega
 have j:V.heap[mb]?=some (.cells (aer u d x b nb wb) 230 (0,0)):=(Z.block mb (by simp;omega) (fun e=>y e.symm)).trans ((axi _ _ _ s).trans h.box);have H:=aao (i:=3) ((h.up.alloc o).kept Z h.s3.symm.kept) h.lt.1 b';have C:=aao (i:=3) ((h.dep.alloc o).kept Z h.s5.symm.kept) h.lt.1 b';have I:=aao (i:=3) ((h.wrd.alloc o).kept Z h.s6.symm.kept) h.lt.1 b';exact⟨⟨aa4 j _,H,C,I,(by unfold awu;rw [List.length_append,ay7];exact aao J h.lt.1 _),h.s1,h.s2,(h.s3.symm.put Y (fun k e=>ax6 (aap h.up k e).2 N)).symm,h.s4,(h.s5.symm.put Y (fun k e=>ax6 (aap h.dep k e).2 N)).symm,(h.s6.symm.put Y (fun k e=>ax6 (aap h.wrd k e).2 N)).symm,((h.nod.alloc o).kept Z v).set h.lt.2.2.2.1 _,((h.wds.alloc o).kept Z A).set h.lt.2.2.2.2.1 _,h.lt,by have:=h.sz;simp;omega⟩,(((aaz.refl mb nb base W).alloc h.sz o).grown Z (fun k e=>.inl (aap h.byt k e).1) (by have:=h.sz;simp;omega)).set _ _⟩
end
end Go.Proofs.YtaamacoicojhnaaGreat
