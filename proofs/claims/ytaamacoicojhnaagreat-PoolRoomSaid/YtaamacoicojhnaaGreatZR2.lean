/- Proofs over the given program, part 2. -/
import Derived.Test.YtaamacoicojhnaaGreatZR1
set_option linter.unusedVariables false
set_option linter.unusedSimpArgs false
set_option maxRecDepth 100000
set_option maxHeartbeats 16000000
open Go.Proofs.Tryz
open Go.Proofs.Tryz renaming prog→ZP
open Go.World(cell? frozen?)
open Go.Value(int slice pointer bool)
open Go.IntKind(i64)
namespace Go.Proofs.YtaamacoicojhnaaGreat
open Go.RowKit Go.Sort
abbrev Ch(w:World)(base:Nat)(v:Value)(n:Nat)(xs:List Int):Prop:=w.ownsRow base 5 1 v n (xs.map (Value.int .u8))
theorem Gs:(ZP.info? 5).map (λi=>(i.zero,i.size,i.bytes))=some (some (.int .u8 0),1,1):=by kernel_rfl
theorem Co{α:Type}{enc:α->Value}{w:World}{base n:Nat}{e:TypeId}{v:Value}{xs:List α}(h:w.ownsRow base e 1 v n (xs.map enc)):∃a c,v=slice a n c/\n<=c/\Sl1 enc w a n xs:=by
 have Z:xs.length=n:=by have:=h.1;simpa using this
 rcases h.2 with⟨rfl,rfl⟩|⟨g,cap,U,rfl,N,V,X,_,_,J⟩
 ·exact⟨none,0,rfl,AC _,Z,.inl rfl⟩
 ·refine⟨_,cap,rfl,X,Z,.inr ⟨g,0,rfl,(AD.1 V).1,λi x Y=>?_⟩⟩;have:=h.cells (g:=g) rfl i (enc x) (by simp[Y])
  rwa[Cf]at this
theorem KL{w:World}{base n:Nat}{v:Value}{xs:List Int}(h:Ch w base v n xs)(Y:∀x∈xs,0<=x/\x<=255):∃a c,v=slice a n c/\n<=c/\Bys w a n xs:=by obtain⟨a,c,e,Z,h1⟩:=Co h;exact⟨a,c,e,Z,h1,Y⟩
theorem aa7{w wr Y:World}{o:Obj}{base n size:Nat}{e:TypeId}{v:Value}{xs:List Value}(hB:Bt w wr)(Z:wr.ownsRow w.heap.size e size v n xs)(X:(wr.alloc o).grownBy Y v.ownBlock):Bt w Y:=(hB.alloc hB.size o).grown X (by simp;have:=hB.size;omega) (λk hk=>(Z.lt k hk).1)
theorem Sl1.news{α:Type}{enc:α->Value}{w:World}{X:Addr}{m:Nat}{ys:List α}(h:Sl1 enc w (some X) m ys):∀j u,(ys.map enc)[j]?=some u->w.cell? (X.add j)=some u:=by intro j u Y;rw[BU,Fo]at Y;obtain⟨y,Z,rfl⟩:=Y;obtain⟨h1,h2⟩:=h;have N:=(AP.1 Z).1;obtain⟨b,off,e,V,U⟩:=h2.resolve_left om;obtain rfl:=AK e;rw[Cf];exact U j y Z
theorem aak{P:Program}{α:Type}{enc:α->Value}(U:∀x,(enc x).oneCell'=true)(w:World)(base:Nat)(t ty e:TypeId)(i:TypeInfo)(z:Value)(bytes:Nat)(I:P.underlying t=some (.slice e))(D:P.info? e=some i)(s:i.zero=some z)
  (X:i.size=1) (C:i.bytes=bytes) (J:z.cells.size=1) (v:Value) (n:Nat) (xs:List Value) (Z:w.ownsRow base e 1 v n xs)
  (A:Option Addr) (m c:Nat) (ys:List α) (N:Sl1 enc w A m ys) (B:n+m<=maxLen) (Y:(n+m)*bytes<=140737488355328) (V:base<=w.heap.size) :
  ∃v' w',(Builtin.append_ #[t,t] ty #[v,.slice A m c]).run P w=.ok v' w'/\w'.ownsRow base e 1 v' (n+m) (xs++ys.map enc)/\w.grownBy w' v.ownBlock/\
   (v'.ownBlock=v.ownBlock∨v'.ownBlock=some w.heap.size):=by
 cases A with
 |some ad=>
  obtain⟨v',w',hr,h2,h3,_,h5⟩:=run_append_own_at (P:=P) w base t ty e i z 1 bytes I D s X C J (by decide) v n xs Z ad m c (ys.map enc) (by simp[N.1]) N.news (by intro u h;obtain⟨y,_,rfl⟩:=Be.1 h;exact U y) B Y V;exact⟨v',w',hr,h2,h3,h5⟩
 |none=>
  have hm:m=0:=N.2.elim id λ⟨b,off,e,_⟩=>by cases e
  subst hm;have j:ys=[]:=Bz N.1;subst j;refine⟨v,w,?_,by simpa using Z,World.grownBy.refl w _,.inl rfl⟩
  rcases Z.2 with⟨rfl,rfl⟩|⟨g,cap,a1,rfl,_,_,H,_⟩
  ·simp[Builtin.append_,run_underlying I,sizeOf,typeInfo,D,Builtin.lenOf,Builtin.firstCells]
  ·simp[Builtin.append_,run_underlying I,sizeOf,typeInfo,D,Builtin.lenOf,Builtin.firstCells,H,storeCells]
theorem Mf{P:Program}{w:World}{V:Array Oper}{rest:List Oper}{o:Oper}{a:Act}{Q:Exit->Act->World->Prop}(H:o.guard=none)(s x:Operand)(t:TypeId)
  (ho:o.op=.call {callee:=.builtin .append,args:=#[s,x],argTypes:=#[t,t]}) {α:Type} {enc:α->Value} (N:∀x,(enc x).oneCell'=true)
  (base:Nat) (e:TypeId) (i:TypeInfo) (z:Value) (bytes:Nat) (j:P.underlying t=some (.slice e)) (hi:P.info? e=some i) (B:i.zero=some z) (Y:i.size=1) (D:i.bytes=bytes) (J:z.cells.size=1)
  (v:Value) (n:Nat) (xs:List Value) (hs:a.eval s=v) (U:w.ownsRow base e 1 v n xs) (A:Option Addr) (m c:Nat) (ys:List α) (y:a.eval x=slice A m c) (I:Sl1 enc w A m ys)
  (C:n+m<=maxLen) (Z:(n+m)*bytes<=140737488355328) (X:base<=w.heap.size)
  (h:∀v' w',w'.ownsRow base e 1 v' (n+m) (xs++ys.map enc)->w.grownBy w' v.ownBlock->(v'.ownBlock=v.ownBlock∨v'.ownBlock=some w.heap.size)->wpList P V Q rest (a.put o.dst v') w'):wpList P V Q (o::rest) a w:=by
 refine wpList_plain H λK hK=>?_;obtain⟨v',w',hr,h2,h3,h4⟩:=aak (P:=P) N w base t o.type e i z bytes j hi B Y D J v n xs U A m c ys I C Z X;unfold Oper.wp execOp;simp only[ho,resolve,invoke,builtin,IN,IM,Result.andThen_ok,LI,BO,DE,hs,y,hr];exact hK _ _ (h v' w' h2 h3 h4)
theorem abv(a:Option Addr)(X ca:Nat)(xs:List Int)(w:World)(j:Bys w a X xs)(a1:X<=1000000) :Calls ZP 175 #[slice a X ca] w λe w'=>∃v,e=.returned v/\Ch w' w.heap.size v X (xs.map BE)/\Bt w w':=by
  obtain⟨i0,hi,D,H,I⟩:=Ve Gs;have HL:=AA j.len;go_enter func175,ntmps175;go_wp2
  go_loopw[3,4] (λo i wr=>∃k:Nat,k<=X/\i=int i64 k/\Ch wr w.heap.size o k ((xs.take k).map BE)/\Bt w wr) (λ_ i _=>X-(intOf i).toNat)
  case atStart=>exact⟨0,AR _,rfl,BN _ _ _ _,AH _ _⟩
  case round=>
    obtain⟨k,hk,rfl,Z,Y⟩:=hrel
    by_cases B:k<X
    ·
      obtain⟨x,J⟩:∃x,xs[k]?=some x:=⟨xs[k]'(by rw[HL.out];exact B),by simp⟩;have N:=j.below Y;have a2:=N.2 x (AX J);obtain⟨b,off,rfl,a6,s⟩:=N.1.2.resolve_left om;have A:=s k x J;have C:=AA (As J);clear s J
      go_wp2_with (first
        |(go_at_call 214;refine(akw _ _ om om).mono ?_;rintro e w' ⟨rfl,rfl⟩)
        | (at_builtin
           refine wpList_append_own_at _ rfl _ _ 32 rfl w.heap.size 5 i0 (.int .u8 0) 1 1 underlying32 hi D H I rfl (by decide) _ _ _ rfl (Z.alloc _) ⟨wr.heap.size,0,none⟩ 1 1 [.int .u8 (BE x)] rfl rfl (cell_one_new _ _ _) (by simp[Value.oneCell']) (by unfold maxLen;omega) om (by have:=Y.size;simp;omega) ?_;intro v' w5 V U y a7))
      have z:=aa7 (base:=w.heap.size) Y Z U
      go_roundw
      case rel=>exact⟨k+1,by omega,by go_num,by unfold Ch;rw[C.out,Aj,Aj];exact V,z⟩
      case measure=>simp[intOf];omega
    ·
      obtain rfl:k=X:=by omega
      go_wp2;go_ret;refine⟨_,rfl,?_,Y⟩;have h:=Z;rw[Ap (by rw[HL.out];exact AC _)]at h;exact h
theorem aea(a:Option Addr)(X ca:Nat)(xs:List Int)(w:World)(j:Bys w a X xs)(a1:X<=1000000) :Calls ZP 187 #[slice a X ca] w λe w'=>∃v,e=.returned v/\Ch w' w.heap.size v X (xs.map BE)/\Bt w w':=by
  obtain⟨i0,hi,D,H,I⟩:=Ve Gs;have HL:=AA j.len;go_enter func187,ntmps187;go_wp2
  go_loopw[3,8] (λo i wr=>∃k:Nat,k<=X/\i=int i64 k/\Ch wr w.heap.size o k ((xs.take k).map BE)/\Bt w wr) (λ_ i _=>X-(intOf i).toNat)
  case atStart=>exact⟨0,AR _,rfl,BN _ _ _ _,AH _ _⟩
  case round=>
    obtain⟨k,hk,rfl,Z,Y⟩:=hrel
    by_cases B:k<X
    ·
      obtain⟨x,J⟩:∃x,xs[k]?=some x:=⟨xs[k]'(by rw[HL.out];exact B),by simp⟩;have N:=j.below Y;have a2:=N.2 x (AX J);obtain⟨b,off,rfl,a6,s⟩:=N.1.2.resolve_left om;have A:=s k x J;have C:=AA (As J);clear s J
      go_wp2_with (first
        |(go_at_call 230;refine(ads _ _ om om).mono ?_;rintro e w' ⟨rfl,rfl⟩)
        | (at_builtin
           refine wpList_append_own_at _ rfl _ _ 32 rfl w.heap.size 5 i0 (.int .u8 0) 1 1 underlying32 hi D H I rfl (by decide) _ _ _ rfl (Z.alloc _) ⟨wr.heap.size,0,none⟩ 1 1 [.int .u8 (BE x)] rfl rfl (cell_one_new _ _ _) (by simp[Value.oneCell']) (by unfold maxLen;omega) om (by have:=Y.size;simp;omega) ?_;intro v' w5 V U y a7))
      have z:=aa7 (base:=w.heap.size) Y Z U
      go_roundw
      case rel=>exact⟨k+1,by omega,by go_num,by unfold Ch;rw[C.out,Aj,Aj];exact V,z⟩
      case measure=>simp[intOf];omega
    ·
      obtain rfl:k=X:=by omega
      go_wp2;go_ret;refine⟨_,rfl,?_,Y⟩;have h:=Z;rw[Ap (by rw[HL.out];exact AC _)]at h;exact h
theorem JB(x:Int):(Value.int .u8 x).oneCell'=true:=rfl
theorem ai8(fold:Bool)(a:Option Addr)(X H:Nat)(xs:List Int)(w:World)(D:Bys w a X xs)(I:X<=1000000) :Calls ZP 134 #[bool fold,slice a X H] w λe w'=>∃v,e=.returned v/\Ch w' w.heap.size v X (AO fold xs)/\Bt w w':=by
 obtain⟨C,B,J,N,U⟩:=Ve Gs
 cases fold
 ·go_enter func134,ntmps134
  go_wp2_with (at_builtin;refine Mf rfl _ _ 32 rfl JB w.heap.size 5 C (.int .u8 0) 1 underlying32 B J N U rfl _ 0 [] rfl (BN _ _ _ _) a X H xs rfl D.1 (by unfold maxLen;omega) om (AC _) ?_;intro v' y Z Y z)
  go_ret;refine⟨_,rfl,?_,(AH _ _).grown Y (AC _) (λk e=>by cases e)⟩
  simpa[AO,Ch]using Z
 ·go_enter func134,ntmps134
  go_wp2_with fail
  refine(aea a X H xs w D I).mono ?_;rintro e x ⟨v,rfl,V,A⟩;go_wp2;go_ret;exact⟨_,rfl,V,A⟩
theorem ags(fold:Bool)(a:Option Addr)(V C:Nat)(xs:List Int)(w:World)(B:Bys w a V xs)(H:V<=1000000) :Calls ZP 124 #[bool fold,slice a V C] w λe w'=>∃v,e=.returned v/\Ch w' w.heap.size v V (AO fold xs)/\Bt w w':=by
 obtain⟨A,z,I,J,N⟩:=Ve Gs
 cases fold
 ·have D:=B.below ((AH _ _).alloc (AC _) (.cells #[] 5));have Z:Ch (w.alloc (.cells #[] 5)) w.heap.size (slice (some ⟨w.heap.size,0,none⟩) 0 0) 0 []:=World.ownsRow_lit w #[] 0 (AC _) (AR _) rfl;go_enter func124,ntmps124
  go_wp2_with (at_builtin;refine Mf rfl _ _ 32 rfl JB w.heap.size 5 A (.int .u8 0) 1 underlying32 z I J N rfl _ 0 [] rfl Z a V C xs rfl D.1 (by unfold maxLen;omega) om sm ?_;intro v' s Y X x)
  go_ret;refine⟨_,rfl,?_,((AH _ _).alloc (AC _) _).grown X sm (λk e=>by cases e;exact AC _)⟩
  simpa[AO,Ch]using Y
 ·go_enter func124,ntmps124
  go_wp2_with fail
  refine(abv a V C xs w B H).mono ?_;rintro e j ⟨v,rfl,U,y⟩;go_wp2;go_ret;exact⟨_,rfl,U,y⟩
theorem adc{xs ys:List Int}(X:∀x∈xs,0<=x/\x<=255)(Y:∀x∈ys,0<=x/\x<=255)(h1:(strOfNums xs).data.toList=(strOfNums ys).data.toList):xs=ys:=by
 simp only[strOfNums_data]at h1;have h2:=congrArg (List.map λb:UInt8=>(b.toNat:Int)) h1;simp only[List.map_map]at h2;have f:∀l:List Int,(∀x∈l,0<=x/\x<=255)->l.map ((λb:UInt8=>(b.toNat:Int)) ∘ λn=>UInt8.ofNat n.toNat)=l:=by
  intro l V
  conv=>rhs;rw[<-List.map_id l]
  refine OJ λx Z=>?_;have:=V x Z;simp;omega
 rwa[f xs X,f ys Y]at h2
theorem Gh{w:World}{a:Option Addr}{len:Nat}{xs:List Int}(h:Bys w a len xs)(cap:Nat) :Sem.run ZP (convert 32 9 (slice a len cap)) w=.ok (.string (strOfNums xs)) w:=by
 obtain⟨⟨h1,h2⟩,J⟩:=h
 by_cases h0:len=0
 ·subst h0;have Z:xs=[]:=Bz h1;subst Z
  cases a with
  |none=>exact run_convert_bytes_nil w _ _ underlying32 underlying5 0 cap _ underlying9
  |some ad=>
   rw[run_convert_bytes_string w 32 9 _ _ 0 cap underlying32 underlying5 underlying9];have X:(loadCells ad 0).run ZP w=.ok (([]:List Int).map (Value.int .u8)).toArray w:=by simpa using run_loadCells_list (P:=ZP) w ad [] (λj v V=>by simp at V)
   rw[run_bytesToString w ad 0 cap [] X]
   rfl
 ·obtain⟨b,off,rfl,Y,U⟩:=h2.resolve_left h0;refine run_convert_bytes_arg w _ _ underlying32 underlying5 b off len cap xs h1 (λi N=>?_) _ underlying9;rw[U i (xs[i]'om) (Ar _)];simp[List.getD,Ar (show i<xs.length by omega)]
theorem Ms{xs ys:List Int}(Y:∀x∈xs,0<=x/\x<=255)(Z:∀x∈ys,0<=x/\x<=255):((strOfNums xs).toList==(strOfNums ys).toList)=decide (xs=ys):=by
 by_cases h:xs=ys
 ·subst h;simp
 ·have:(strOfNums xs).toList≠(strOfNums ys).toList:=λe=>h (adc Y Z (by rwa[ByteArray.toList_eq,ByteArray.toList_eq]at e));simp[h,this]
theorem ae1(a:Option Addr)(Z N:Nat)(xs:List Int)(w:World)(U:Bys w a Z xs)(V:Z<=1000000) :Calls ZP 175 #[slice a Z N] w λe w'=>∃X c1,e=.returned (slice X Z c1)/\Bys w' X Z (xs.map BE)/\Bt w w':=
 (abv a Z N xs w U V).mono λe w' ⟨v,H,Y,D⟩=>by obtain⟨X,c1,rfl,_,h⟩:=KL Y (λx I=>by obtain⟨y,J,rfl⟩:=Be.1 I;exact JW (U.2 y J));exact⟨X,c1,H,h,D⟩
theorem abK(fold:Bool)(a b:Option Addr)(X ca Y h:Nat)(xs ys:List Int)(w:World)(H:Bys w a X xs)(hB:Bys w b Y ys)(C:X<=1000000)(D:Y<=1000000) :Calls ZP 161 #[bool fold,slice a X ca,slice b Y h] w λe w'=>e=.returned (bool (CH fold xs ys))/\Bt w w':=by
 cases fold
 ·have c1:=Gh H;have c2:=Gh hB;go_enter func161,ntmps161;go_wp2;go_ret;exact⟨by simp[CH,AO,Ms H.2 hB.2],AH _ _⟩
 ·have J:Bys w.drew a X xs:=H;have z:Bys w.drew b Y ys:=hB;go_enter func161,ntmps161;go_wp2
  go_region_with (first
   |(go_at_call 175;refine(ae1 a X ca xs w.drew J C).mono ?_;rintro e w1 ⟨a1,c1,rfl,I,Z⟩;have a8:=Gh I;have s:=z.below Z;clear J)
   |(go_at_call 175;refine(ae1 b Y h ys w1 s D).mono ?_;rintro e w2 ⟨a2,c2,rfl,j,N⟩;have a7:=Gh (I.below N);have a6:=Gh j))
  all_goals
   go_wp2;go_ret;have U:∀x∈xs.map BE,0<=x/\x<=255:=λx U=>by obtain⟨y,V,rfl⟩:=Be.1 U;exact JW (H.2 y V)
   have V:∀x∈ys.map BE,0<=x/\x<=255:=λx U=>by obtain⟨y,V,rfl⟩:=Be.1 U;exact JW (hB.2 y V)
   have A:Bt w w.drew:=⟨rfl,rfl,rfl,AC _,λ_ _=>rfl⟩;have B:Bt w w2:=A.trans (Z.trans (N.mono Z.size));refine⟨?_,B⟩;show Ending.returned (bool ((strOfNums (xs.map BE)).toList==(strOfNums (ys.map BE)).toList))=_;rw[Ms U V]
   rfl
theorem ahF(fold:Bool)(a b:Option Addr)(U y Y cb:Nat)(xs:List Int)(wss:La)(w:World)(hA:Bys w a U xs)(H:U<=1000000)(hB:Wds w b Y wss)(a2:Y<=1000000)(hM:∀x∈wss,x.length<=1000000) :Calls ZP 123 #[bool fold,slice a U y,slice b Y cb] w λe w'=>e=.returned (int i64 (BV fold xs wss))/\Bt w w':=by
 have s:=AA hB.len;go_enter func123,ntmps123;go_wp2
 go_loopw[7] (λi wr=>∃k:Nat,k<=Y/\i=int i64 k/\Hid (BV fold xs (wss.take k)=-1)/\Bt w wr) (λi _=>Y-(intOf i).toNat)
 case atStart=>exact⟨0,AR _,rfl,by simp[Hid,acn],AH _ _⟩
 case round=>
  obtain⟨k,hk,rfl,A,Z⟩:=hrel;have B:=hA.below Z;have C:=hB.below Z
  by_cases I:k<Y
  ·obtain⟨bb,off,a',l,c,x,rfl,a6,D,J,z,a1⟩:=C.at_ I;have N:l<=1000000:=by have:=Ff hM J;rw[z.len]at this;exact this
   go_wp2_with fail
   refine(abK fold a a' U y l c xs x wr B z H N).mono ?_;rintro e j ⟨rfl,hb⟩;have X:Bt w j:=Z.trans (hb.mono Z.size)
   cases e:CH fold xs x with
   |true=>
    have V:Hid (BV fold xs wss=k):=by have h:=acK (rest:=wss.drop (k+1)) A e;rw[<-Mu J]at h;rw[Hid,h,Ag,s.out];omega
    go_wp2;go_ret;exact⟨by rw[V.out];rfl,X⟩
   |false=>
    have V:Hid (BV fold xs (wss.take (k+1))=-1):=by rw[As J];exact aai A e
    go_wp2
    go_roundw
    case rel=>exact⟨k+1,by omega,by go_num,V,X⟩
    case measure=>simp[intOf];omega
  ·obtain rfl:k=Y:=by omega
   have V:Hid (BV fold xs wss=-1):=by
    have h:=A
    rwa[Ap (by rw[s.out];exact AC _)]at h
   go_wp2;go_ret;exact⟨by rw[V.out];rfl,Z⟩
def Dt:List Int->List (Bool×Int)
 |[]=>[]
 |c::cs=>(true,c)::cs.map (λc=>(false,c))
def Ad(fold:Bool)(wss:La):List (Bool×Int):=wss.flatMap λw=>Dt (AO fold w)
theorem Ks(ys:List Int):(Dt ys).length=ys.length:=by cases ys<;>simp[Dt]
theorem aja{ys:List Int}{i:Nat}{c:Int}(h:ys[i]?=some c):(Dt ys)[i]?=some (((i:Int)==0),c):=by
 cases ys with
 |nil=>simp at h
 |cons y ys=>
  cases i with
  |zero=>simp at h;simp[Dt,h]
  |succ i=>
   simp at h;simp[Dt,h];omega
theorem abQ(fold:Bool)(wss:La)(x:List Int):Ad fold (wss++[x])=Ad fold wss++Dt (AO fold x):=by simp[Ad]
theorem aeM(fold:Bool)(wss:La){k:Nat}{x:List Int}(h:wss[k]?=some x):(Ad fold (wss.take k)).length+x.length<=(Ad fold wss).length:=by
 have e:=Mu h;have Z:Ad fold wss=Ad fold (wss.take k)++(Dt (AO fold x)++Ad fold (wss.drop (k+1))):=by
  conv=>lhs;rw[e]
  simp[Ad]
 rw[Z];simp[Ks,Ew]
theorem amF{fold:Bool}{xs:List Int}{i:Nat}{c:Int}(h:xs[i]?=some c):(AO fold xs)[i]?=some (if fold then BE c else c):=by rw[Fg,BU,h];rfl
structure NSt where
 f:Int×Int->Option Int
 many:Int
 node:Int
def IA(s:NSt)(p:Bool×Int):NSt:=
 let node:=if p.1 then 0 else s.node
 match s.f (node,p.2)with
 |some m=>{s with node:=m}
 |none=>{f:=λq=>if q=(node,p.2) then some s.many else s.f q,many:=s.many+1,node:=s.many}
def Ae(l:List (Bool×Int)):NSt:=l.foldl IA ⟨λ_=>none,1,0⟩
theorem NV(l:List (Bool×Int))(p:Bool×Int):Ae (l++[p])=IA (Ae l) p:=by simp[Ae,FI]
theorem aas{s:NSt}{p:Bool×Int}{m:Int}(h:s.f (if p.1 then 0 else s.node,p.2)=some m):IA s p={s with node:=m}:=by unfold IA;simp only[h]
theorem abu{s:NSt}{p:Bool×Int}(h:s.f (if p.1 then 0 else s.node,p.2)=none):IA s p={f:=λq=>if q=(if p.1 then 0 else s.node,p.2) then some s.many else s.f q,many:=s.many+1,node:=s.many}:=by unfold IA;simp only[h]
theorem anV(l:List (Bool×Int)):1<=(Ae l).many/\(Ae l).many<=l.length+1/\0<=(Ae l).node/\(Ae l).node<=l.length/\∀q m,(Ae l).f q=some m->0<=m/\m<=l.length:=by
 obtain⟨n,V⟩:∃n,l.length=n:=⟨_,rfl⟩
 induction n generalizing l with
 |zero=>
  obtain rfl:=Bz V;simp[Ae]
 |succ n ih=>
  obtain⟨Y,x,rfl⟩:∃Y x,l=Y++[x]:=⟨l.dropLast,l.getLast (by intro h;simp[h]at V),(Em _).symm⟩;obtain⟨h1,h2,h3,h4,h5⟩:=ih Y (by simpa using V);rw[NV];unfold IA;simp only[List.length_append,Ao,Bw]
  cases e:(Ae Y).f (if x.1=true then 0 else(Ae Y).node,x.2)with
  |some m=>
   have:=h5 _ _ e;refine⟨h1,by dsimp only;omega,this.1,by dsimp only;omega,λq k Z=>?_⟩;have:=h5 q k Z;omega
  |none=>
   refine⟨by dsimp only;omega,by dsimp only;omega,by dsimp only;omega,by dsimp only;omega,λq k Z=>?_⟩;dsimp only at Z
   by_cases X:q=(if x.1=true then 0 else(Ae Y).node,x.2)
   ·rw[Lc X]at Z;have:=AK Z;omega
   ·rw[Lb X]at Z;have:=h5 q k Z;omega
def Kq(c:Int×Int×Int×Int)(x:List Int):Int×Int×Int×Int:=
 (c.1+1,c.2.1+x.length,max c.2.2.1 x.length,if c.1=0∨(x.length:Int)<c.2.2.2 then(x.length:Int) else c.2.2.2)
def cnt(wss:La):Int×Int×Int×Int:=wss.foldl Kq (0,0,0,0)
theorem ad5(l:La)(x:List Int):cnt (l++[x])=Kq (cnt l) x:=by simp[cnt,FI]
theorem aoM{M:Nat}(l:La)(h:∀x∈l,x.length<=M):(cnt l).1=l.length/\0<=(cnt l).2.1/\(cnt l).2.1<=l.length*(M:Int):=by
 obtain⟨n,Y⟩:∃n,l.length=n:=⟨_,rfl⟩
 induction n generalizing l with
 |zero=>
  obtain rfl:=Bz Y;simp[cnt]
 |succ n ih=>
  obtain⟨Z,x,rfl⟩:∃Z x,l=Z++[x]:=⟨l.dropLast,l.getLast (by intro h;simp[h]at Y),(Em _).symm⟩;obtain⟨h1,h2,h3⟩:=ih Z (λy X=>h y (by simp[X])) (by simpa using Y);have V:=h x sm;rw[ad5];have e:((Z++[x]).length:Int)*(M:Int)=Z.length*(M:Int)+M:=by rw[List.length_append,Ao,Bw,LK,Jr];simp
  rw[e];simp only[Kq];refine⟨by rw[h1];simp,by omega,by omega⟩
def Ku(W Y Z Sh N:Int):Nat->Bool
 |0=>decide (W=0)
 |1=>decide (W > 64)
 |2=>decide (Sh=0)
 |3=>decide (Z > 32)
 |4=>decide (Y > 600)
 |_=>decide (N > 400)
def JX(f:Nat->Bool):Int:=match (List.range 6).find? f with|some k=>50+k|none=>0
theorem ae6{f:Nat->Bool}{k:Nat}(hk:k<6)(h:∀j,j<k->f j=false)(Z:f k=true):JX f=50+k:=by
 have:(List.range 6).find? f=some k:=by
  have:k=0∨k=1∨k=2∨k=3∨k=4∨k=5:=by omega
  rcases this with rfl|rfl|rfl|rfl|rfl|rfl<;>simp[List.range,List.range.loop,List.find?,Z,h]
 simp[JX,this]
theorem acT{f:Nat->Bool}(h:∀j,j<6->f j=false):JX f=0:=by simp[JX,List.range,List.range.loop,List.find?,h]
def Ey(fold:Bool)(wss:La):Int:=JX (Ku (cnt wss).1 (cnt wss).2.1 (cnt wss).2.2.1 (cnt wss).2.2.2 (Ae (Ad fold wss)).many)
section
attribute[local go_sem] Oper.semAt_some
attribute[local simp] Ak Al
attribute[local go_sem] Ak Al
theorem ac6(fold:Bool)(a:Option Addr)(Z Y:Nat)(w:World) :Calls ZP 293 #[.bool fold,.slice a Z Y] w λe w'=>e=.returned (.func (.func 297) #[] #[.pointer (some ⟨w.heap.size+1,0,none⟩),.pointer (some ⟨w.heap.size,0,none⟩)])/\
   w'=(w.alloc (.cells #[bool fold] 4)).alloc (.cells #[slice a Z Y] 22):=by
 go_enter func293,ntmps293;go_wp2;go_ret;exact⟨rfl,rfl⟩
abbrev BgP:={p:Bool×Int // 0<=p.2/\p.2<=255}
def Nt(p:BgP):Array Value:=#[bool p.1.1,.int .u8 p.1.2]
theorem aiE(fold:Bool)(a:Option Addr)(H ca h p2:Nat)(wss:La)(n:Nat)(w0 w:World)(S:Nat->Prop)(hA:Wds w0 a H wss)(ag:Bt w0 w)(hS:∀k,k<w0.heap.size->S k)(af:S h)(ae:S p2)(ad:∀k,S k->k<w.heap.size)
  (ak:H<=1000000) (hM:∀x∈wss,x.length<=1000000)
  (h1:w.heap[h]?=some (.cells #[slice a H ca] 22 (0,0))) (h2:w.heap[p2]?=some (.cells #[bool fold] 4 (0,0))) :
  SeqStopsK Fence.wide n ZP 297 #[pointer (some ⟨h,0,none⟩),pointer (some ⟨p2,0,none⟩)] Nt (Cc S) (λzs=>zs.map Subtype.val=Ad fold wss) (λ_=>True) ((Ad fold wss).length+1) w:=by
 intro l J Jx W hW hJ ao hY h0;have a2:Cc S w W:=Ke hW ad;have cells:∀v:World,Cc S w v->v.cell? ⟨h,0,none⟩=some (slice a H ca)/\v.cell? ⟨p2,0,none⟩=some (bool fold):=by intro v hv;have e1:v.heap[h]?=_:=(hv h af).trans h1;have e2:v.heap[p2]?=_:=(hv p2 ae).trans h2;simp[cell?,e1,e2]
 have a6:∀v:World,Cc S w v->kept w0 v:=λv hv k hk=>(hv k (hS k hk)).trans (ag.block k hk);have HL:=AA hA.len;have ah:=AA hA;clear hA;obtain⟨c1,c2⟩:=cells W a2;refine callsIn_of_wp func297 rfl trivial ?_ rfl;simp only[ntmps297,Cw,Ao,Bw,Nat.reduceAdd,Nat.reduceSub,Dd,Dc,DX,Da,Av,CT]
 gi_wp2
 clear c1 c2
 gi_loopw[10] (λi wr=>∃(k:Nat)(Z:List BgP),k<=H/\i=int i64 k/\Hid (Z.map Subtype.val=Ad fold (wss.take k))/\J Z wr/\Cc S w wr) (λi _=>H-(intOf i).toNat)
 case atStart=>exact⟨0,[],AR _,rfl,by simp[Hid,Ad],h0,a2⟩
 case round=>
  obtain⟨k,Z,hk,rfl,D,B,I⟩:=hrel;obtain⟨c1,c2⟩:=cells wr I
  by_cases aa:k<H
  ·obtain⟨bb,off,a',l',c,x,rfl,ac,Y,hx,hX,aj⟩:=ah.out.at_ aa;have z:wr.cell? ⟨bb,off+k,none⟩=some (slice a' l' c):=(Kd (a6 wr I) (p:=⟨bb,off+k,none⟩) ac).trans Y;have ai:l'<=1000000:=by have:=Ff hM hx;rw[hX.len]at this;exact this
   have HX:=AA hx;have N:=AA hX;clear Y hx hX
   gi_wp2
   gi_loopw[16] (λi wi=>∃(j:Nat)(Z:List BgP),j<=l'/\i=int i64 j/\Hid (Z.map Subtype.val=Ad fold (wss.take k)++(Dt (AO fold x)).take j)/\J Z wi/\Cc S w wi) (λi _=>l'-(intOf i).toNat)
   case atStart=>exact⟨0,Z,AR _,rfl,by simpa[Hid]using D,B,I⟩
   case round=>
    clear D B I c1 c2 z;obtain⟨j,Z,al,rfl,D,B,U⟩:=hrel;obtain⟨c1,c2⟩:=cells wr U
    by_cases a7:j<l'
    ·obtain⟨y,hy⟩:∃y,x[j]?=some y:=⟨x[j]'(by rw[N.out.len];exact a7),by simp⟩;obtain⟨by_,oy,rfl,ab,a1⟩:=N.out.1.2.resolve_left om;have X:=N.out.2 y (AX hy);have a8:=JW X;have am:wr.cell? ⟨by_,oy+j,none⟩=some (.int .u8 y):=(Kd (a6 wr U) (p:=⟨by_,oy+j,none⟩) ab).trans (a1 j y hy);have V:Z.length<(Ad fold wss).length+1:=by
      have h1:=congrArg List.length D.out;have h2:=aeM fold wss HX.out;simp[Ks,Ew]at h1;have:=N.out.len;omega
     have HB:=AA (aja (amF (fold:=fold) hy));clear hy a1
     cases fold
     ·obtain⟨fn,tmps,assign,body,C,s⟩:=hY Z ⟨(((j:Int)==0),y),X⟩ wr B V;have HS:Hid ((Z++[(⟨(((j:Int)==0),y),X⟩:BgP)]).map Subtype.val=Ad false (wss.take k)++(Dt (AO false x)).take (j+1)):=by
       rw[As HB.out,<-CE,<-D.out];simp[Hid]
      dsimp only[Nt]at C
      gi_wp2
      refine s.mono ?_;rintro e W4 (⟨rfl,hJ4,hk4⟩|⟨rfl,hJx4⟩)
      ·gi_wp2
       go_roundw
       case rel=>exact⟨j+1,_,by omega,by go_num,HS,hJ4,GD U hk4⟩
       case measure=>simp[intOf];omega
      ·gi_wp2
       refine Vf (results_none rfl _ _ _) rfl ?_;exact⟨⟨_,rfl⟩,.inr ⟨_,trivial,hJx4⟩⟩
     ·obtain⟨fn,tmps,assign,body,C,s⟩:=hY Z ⟨(((j:Int)==0),BE y),a8⟩ wr B V;have HS:Hid ((Z++[(⟨(((j:Int)==0),BE y),a8⟩:BgP)]).map Subtype.val=Ad true (wss.take k)++(Dt (AO true x)).take (j+1)):=by
       rw[As HB.out,<-CE,<-D.out];simp[Hid]
      dsimp only[Nt]at C
      gi_wp2_with fail
      refine(callsIn_wide.2 (ads y wr X.1 X.2)).mono ?_;rintro e W3 ⟨rfl,rfl⟩
      gi_wp2
      refine s.mono ?_;rintro e W4 (⟨rfl,hJ4,hk4⟩|⟨rfl,hJx4⟩)
      ·gi_wp2
       go_roundw
       case rel=>exact⟨j+1,_,by omega,by go_num,HS,hJ4,GD U hk4⟩
       case measure=>simp[intOf];omega
      ·gi_wp2
       refine Vf (results_none rfl _ _ _) rfl ?_;exact⟨⟨_,rfl⟩,.inr ⟨_,trivial,hJx4⟩⟩
    ·obtain rfl:j=l':=by omega
     gi_wp2
     go_roundw
     case rel=>
      refine⟨k+1,Z,by omega,by go_num,?_,B,U⟩;have A:(Dt (AO fold x)).take j=Dt (AO fold x):=Ap (by rw[Ks,Ew,N.out.len];exact AC _);rw[Hid,D.out,As HX.out,abQ,A]
     case measure=>simp[intOf];omega
  ·obtain rfl:k=H:=by omega
   gi_wp2
   go_end0
   refine⟨⟨_,rfl⟩,.inl ⟨Z,?_,B⟩⟩;show Z.map Subtype.val=Ad fold wss;rw[D.out,Ap (by have:=HL.out;omega)]
end
section
open Go.RowKit Go.Sort Go.Maps
attribute[local go_sem] Oper.semAt_some
attribute[local simp] Ak Al
attribute[local go_sem] Ak Al
theorem akO:laidOutB ZP=true:=by kernel_rfl
theorem Ih:Keyed ZP 394:=Keyed.of_law (deep_law_laid akO (m:=ZP.types.size+1) (Lj kr) (Lj kr) kr kr)
theorem Me(w:World):(zeroValue 3).run ZP w=.ok (int i64 0) w:=by kernel_rfl
theorem apg(n c:Int)(I:-9223372036854775808<=n/\n<=9223372036854775807)(H:0<=c/\c<=255):∃X,keyOf ZP 394 (.agg #[int i64 n,.int .u8 c])=some X:=by
 have hk:ZP.keyType 394=true:=by kernel_rfl
 have h0:0<ZP.types.size:=Lj kr;obtain⟨m,V⟩:∃m,ZP.types.size+1=m+1+1:=⟨ZP.types.size-1,by omega⟩;have J:ZP.cellsOf 394=2:=by kernel_rfl
 have N:ZP.cellsOf 3=1:=by kernel_rfl
 have U:ZP.cellsOf 5=1:=by kernel_rfl
 have Y:(Lit.int .i64 n).wf=true:=by simp[Lit.wf,IntKind.min,IntKind.max,IntKind.signed,IntKind.bits];omega
 have Z:(Lit.int .u8 c).wf=true:=by simp[Lit.wf,IntKind.min,IntKind.max,IntKind.signed,IntKind.bits];omega
 unfold keyOf;rw[underlying394,V];refine⟨.string (keyBytes [.int .i64 n,.int .u8 c]),?_⟩;simp[hk,Value.formed,Value.cells,Program.keyLits,underlying394,underlying3,underlying5,J,N,U,Y,Z]
def KM(D:DataW Unit)(f:Int×Int->Option Int):Prop:=IsMap D/\∀n c Z,0<=n->n<=2000000->0<=c->c<=255->keyOf ZP 394 (.agg #[int i64 n,.int .u8 c])=some Z->
 Maps.has D Z=(f (n,c)).isSome/\∀m,f (n,c)=some m->D.atKey Z (.lit (.int .i64 0))=.lit (.int .i64 m)
theorem KM.start:KM (.map []) (λ_=>none):=⟨isMap_empty,λn c Z _ _ _ _ _=>⟨rfl,λm h=>by cases h⟩⟩
theorem KM.put{D:DataW Unit}{f:Int×Int->Option Int}(h:KM D f){n c m:Int}{U:Lit}(hk:keyOf ZP 394 (.agg #[.int .i64 n,.int .u8 c])=some U) :KM (D.put U (.lit (.int .i64 m))) (λq=>if q=(n,c) then some m else f q):=by
 have X:=Ih.key hk;refine⟨h.1.put _ _,λJ H Y C a2 a3 a4 Z=>?_⟩
 by_cases e:Y=U
 ·subst e;have:=Ih.inj Z hk;simp only[Value.agg.injEq,Array.mk.injEq,MY,Value.int.injEq,true_and,and_true]at this;obtain⟨rfl,rfl⟩:=this;refine⟨by rw[has_put_same h.1 X];simp,λk V=>?_⟩;simp only[if_true]at V;obtain rfl:=AK V;rw[atKey_put_same h.1 X]
 ·have N:¬((J,H)=(n,c)):=by
   intro I;simp only[Jk]at I;obtain⟨rfl,rfl⟩:=I;rw[hk]at Z;exact e (AK Z).symm
  simp only[Lb N];obtain⟨h1,h2⟩:=h.2 J H Y C a2 a3 a4 Z;refine⟨by rw[has_put_other e,h1],λk V=>?_⟩;rw[atKey_put_other e,h2 k V]
theorem JQ{W:World}{b n g:Nat}{D:DataW Unit}{P:Program}{k:TypeId}{R:Value->Option (DataW Unit×List MemPlace)}(h:W.ownsMap P k R b n D)(Z:b≠g)(u:Value):(W.setCell ⟨g,0,none⟩ u).ownsMap P k R b n D:=h.kept (grownBy_setCell' W g u) (λe=>Z (by injection e))
theorem anW{B b:Nat}{P:Program}{k:TypeId}{R:Value->Option (DataW Unit×List MemPlace)}(V:b<B){β:Type}(f:β->Nat)(p:β->DataW Unit->Prop):OwnFrom B (λs W=>∃D,W.ownsMap P k R b (f s) D/\p s D):=λs A C row ⟨D,h,Y⟩ X Z=>⟨D,h.kept X (λe=>by have:=(Z _ e.symm).1;omega),Y⟩
theorem Lr{W:World}{k:Nat}(h:W.heap.size=k)(t:TypeId)(v:Value):Boxed (W.alloc (.cells #[v] t)) k t v:=h ▸ Boxed.new W t v
theorem JU(W:World)(g:Nat)(u:Value):W.grownBy (W.setCell ⟨g,0,none⟩ u) (some g):=grownBy_setCell' W g u
structure Tn(n:Nat)(W W':World):Prop where
 os:W'.os=W.os
 tape:W'.tape=W.tape
 output:W'.output=W.output
 size:W.heap.size<=W'.heap.size
 block:∀k,k<W.heap.size->k<n∨n+1+1+1<k∨k=n+1->W'.heap[k]?=W.heap[k]?
theorem Tn.refl(n:Nat)(W:World):Tn n W W:=⟨rfl,rfl,rfl,AC _,λ_ _ _=>rfl⟩
theorem Tn.grown{n:Nat}{A B C:World}{row:Option Nat}(h:Tn n A B)(Z:B.grownBy C row)(Y:∀k,row=some k->k=n∨k=n+1+1∨k=n+1+1+1):Tn n A C:=⟨Z.os.trans h.os,Z.tape.trans h.tape,Z.output.trans h.output,AS h.size Z.size,λk hk ho=>(Z.block k (Af hk h.size) (λe=>by have:=Y k e.symm;omega)).trans (h.block k hk ho)⟩
theorem Tn.below{n:Nat}{w A B:World}(h:Tn n A B)(Z:Below n w A)(Y:n<=A.heap.size):Below n w B:=⟨h.os.trans Z.os,h.tape.trans Z.tape,h.output.trans Z.output,AS Z.size h.size,λk hk=>(h.block k (Af hk Y) (.inl hk)).trans (Z.block k hk)⟩
theorem Tn.keeps{n B:Nat}{A C:World}(h:Tn n A C)(hB:n+1+1+1<B):KeepsFrom B A C:=⟨h.size,λk o hk ho _=>(h.block k (AD.1 ho).1 (.inr (.inl om))).trans ho⟩
theorem aks(fold:Bool)(a:Option Addr)(la ca:Nat)(wss:La)(w:World)(hA:Wds w a la wss)(am:la<=1000000)(hM:∀x∈wss,x.length<=1000000)(hT:(Ad fold wss).length<=1000000) :Calls ZP 286 #[bool fold,slice a la ca] w λe w'=>e=.returned (int i64 (Ae (Ad fold wss)).many)/\Bt w w':=by
  have av:=@run_makeMap ZP;refine Hc func286 rfl ?_;simp only[ntmps286,Cw,Ao,Bw,Nat.reduceAdd,Nat.reduceSub,Dd,Dc,DX,Da,Av,CT]
  go_wp2_with (go_at_call 293;refine(ac6 _ _ _ _ _).mono ?_;rintro e w' ⟨rfl,rfl⟩)
  obtain⟨W3,J⟩:∃W3,W3=((((((w.alloc (.map #[] 0)).alloc (.cells #[.map (some w.heap.size)] 389)).alloc (.cells #[int i64 1] 3)).alloc (.cells #[int i64 0] 3)).alloc (.cells #[bool fold] 4)).alloc (.cells #[slice a la ca] 22)):=⟨_,rfl⟩;rw[<-J];have m0:W3.ownsMap ZP 394 (plainElem ZP 3) w.heap.size 0 (.map []:DataW Unit):=by rw[J];exact(((((MQ w ZP 394 (plainElem ZP 3)).alloc _).alloc _).alloc _).alloc _).alloc _
  have b1:Boxed W3 (w.heap.size+1) 389 (.map (some w.heap.size)):=by rw[J];exact((((Lr sm _ _).alloc _).alloc _).alloc _).alloc _
  have b2:Boxed W3 (w.heap.size+1+1) 3 (int i64 1):=by rw[J];exact(((Lr sm _ _).alloc _).alloc _).alloc _
  have b3:Boxed W3 (w.heap.size+1+1+1) 3 (int i64 0):=by rw[J];exact((Lr sm _ _).alloc _).alloc _
  have b4:Boxed W3 (w.heap.size+1+1+1+1) 4 (bool fold):=by rw[J];exact(Lr sm _ _).alloc _
  have b5:Boxed W3 (w.heap.size+1+1+1+1+1) 22 (slice a la ca):=by rw[J];exact Lr sm _ _
  have ak:Bt w W3:=by rw[J];exact((((((AH _ _).alloc (AC _) _).alloc sm _).alloc (by simp;omega) _).alloc (by simp;omega) _).alloc (by simp;omega) _).alloc (by simp;omega) _
  have au:W3.heap.size=w.heap.size+1+1+1+1+1+1:=by rw[J];simp
  clear J
  apply KI rfl (enters_of func297 kr rfl) (aiE fold a la ca (w.heap.size+1+1+1+1+1) (w.heap.size+1+1+1+1) wss 8 w W3 (λk=>k<w.heap.size∨k=w.heap.size+1+1+1+1+1∨k=w.heap.size+1+1+1+1) hA ak (λk hk=>.inl hk) (.inr (.inl rfl)) (.inr (.inr rfl)) (by intro k hk;omega) am hM b5 b4)
    GD (JR (by intro k hk;omega)) (λ_=>rfl)
    (λZ W=>Boxed W (w.heap.size+1) 389 (.map (some w.heap.size))/\Boxed W (w.heap.size+1+1) 3 (.int .i64 (Ae (Z.map Subtype.val)).many)/\Boxed W (w.heap.size+1+1+1) 3 (.int .i64 (Ae (Z.map Subtype.val)).node)/\
      (∃D:DataW Unit,W.ownsMap ZP 394 (plainElem ZP 3) w.heap.size Z.length D/\KM D (Ae (Z.map Subtype.val)).f)/\Bt w W/\W3.heap.size<=W.heap.size)
    (λ_ _ _=>False)
  case hI=>exact OwnFrom.and (Own.from (boxed_own _ _ _) _) (OwnFrom.and (Own.from (boxed_own _ _ _) _) (OwnFrom.and (Own.from (boxed_own _ _ _) _) (OwnFrom.and (anW om _ (λ(Z:List BgP) D=>KM D (Ae (Z.map Subtype.val)).f)) (OwnFrom.and (ownFrom_below (AC _) om) (Li _ _)))))
  case hIx=>exact λ_ _ _ _ _ hs _ _=>hs
  case h0=>exact⟨b1,b2,b3,⟨_,m0,KM.start⟩,ak,AC _⟩
  case hassign=>
    intro l x W K hK;unfold Nt
    gi_wp2
    exact hK
  case hbody=>
    rintro l Z ⟨⟨first,c⟩,I,s⟩ W ⟨aa,H,j,⟨D,ae,a1⟩,hB,hs⟩ ar;dsimp only at I s⊢;obtain⟨g1,g2,g3,g4,_⟩:=anV (Z.map Subtype.val);rw[BP]at g2 g4;have ah:(Lit.int .i64 (Ae (Z.map Subtype.val)).many).wf=true:=by simp[Lit.wf,IntKind.min,IntKind.max,IntKind.signed,IntKind.bits];omega
    cases first with
      |true=>
        have X:(W.setCell ⟨w.heap.size+1+1+1,0,none⟩ (int i64 0)).ownsMap ZP 394 (plainElem ZP 3) w.heap.size Z.length D:=JQ ae om _;have a8:Boxed (W.setCell ⟨w.heap.size+1+1+1,0,none⟩ (int i64 0)) (w.heap.size+1) 389 (.map (some w.heap.size)):=aa.other om _;have a7:Boxed (W.setCell ⟨w.heap.size+1+1+1,0,none⟩ (int i64 0)) (w.heap.size+1+1) 3 (int i64 (Ae (Z.map Subtype.val)).many):=H.other om _;have a6:Boxed (W.setCell ⟨w.heap.size+1+1+1,0,none⟩ (int i64 0)) (w.heap.size+1+1+1) 3 (int i64 0):=j.set _;have z:W.grownBy (W.setCell ⟨w.heap.size+1+1+1,0,none⟩ (int i64 0)) (some (w.heap.size+1+1+1)):=JU _ _ _;have al:W.heap.size<=(W.setCell ⟨w.heap.size+1+1+1,0,none⟩ (int i64 0)).heap.size:=z.size;have a2:=s;obtain⟨kl,U⟩:=apg 0 c om ⟨I,s⟩;obtain⟨V,N⟩:=a1.2 0 c kl om om I s U;have q1:=a8.alloc (.cells #[int i64 0,.int .u8 c] 394);have q2:=a7.alloc (.cells #[int i64 0,.int .u8 c] 394);have q3:=a6.alloc (.cells #[int i64 0,.int .u8 c] 394);have ai:=aa.cell;have aj:=H.cell;have aq:=j.cell;have ap:=H.frozen;have ao:=j.frozen;have r1:=q1.cell;have r2:=q2.cell;have r3:=q3.cell;have s2:=q2.frozen;have s3:=q3.frozen;have ad:=AA (NV (Z.map Subtype.val) (true,c))
        cases y:(Ae (Z.map Subtype.val)).f (0,c)with
        |some m=>
          have HF:=AA y;rw[y]at V;have ab:=N m y;clear y N
          gi_wp2_with (gi_at_lookup;refine wpListIn_lookup_own_ok_int _ rfl _ _ 389 rfl 394 3 .i64 Ih underlying389 underlying3 (Me _) w.heap.size Z.length D rfl (X.alloc _) _ kl rfl U ?_;intro c' ac ag;rw[V])
          obtain rfl:c'=m:=by
            have hh:=ac.symm.trans ab
            simpa using hh
          have HN:Hid (Ae ((Z++[(⟨(true,c),I,a2⟩:BgP)]).map Subtype.val)={Ae (Z.map Subtype.val)with node:=c'}):=by
            rw[Aj,BO,DE,ad.out,aas (by simpa using HF.out)]
            rfl
          have T:=(((Tn.refl w.heap.size W).grown z (λk e=>by first|(cases e;omega)|cases e)).grown (MR _ (.cells #[int i64 0,.int .u8 c] 394) none) (λk e=>by cases e)).grown (JU _ (w.heap.size+1+1+1) (int i64 c')) (λk e=>by cases e;omega);refine⟨T.keeps om,λk hk=>T.block k om om,?_⟩;dsimp only;rw[HN.out];exact⟨q1.other om _,q2.other om _,q3.set _,⟨D,by rw[List.length_append];exact(JQ (X.alloc _) om _).mono (Nat.le_succ _),a1⟩,T.below hB om,by have:=T.size;omega⟩
        |none=>
          have HF:=AA y;rw[y]at V;clear y N
          gi_wp2_with (first
            |(gi_at_lookup;refine wpListIn_lookup_own_ok_int _ rfl _ _ 389 rfl 394 3 .i64 Ih underlying389 underlying3 (Me _) w.heap.size Z.length D rfl (X.alloc _) _ kl rfl U ?_;intro c' ac ag;rw[V])
            | (gi_at_mapUpdate;refine wpListIn_mapUpdate_own _ rfl _ _ _ 389 rfl 394 3 Ih underlying389 _ w.heap.size Z.length D rfl (X.alloc _) (by unfold maxLen;omega) _ _ kl rfl rfl U _ [] (plainElem_int underlying3 ah) ?_;intro w5 A Y
               have af:=q1.kept Y (by intro e;injection e;omega);have B:=q2.kept Y (by intro e;injection e;omega);have C:=q3.kept Y (by intro e;injection e;omega);have t2:=B.cell;have t3:=C.cell;have u2:=B.frozen;have u3:=C.frozen)
            |gi_in)
          have HN:Hid (Ae ((Z++[(⟨(true,c),I,a2⟩:BgP)]).map Subtype.val)={f:=λq=>if q=(0,c) then some (Ae (Z.map Subtype.val)).many else(Ae (Z.map Subtype.val)).f q,many:=(Ae (Z.map Subtype.val)).many+1,node:=(Ae (Z.map Subtype.val)).many}):=by
            rw[Aj,BO,DE,ad.out,abu (by simpa using HF.out)]
            rfl
          have T:=(((((Tn.refl w.heap.size W).grown z (λk e=>by first|(cases e;omega)|cases e)).grown (MR _ (.cells #[int i64 0,.int .u8 c] 394) none) (λk e=>by cases e)).grown Y (λk e=>by cases e;omega)).grown (JU _ (w.heap.size+1+1) (int i64 ((Ae (Z.map Subtype.val)).many+1))) (λk e=>by cases e;omega)).grown (JU _ (w.heap.size+1+1+1) (int i64 (Ae (Z.map Subtype.val)).many)) (λk e=>by cases e;omega);refine⟨T.keeps om,λk hk=>T.block k om om,?_⟩;dsimp only;rw[HN.out];exact⟨(af.other om _).other om _,(B.set _).other om _,(C.other om _).set _,⟨_,by rw[List.length_append];exact JQ (JQ A om _) om _,a1.put U⟩,T.below hB om,by have:=T.size;omega⟩
      |false=>
        have X:W.ownsMap ZP 394 (plainElem ZP 3) w.heap.size Z.length D:=ae;have a8:Boxed W (w.heap.size+1) 389 (.map (some w.heap.size)):=aa;have a7:Boxed W (w.heap.size+1+1) 3 (int i64 (Ae (Z.map Subtype.val)).many):=H;have a6:Boxed W (w.heap.size+1+1+1) 3 (int i64 (Ae (Z.map Subtype.val)).node):=j;have z:W.grownBy W (some (w.heap.size+1+1+1)):=World.grownBy.refl W _;have al:W.heap.size<=W.heap.size:=z.size;have a2:=s;obtain⟨kl,U⟩:=apg (Ae (Z.map Subtype.val)).node c om ⟨I,s⟩;obtain⟨V,N⟩:=a1.2 (Ae (Z.map Subtype.val)).node c kl om om I s U;have q1:=a8.alloc (.cells #[int i64 (Ae (Z.map Subtype.val)).node,.int .u8 c] 394);have q2:=a7.alloc (.cells #[int i64 (Ae (Z.map Subtype.val)).node,.int .u8 c] 394);have q3:=a6.alloc (.cells #[int i64 (Ae (Z.map Subtype.val)).node,.int .u8 c] 394);have ai:=aa.cell;have aj:=H.cell;have aq:=j.cell;have ap:=H.frozen;have ao:=j.frozen;have r1:=q1.cell;have r2:=q2.cell;have r3:=q3.cell;have s2:=q2.frozen;have s3:=q3.frozen;have ad:=AA (NV (Z.map Subtype.val) (false,c))
        cases y:(Ae (Z.map Subtype.val)).f ((Ae (Z.map Subtype.val)).node,c)with
        |some m=>
          have HF:=AA y;rw[y]at V;have ab:=N m y;clear y N
          gi_wp2_with (gi_at_lookup;refine wpListIn_lookup_own_ok_int _ rfl _ _ 389 rfl 394 3 .i64 Ih underlying389 underlying3 (Me _) w.heap.size Z.length D rfl (X.alloc _) _ kl rfl U ?_;intro c' ac ag;rw[V])
          obtain rfl:c'=m:=by
            have hh:=ac.symm.trans ab
            simpa using hh
          have HN:Hid (Ae ((Z++[(⟨(false,c),I,a2⟩:BgP)]).map Subtype.val)={Ae (Z.map Subtype.val)with node:=c'}):=by
            rw[Aj,BO,DE,ad.out,aas (by simpa using HF.out)]
            rfl
          have T:=(((Tn.refl w.heap.size W).grown z (λk e=>by first|(cases e;omega)|cases e)).grown (MR _ (.cells #[int i64 (Ae (Z.map Subtype.val)).node,.int .u8 c] 394) none) (λk e=>by cases e)).grown (JU _ (w.heap.size+1+1+1) (int i64 c')) (λk e=>by cases e;omega);refine⟨T.keeps om,λk hk=>T.block k om om,?_⟩;dsimp only;rw[HN.out];exact⟨q1.other om _,q2.other om _,q3.set _,⟨D,by rw[List.length_append];exact(JQ (X.alloc _) om _).mono (Nat.le_succ _),a1⟩,T.below hB om,by have:=T.size;omega⟩
        |none=>
          have HF:=AA y;rw[y]at V;clear y N
          gi_wp2_with (first
            |(gi_at_lookup;refine wpListIn_lookup_own_ok_int _ rfl _ _ 389 rfl 394 3 .i64 Ih underlying389 underlying3 (Me _) w.heap.size Z.length D rfl (X.alloc _) _ kl rfl U ?_;intro c' ac ag;rw[V])
            | (gi_at_mapUpdate;refine wpListIn_mapUpdate_own _ rfl _ _ _ 389 rfl 394 3 Ih underlying389 _ w.heap.size Z.length D rfl (X.alloc _) (by unfold maxLen;omega) _ _ kl rfl rfl U _ [] (plainElem_int underlying3 ah) ?_;intro w5 A Y
               have af:=q1.kept Y (by intro e;injection e;omega);have B:=q2.kept Y (by intro e;injection e;omega);have C:=q3.kept Y (by intro e;injection e;omega);have t2:=B.cell;have t3:=C.cell;have u2:=B.frozen;have u3:=C.frozen)
            |gi_in)
          have HN:Hid (Ae ((Z++[(⟨(false,c),I,a2⟩:BgP)]).map Subtype.val)={f:=λq=>if q=((Ae (Z.map Subtype.val)).node,c) then some (Ae (Z.map Subtype.val)).many else(Ae (Z.map Subtype.val)).f q,many:=(Ae (Z.map Subtype.val)).many+1,node:=(Ae (Z.map Subtype.val)).many}):=by
            rw[Aj,BO,DE,ad.out,abu (by simpa using HF.out)]
            rfl
          have T:=(((((Tn.refl w.heap.size W).grown z (λk e=>by first|(cases e;omega)|cases e)).grown (MR _ (.cells #[int i64 (Ae (Z.map Subtype.val)).node,.int .u8 c] 394) none) (λk e=>by cases e)).grown Y (λk e=>by cases e;omega)).grown (JU _ (w.heap.size+1+1) (int i64 ((Ae (Z.map Subtype.val)).many+1))) (λk e=>by cases e;omega)).grown (JU _ (w.heap.size+1+1+1) (int i64 (Ae (Z.map Subtype.val)).many)) (λk e=>by cases e;omega);refine⟨T.keeps om,λk hk=>T.block k om om,?_⟩;dsimp only;rw[HN.out];exact⟨(af.other om _).other om _,(B.set _).other om _,(C.other om _).set _,⟨_,by rw[List.length_append];exact JQ (JQ A om _) om _,a1.put U⟩,T.below hB om,by have:=T.size;omega⟩
  case hdone=>
    rintro D xs W hD hS ⟨aa,H,j,hm,hB,hs⟩ hK;have aj:=H.cell;go_wp2;refine Gg rfl hK (results_tmp rfl _ _ _) ⟨?_,FZ hB om (AC _) _⟩;rw[<-hS]
    rfl
  case hstop=>exact λ_ _ _ _ _ _ h _=>h.elim
end
abbrev Kc(W Bs Lg Sh:Int)(f Z:Value):Array Value:=#[int i64 W,int i64 Bs,int i64 Lg,int i64 Sh,f,Z]
theorem JN{w:World}{b:Nat}{t:TypeId}{W Bs Lg Sh:Int}{f Z:Value}(h:w.heap[b]?=some (.cells (Kc W Bs Lg Sh f Z) t (0,0))) :w.cell? ⟨b,0,none⟩=some (int i64 W)/\w.cell? ⟨b,1,none⟩=some (int i64 Bs)/\w.cell? ⟨b,2,none⟩=some (int i64 Lg)/\w.cell? ⟨b,3,none⟩=some (int i64 Sh)/\w.cell? ⟨b,4,none⟩=some f/\w.cell? ⟨b,5,none⟩=some Z/\
  w.frozen? ⟨b,0,none⟩=false/\w.frozen? ⟨b,1,none⟩=false/\w.frozen? ⟨b,2,none⟩=false/\w.frozen? ⟨b,3,none⟩=false:=by
 simp[cell?,frozen?,h]
theorem AJ{w:World}{b i:Nat}{cs:Array Value}{t:TypeId}(h:w.heap[b]?=some (.cells cs t (0,0)))(u:Value):(w.setCell ⟨b,i,none⟩ u).heap[b]?=some (.cells (cs.setIfInBounds i u) t (0,0)):=by simp[World.setCell,Js,h]
theorem BH(W:World)(g i:Nat)(u:Value):W.grownBy (W.setCell ⟨g,i,none⟩ u) (some g):=⟨rfl,rfl,rfl,by simp[World.setCell],λk _ Z=>AQ W ⟨g,i,none⟩ u k (by intro e;exact Z (by rw[e]))⟩
theorem aiX(b:Nat)(W Bs Lg Sh:Int)(f X:Value)(a:Option Addr)(l c:Nat)(w:World)(hb:w.heap[b]?=some (.cells (Kc W Bs Lg Sh f X) 348 (0,0)))
  (h1:0<=W) (h2:W<=1000000) (h3:0<=Bs) (h4:Bs<=1000000000000) (h5:l<=1000000) :
  Calls ZP 254 #[.pointer (some ⟨b,0,none⟩),.slice a l c] w λe w'=>(∃v,e=.returned v)/\
   w'.heap[b]?=some (.cells (Kc (W+1) (Bs+l) (max Lg l) (if W=0∨(l:Int)<Sh then l else Sh) f X) 348 (0,0))/\w.grownBy w' (some b):=by
 obtain⟨c0,c1,c2,c3,c4,c5,I,J,N,U⟩:=JN hb;obtain⟨M,Z⟩:∃M,(if W=0∨(l:Int)<Sh then(l:Int) else Sh)=M:=⟨_,rfl⟩;have Y:Hid ((if W=0∨(l:Int)<Sh then(l:Int) else Sh)=M):=Z;rw[Z];clear Z
 by_cases hW:W=0
 ·subst hW;obtain rfl:(l:Int)=M:=by rw[<-Y.out,Lc (.inl rfl)]
  go_enter func254,ntmps254;go_wp2
  go_end0
  refine⟨⟨_,rfl⟩,?_,(((BH _ _ _ _).trans (BH _ _ _ _)).trans (BH _ _ _ _)).trans (BH _ _ _ _)⟩
  simpa using AJ (i:=1) (AJ (i:=0) (AJ (i:=2) (AJ (i:=3) hb (int i64 l)) (int i64 (max Lg l))) (int i64 1)) (int i64 (Bs+l))
 ·by_cases V:(l:Int)<Sh
  ·obtain rfl:(l:Int)=M:=by rw[<-Y.out,Lc (.inr V)]
   go_enter func254,ntmps254;go_wp2
   go_end0
   refine⟨⟨_,rfl⟩,?_,(((BH _ _ _ _).trans (BH _ _ _ _)).trans (BH _ _ _ _)).trans (BH _ _ _ _)⟩
   simpa using AJ (i:=1) (AJ (i:=0) (AJ (i:=2) (AJ (i:=3) hb (int i64 l)) (int i64 (max Lg l))) (int i64 (W+1))) (int i64 (Bs+l))
  ·obtain rfl:Sh=M:=by rw[<-Y.out,Lb om]
   go_enter func254,ntmps254;go_wp2
   go_end0
   refine⟨⟨_,rfl⟩,?_,((BH _ _ _ _).trans (BH _ _ _ _)).trans (BH _ _ _ _)⟩
   simpa using AJ (i:=1) (AJ (i:=0) (AJ (i:=2) hb (int i64 (max Lg l))) (int i64 (W+1))) (int i64 (Bs+l))
def GJ:Nat->FuncId
 |0=>280
 |1=>281
 |2=>282
 |3=>283
 |4=>284
 |_=>285
theorem adV(k:Nat)(args:Array Value)(w:World):Sem.run ZP (callFunc (GJ k) args) w=.ok (.enter (GJ k) args) w:=by
 unfold GJ
 split
 ·exact Vg func280 kr rfl args w
 ·exact Vg func281 kr rfl args w
 ·exact Vg func282 kr rfl args w
 ·exact Vg func283 kr rfl args w
 ·exact Vg func284 kr rfl args w
 ·exact Vg func285 kr rfl args w
section
variable (p b:Nat)(W Bs Lg Sh:Int)(fold:Bool)(a:Option Addr)(la ca:Nat)(w:World)(hp:Boxed w p 380 (pointer (some ⟨b,0,none⟩)))(hb:w.heap[b]?=some (.cells (Kc W Bs Lg Sh (bool fold) (slice a la ca)) 348 (0,0)))
include hp hb
theorem al0:Calls ZP 280 #[pointer (some ⟨p,0,none⟩)] w λe w'=>e=.returned (bool (decide (W=0)))/\w=w':=by have U:=hp.cell;obtain⟨c0,c1,c2,c3,c4,c5,V,X,Y,Z⟩:=JN hb;go_enter func280,ntmps280;go_wp2;go_ret;exact⟨rfl,rfl⟩
theorem am3:Calls ZP 281 #[pointer (some ⟨p,0,none⟩)] w λe w'=>e=.returned (bool (decide (W > 64)))/\w=w':=by have U:=hp.cell;obtain⟨c0,c1,c2,c3,c4,c5,V,X,Y,Z⟩:=JN hb;go_enter func281,ntmps281;go_wp2;go_ret;exact⟨rfl,rfl⟩
theorem amo:Calls ZP 282 #[pointer (some ⟨p,0,none⟩)] w λe w'=>e=.returned (bool (decide (Sh=0)))/\w=w':=by have U:=hp.cell;obtain⟨c0,c1,c2,c3,c4,c5,V,X,Y,Z⟩:=JN hb;go_enter func282,ntmps282;go_wp2;go_ret;exact⟨rfl,rfl⟩
theorem amd:Calls ZP 283 #[pointer (some ⟨p,0,none⟩)] w λe w'=>e=.returned (bool (decide (Lg > 32)))/\w=w':=by have U:=hp.cell;obtain⟨c0,c1,c2,c3,c4,c5,V,X,Y,Z⟩:=JN hb;go_enter func283,ntmps283;go_wp2;go_ret;exact⟨rfl,rfl⟩
theorem am4:Calls ZP 284 #[pointer (some ⟨p,0,none⟩)] w λe w'=>e=.returned (bool (decide (Bs > 600)))/\w=w':=by have U:=hp.cell;obtain⟨c0,c1,c2,c3,c4,c5,V,X,Y,Z⟩:=JN hb;go_enter func284,ntmps284;go_wp2;go_ret;exact⟨rfl,rfl⟩
theorem alm(wss:La)(U:Wds w a la wss)(Y:la<=1000000)(V:∀x∈wss,x.length<=1000000)(X:(Ad fold wss).length<=1000000) :Calls ZP 285 #[pointer (some ⟨p,0,none⟩)] w λe w'=>e=.returned (bool (decide ((Ae (Ad fold wss)).many > 400)))/\Bt w w':=by
 have J:=hp.cell;obtain⟨c0,c1,c2,c3,c4,c5,z,A,B,C⟩:=JN hb;have kp:=Vc J;have D:=Vc c4;have H:=Vc c5;have I:∀d os,Calls ZP 286 #[bool fold,slice a la ca] (grow (redrawn w d) os) λe w''=>e=.returned (int i64 (Ae (Ad fold wss)).many)/\∃p:Regrown,w''=grow (redrawn w p.d) p.os:=
  λd os=>Calls.regrown_of (aks fold a la ca wss _ (U.below (Kf w d os)) Y V X)
 go_enter func285,ntmps285;go_wp2;refine wp_region_quiet_below mixed kr ?_
 repeat (go_big_quiet_step (exact I _ _))
 refine wpQuiet_nil ?_;rintro _ ⟨⟨N,Z⟩,rfl⟩;go_wp2;go_ret;exact⟨rfl,Kf _ N Z⟩
end
section
attribute[local go_sem] IW
theorem anA(k p b:Nat)(W U V X:Int)(fold:Bool)(a:Option Addr)(Y N:Nat)(w:World)(J:Boxed w p 380 (pointer (some ⟨b,0,none⟩)))(I:w.heap[b]?=some (.cells (Kc W U V X (bool fold) (slice a Y N)) 348 (0,0)))
  (wss:La) (B:Wds w a Y wss) (H:Y<=1000000) (C:∀x∈wss,x.length<=1000000) (D:(Ad fold wss).length<=1000000) :
  Calls ZP (GJ k) #[pointer (some ⟨p,0,none⟩)] w λe w'=>e=.returned (bool (Ku W U V X (Ae (Ad fold wss)).many k))/\Bt w w':=by
 have Z:∀{f:FuncId}{v:Value},Calls ZP f #[pointer (some ⟨p,0,none⟩)] w (λe w'=>e=.returned v/\w=w')->Calls ZP f #[pointer (some ⟨p,0,none⟩)] w (λe w'=>e=.returned v/\Bt w w'):=
  λh=>h.mono λe w' ⟨h1,h2⟩=>⟨h1,by rw[<-h2];exact AH _ _⟩
 match k with
 |0=>exact Z (al0 p b W U V X fold a Y N w J I)
 |1=>exact Z (am3 p b W U V X fold a Y N w J I)
 |2=>exact Z (amo p b W U V X fold a Y N w J I)
 |3=>exact Z (amd p b W U V X fold a Y N w J I)
 |4=>exact Z (am4 p b W U V X fold a Y N w J I)
 |_+5=>exact alm p b W U V X fold a Y N w J I wss B H C D
def Kt(p:Nat):Array Value:=#[int i64 50,.func (.func (GJ 0)) #[] #[pointer (some ⟨p,0,none⟩)],int i64 51,.func (.func (GJ 1)) #[] #[pointer (some ⟨p,0,none⟩)],int i64 52,.func (.func (GJ 2)) #[] #[pointer (some ⟨p,0,none⟩)],
 int i64 53,.func (.func (GJ 3)) #[] #[pointer (some ⟨p,0,none⟩)],int i64 54,.func (.func (GJ 4)) #[] #[pointer (some ⟨p,0,none⟩)],int i64 55,.func (.func (GJ 5)) #[] #[pointer (some ⟨p,0,none⟩)]]
theorem ami(b:Nat)(w:World) :Calls ZP 255 #[.pointer (some ⟨b,0,none⟩)] w λe w'=>e=.returned (.slice (some ⟨w.heap.size+1,0,none⟩) 6 6)/\
   w'=(w.alloc (.cells #[pointer (some ⟨b,0,none⟩)] 380)).alloc (.cells (Kt w.heap.size) 353):=by
 go_enter func255,ntmps255;go_wp2;go_ret;exact⟨rfl,rfl⟩
theorem ajW{w:World}{Z p:Nat}(h:w.heap[Z]?=some (.cells (Kt p) 353 (0,0))){k:Nat}(hk:k<6) :w.cell? ⟨Z,k*2,none⟩=some (int i64 (50+k))/\w.cell? ⟨Z,k*2+1,none⟩=some (.func (.func (GJ k)) #[] #[pointer (some ⟨p,0,none⟩)]):=by
 have:k=0∨k=1∨k=2∨k=3∨k=4∨k=5:=by omega
 rcases this with rfl|rfl|rfl|rfl|rfl|rfl<;>simp[cell?,h,Kt]
theorem ae7(fold:Bool)(a:Option Addr)(N ca:Nat)(wss:La)(w:World)(hA:Wds w a N wss)(aj:N<=1000000)(hM:∀x∈wss,x.length<=1000000)(hT:(Ad fold wss).length<=1000000) :Calls ZP 223 #[bool fold,slice a N ca] w λe w'=>e=.returned (int i64 (Ey fold wss))/\Bt w w':=by
 have HL:=AA hA.len;go_enter func223,ntmps223;go_wp2
 go_loopw[15] (λi wr=>∃k:Nat,k<=N/\i=int i64 k/\Bt w wr/\wr.heap[w.heap.size]?=some (.cells (Kc (cnt (wss.take k)).1 (cnt (wss.take k)).2.1 (cnt (wss.take k)).2.2.1 (cnt (wss.take k)).2.2.2 (bool fold) (slice a N ca)) 348 (0,0))) (λi _=>N-(intOf i).toNat)
 case atStart=>exact⟨0,AR _,rfl,(AH _ _).alloc (AC _) _,AT _ _⟩
 case round=>
  obtain⟨k,hk,rfl,U,J⟩:=hrel
  by_cases ai:k<N
  ·obtain⟨bb,off,a',l,c,x,rfl,au,al,hx,hX,ar⟩:=(hA.below U).at_ ai;have af:l<=1000000:=by have:=Ff hM hx;rw[hX.len]at this;exact this
   obtain⟨g1,g2,g3⟩:=aoM (M:=1000000) (wss.take k) (λy hy=>hM y (EG hy));have a7:((wss.take k).length:Int)=k:=by rw[Ag,HL.out];omega
   rw[a7]at g1 g3;have HX:=AA hx;have HC:=AA hX.len;clear hx a7
   go_wp2_with fail
   refine(aiX w.heap.size _ _ _ _ (bool fold) (slice (some ⟨bb,off,none⟩) N ca) a' l c wr J om om g2 om af).mono ?_;rintro e w1 ⟨⟨v,rfl⟩,a6,ak⟩;have ao:Bt w w1:=U.grown ak (by have:=U.size;omega) (λk e=>by cases e;exact AC _);have HN:Hid (cnt (wss.take (k+1))=Kq (cnt (wss.take k)) x):=by rw[As HX.out,ad5];rfl
   go_wp2
   go_roundw
   case rel=>
    refine⟨k+1,by omega,by go_num,ao,?_⟩;rw[HN.out];simp only[Kq,HC.out];exact a6
   case measure=>simp[intOf];omega
  ·obtain rfl:k=N:=by omega
   have V:wss.take k=wss:=Ap (by have:=HL.out;omega);rw[V]at J;clear V;have s:w.heap.size<wr.heap.size:=(AD.1 J).1;have ad:=hA.below U
   go_wp2_with (go_at_call 255;refine(ami _ _).mono ?_;rintro e w' ⟨rfl,rfl⟩)
   obtain⟨X,Y⟩:∃X,X=(wr.alloc (.cells #[pointer (some ⟨w.heap.size,0,none⟩)] 380)).alloc (.cells (Kt wr.heap.size) 353):=⟨_,rfl⟩;have I:Bt w X:=by rw[Y];exact(U.alloc om _).alloc (by simp;omega) _
   have A:Bt wr X:=by rw[Y];exact((AH _ _).alloc (AC _) _).alloc sm _
   have B:Boxed X wr.heap.size 380 (pointer (some ⟨w.heap.size,0,none⟩)):=by rw[Y];exact(Boxed.new _ _ _).alloc _
   have C:X.heap[wr.heap.size+1]?=some (.cells (Kt wr.heap.size) 353 (0,0)):=by
    rw[Y];have:=AT (wr.alloc (.cells #[pointer (some ⟨w.heap.size,0,none⟩)] 380)) (.cells (Kt wr.heap.size) 353)
    rwa[DN]at this
   have D:X.heap[w.heap.size]?=_:=(A.block _ s).trans J;have ap:=ad.below A;have ae:X.heap.size=wr.heap.size+2:=by rw[Y];simp
   rw[<-Y];clear Y A ad;obtain⟨z,a1⟩:∃z,wr.heap.size=z:=⟨_,rfl⟩;rw[a1]at B C ae⊢;clear a1
   go_loopw[25] (λi wq=>∃j:Nat,j<=6/\i=int i64 j/\Bt X wq/\Hid (∀n,n<j->Ku (cnt wss).1 (cnt wss).2.1 (cnt wss).2.2.1 (cnt wss).2.2.2 (Ae (Ad fold wss)).many n=false)) (λi _=>6-(intOf i).toNat)
   case atStart=>exact⟨0,by omega,rfl,AH _ _,λn hn=>by omega⟩
   case round=>
    obtain⟨j,hj,rfl,Z,HJ⟩:=hrel;have am:Bt w wr:=I.trans (Z.mono I.size)
    by_cases a8:j<6
    ·obtain⟨d0,d1⟩:=ajW ((Z.block _ (AD.1 C).1).trans C) a8;have he:=adV j
     go_wp2_with fail
     have ag:Boxed wr z 380 (pointer (some ⟨w.heap.size,0,none⟩)):=(Z.block _ B.lt).trans B;have a2:wr.heap[w.heap.size]?=_:=(Z.block _ (AD.1 D).1).trans D;have H:=AT wr (.cells #[int i64 (50+(j:Int)),.func (.func (GJ j)) #[] #[pointer (some ⟨z,0,none⟩)]] 353);refine(anA j z w.heap.size _ _ _ _ fold a k ca _ (ag.alloc _) ((Bg _ _ _ (AD.1 a2).1).trans a2) wss ((ap.below Z).below ((AH _ _).alloc (AC _) _)) aj hM hT).mono ?_;rintro e w5 ⟨rfl,aa⟩;have ac:Bt X w5:=(Z.alloc Z.size _).trans (aa.mono (by have:=Z.size;simp;omega));have ab:Bt w w5:=I.trans (ac.mono I.size);have ah:w5.heap[wr.heap.size]?=_:=(aa.block _ (AD.1 H).1).trans H;have q0:w5.cell? ⟨wr.heap.size,0,none⟩=some (int i64 (50+(j:Int))):=by simp[cell?,ah]
     cases e:Ku (cnt wss).1 (cnt wss).2.1 (cnt wss).2.2.1 (cnt wss).2.2.2 (Ae (Ad fold wss)).many j with
     |true=>
      have HC:Hid (Ey fold wss=50+(j:Int)):=ae6 a8 HJ e;go_wp2;go_ret;exact⟨by rw[HC.out];rfl,ab⟩
     |false=>
      have aq:Hid (∀n,n<j+1->Ku (cnt wss).1 (cnt wss).2.1 (cnt wss).2.2.1 (cnt wss).2.2.2 (Ae (Ad fold wss)).many n=false):=by
       intro n hn
       by_cases h:n=j
       ·rw[h];exact e
       ·exact HJ n om
      go_wp2
      go_roundw
      case rel=>exact⟨j+1,by omega,by go_num,ac,aq⟩
      case measure=>simp[intOf];omega
    ·obtain rfl:j=6:=by omega
     have HC:Hid (Ey fold wss=0):=acT HJ;go_wp2;go_ret;exact⟨by rw[HC.out];rfl,am⟩
end
abbrev AM(fold:Bool)(a:Option Addr)(Z Y:Nat):Array Value:=#[bool fold,slice a Z Y]
theorem ahu(fold:Bool)(a b:Option Addr)(H B Z Y:Nat)(xs:List Int)(wss:La)(w:World)(y:Bys w a H xs)(hB:Wds w b Z wss)(V:Z<=1000000)(A:∀x∈wss,x.length<=1000000) :Calls ZP 224 #[.agg (AM fold b Z Y),slice a H B] w λe w'=>e=.returned (.tuple #[int i64 (if BV fold xs wss<0 then 0 else BV fold xs wss),bool (decide (0<=BV fold xs wss))])/\Bt w w':=by
 have C:=ajV fold xs wss;have I:=y.below ((AH _ _).alloc (AC _) (.cells (AM fold b Z Y) 24));have J:=hB.below ((AH _ _).alloc (AC _) (.cells (AM fold b Z Y) 24));obtain⟨n,D⟩:∃n,BV fold xs wss=n:=⟨_,rfl⟩;have z:Hid (BV fold xs wss=n):=D;rw[D]at C⊢;clear D;have N:∀X,Below (w.alloc (.cells (AM fold b Z Y) 24)).heap.size (w.alloc (.cells (AM fold b Z Y) 24)) X->Bt w X:=λX U=>((AH _ _).alloc (AC _) _).trans (U.mono sm)
 by_cases h:n<0
 ·rw[Lc h,decide_eq_false om];go_enter func224,ntmps224
  go_wp2_with fail
  refine(aeb fold a b H B Z Y xs wss _ I J V A).mono ?_;rintro e X ⟨rfl,U⟩;rw[z.out];go_wp2;go_ret2;exact⟨rfl,N _ U⟩
 ·rw[Lb h,Lz om];go_enter func224,ntmps224
  go_wp2_with fail
  refine(aeb fold a b H B Z Y xs wss _ I J V A).mono ?_;rintro e X ⟨rfl,U⟩;rw[z.out];go_wp2;go_ret2;exact⟨rfl,N _ U⟩
theorem aky(a b:Option Addr)(Y U Z V:Nat)(xs ys:List Int)(w:World)(X:Bys w a Y xs)(hB:Bys w b Z ys) :Calls ZP 225 #[slice a Y U,slice b Z V] w λe w'=>e=.returned (bool (decide (xs=ys)))/\w=w':=by have c1:=Gh X;have c2:=Gh hB;go_enter func225,ntmps225;go_wp2;go_ret;refine⟨?_,rfl⟩;show Ending.returned (bool ((strOfNums xs).toList==(strOfNums ys).toList))=_;rw[Ms X.2 hB.2]
def DH(f g:Bool)(wss Z:La):Bool:=f==g&&decide (wss=Z)
theorem Mz{f g:Bool}{wss Z:La}(h:f≠g∨wss.length≠Z.length):DH f g wss Z=false:=by
 rcases h with h|h
 ·cases f<;>cases g<;>simp_all [DH]
 ·have:wss≠Z:=λe=>h (by rw[e]);simp[DH,this]
theorem ajv(f g:Bool)(a b:Option Addr)(X ca N cb:Nat)(wss Z:La)(w:World)(A:Wds w a X wss)(hB:Wds w b N Z)(a8:X<=1000000) :Calls ZP 181 #[.agg (AM f a X ca),.agg (AM g b N cb)] w λe w'=>e=.returned (bool (DH f g wss Z))/\Bt w w':=by
 have Y:Bt w ((w.alloc (.cells (AM f a X ca) 24)).alloc (.cells (AM g b N cb) 24)):=((AH _ _).alloc (AC _) _).alloc sm _;have HA:=AA A.len;have HB:=AA hB.len
 by_cases U:f=g
 ·subst U
  by_cases hl:X=N
  ·subst hl;have B:=A.below Y;have C:=hB.below Y;clear A hB;go_enter func181,ntmps181;go_wp2
   go_loop[24] (λi=>∃k:Nat,k<=X/\i=int i64 k/\Hid (wss.take k=Z.take k)) (λi=>X-(intOf i).toNat)
   case atStart=>exact⟨0,AR _,rfl,by simp[Hid]⟩
   case round=>
    obtain⟨k,hk,rfl,HK⟩:=hrel
    by_cases J:k<X
    ·obtain⟨bb,off,a',l,c,x,rfl,aa,D,j,hX,a7⟩:=B.at_ J;obtain⟨ab,z,a2,l2,c2,y,rfl,a6,I,s,hY,a1⟩:=C.at_ J
     go_wp2_with fail
     refine(aky a' a2 l c l2 c2 x y _ hX hY).mono ?_;rintro e w1 ⟨rfl,rfl⟩;have HX:=AA j;have HY:=AA s;clear j s
     by_cases h:x=y
     ·rw[Lz h];have V:Hid (wss.take (k+1)=Z.take (k+1)):=by rw[As HX.out,As HY.out,HK.out,h];rfl
      clear h;go_wp2
      go_round
      case rel=>exact⟨k+1,by omega,by go_num,V⟩
      case measure=>simp[intOf];omega
     ·rw[decide_eq_false h];have V:Hid (DH f f wss Z=false):=by
       have:wss≠Z:=λe=>by have h1:=HX.out;rw[e,HY.out]at h1;exact h (AK h1).symm
       simp[Hid,DH,this]
      clear h;go_wp2;go_ret;exact⟨by rw[V.out];rfl,Y⟩
    ·obtain rfl:k=X:=by omega
     have V:Hid (DH f f wss Z=true):=by have h:=HK.out;rw[Ap (by rw[HA.out];exact AC _),Ap (by rw[HB.out];exact AC _)]at h;simp[Hid,DH,h]
     go_wp2;go_ret;exact⟨by rw[V.out];rfl,Y⟩
  ·have V:Hid (DH f f wss Z=false):=Mz (.inr (by rw[HA.out,HB.out];exact hl));have H:((X:Int) != (N:Int))=true:=by simp;omega
   go_enter func181,ntmps181;go_wp2
   all_goals
    go_ret;exact⟨by rw[V.out];rfl,Y⟩
 ·have V:Hid (DH f g wss Z=false):=Mz (.inl U);have H:(f != g)=true:=by simp[U]
  go_enter func181,ntmps181;go_wp2
  all_goals
   go_ret;exact⟨by rw[V.out];rfl,Y⟩
theorem Gz{w:World}{B size n g:Nat}{e t:TypeId}{v:Value}{xs:List Value}{cs:Array Value}{U:Nat×Nat}(h:w.ownsRow B e size v n xs)(Z:w.heap[g]?=some (.cells cs t U))(Y:t≠e):v.ownBlock≠some g:=by
 intro X;obtain⟨c,f,V⟩:=Lib.ownsRow_kind h g X;rw[V]at Z
 injection Z with Z
 injection Z with _ ht
 exact Y ht.symm
theorem DJ{w w':World}{B size n:Nat}{e:TypeId}{v:Value}{xs:List Value}(h:w.ownsRow B e size v n xs)(Z:Bt w w'):w'.ownsRow B e size v n xs:=h.kept (row:=none) (Km Z) (by cases v.ownBlock<;>simp)
def BI(w:World)(base:Nat)(v:Value)(wss:La):Prop:=
 ∃es:List Value,w.ownsRow base 32 1 v wss.length es/\es.length=wss.length/\∀(i:Nat)(e:Value)(xs:List Int),es[i]?=some e->wss[i]?=some xs->Ch w base e xs.length xs/\∀x∈xs,0<=x/\x<=255
theorem BI.nil(w:World)(base:Nat):BI w base (slice none 0 0) []:=⟨[],BN _ _ _ _,rfl,λi e xs h=>by simp at h⟩
theorem BI.below{w w':World}{base:Nat}{v:Value}{wss:La}(h:BI w base v wss)(X:Bt w w'):BI w' base v wss:=by obtain⟨es,h1,h2,h3⟩:=h;exact⟨es,DJ h1 X,h2,λi e xs Y Z=>⟨DJ (h3 i e xs Y Z).1 X,(h3 i e xs Y Z).2⟩⟩
theorem BI.turned{w w':World}{base g:Nat}{v:Value}{wss:La}{cs:Array Value}{t:TypeId}{J:Nat×Nat}(h:BI w base v wss)(U:w.grownBy w' (some g))(V:w.heap[g]?=some (.cells cs t J))(h1:t≠32)(h2:t≠5):BI w' base v wss:=by obtain⟨es,N,I,X⟩:=h;exact⟨es,N.kept U (.inr (Gz N V h1)),I,λi e xs Y Z=>⟨(X i e xs Y Z).1.kept U (.inr (Gz (X i e xs Y Z).1 V h2)),(X i e xs Y Z).2⟩⟩
theorem BI.wds{w:World}{base:Nat}{v:Value}{wss:La}(h:BI w base v wss):∃a c,v=slice a wss.length c/\wss.length<=c/\Wds w a wss.length wss:=by
 obtain⟨es,h1,h2,h3⟩:=h;have I:∀(i:Nat)(e:Value),es[i]?=some e->∃a l c xs,e=slice a l c/\wss[i]?=some xs/\Bys w a l xs/\l<=c:=by intro i e Z;have B:=(AP.1 Z).1;obtain⟨xs,U⟩:∃xs,wss[i]?=some xs:=⟨wss[i]'om,by simp⟩;obtain⟨ho,C⟩:=h3 i e xs Z U;obtain⟨a,c,J,N,hB⟩:=KL ho C;exact⟨a,_,c,xs,J,U,hB,N⟩
 let f:Value->Option Addr×Nat×Nat:=λe=>match e with|slice a l c=>(a,l,c)|_=>(none,0,0)
 have V:(es.map f).map (λv=>slice v.1 v.2.1 v.2.2)=es:=by
  apply Hn
  intro i;rw[List.map_map,BU]
  cases Z:es[i]? with
  |none=>rfl
  |some e=>
   obtain⟨a,l,c,xs,rfl,_⟩:=I i e Z
   rfl
 obtain⟨a,c,J,N,H⟩:=Co (enc:=λv:Option Addr×Nat×Nat=>slice v.1 v.2.1 v.2.2) (xs:=es.map f) (by rw[V];exact h1);refine⟨a,c,J,N,es.map f,H,by rw[BP,h2],λi v xs X U=>?_⟩;rw[BU,Fo]at X;obtain⟨e,Z,rfl⟩:=X;obtain⟨z,l,A,xs',rfl,Y,hB,D⟩:=I i e Z;rw[U]at Y;obtain rfl:=AK Y;exact⟨hB,D⟩
theorem BI.step{W w':World}{base:Nat}{v v' e:Value}{wss:La}{xs:List Int}{es:List Value}(h1:W.ownsRow base 32 1 v wss.length es)(h2:es.length=wss.length)
  (h3:∀(i:Nat)(e:Value)(xs:List Int),es[i]?=some e->wss[i]?=some xs->Ch W base e xs.length xs/\∀x∈xs,0<=x/\x<=255)
  (I:Ch W base e xs.length xs) (H:∀x∈xs,0<=x/\x<=255) (X:w'.ownsRow base 32 1 v' (wss.length+1) (es++[e])) (J:W.grownBy w' v.ownBlock):BI w' base v' (wss++[xs]):=by
 have V:∀{e:Value}{n:Nat}{xs:List Int},Ch W base e n xs->e.ownBlock=none∨e.ownBlock≠v.ownBlock:=by
  intro e n xs ho
  cases D:v.ownBlock with
  |none=>cases e.ownBlock<;>simp
  |some g=>
   right
   obtain⟨c,z,C⟩:=Lib.ownsRow_kind h1 g D;exact Gz ho C (Lj kr)
 refine⟨es++[e],by rw[List.length_append];exact X,by simp[h2],λi A ys Z Y=>?_⟩;rw[List.getElem?_append]at Z Y
 by_cases N:i<es.length
 ·rw[Lc N]at Z;rw[Lc om]at Y;obtain⟨ho,B⟩:=h3 i A ys Z Y;exact⟨ho.kept J (V ho),B⟩
 ·rw[Lb N]at Z;rw[Lb om]at Y;have U:i-es.length=0:=by
   have:=(AP.1 Z).1;simp at this;omega
  rw[U]at Z;rw[show i-wss.length=0 by omega]at Y;simp at Z Y;subst Z Y;exact⟨I.kept J (V I),H⟩
def GK(fold:Bool)(Z:La)(x:List Int):La:=if BV fold x Z<0 then Z++[AO fold x] else Z
def AZ(fold:Bool)(wss:La):La:=wss.foldl (GK fold) []
theorem Ka(fold:Bool)(l:La)(x:List Int):AZ fold (l++[x])=GK fold (AZ fold l) x:=by simp[AZ,FI]
theorem Nb(fold:Bool)(l:La):(AZ fold l).length<=l.length:=by
 obtain⟨n,Y⟩:∃n,l.length=n:=⟨_,rfl⟩
 induction n generalizing l with
 |zero=>obtain rfl:=Bz Y;simp[AZ]
 |succ n ih=>
  obtain⟨Z,x,rfl⟩:∃Z x,l=Z++[x]:=⟨l.dropLast,l.getLast (by intro h;simp[h]at Y),(Em _).symm⟩;have:=ih Z (by simpa using Y);rw[Ka];unfold GK
  split<;>simp<;>omega
theorem aei{fold:Bool}{M:Nat}(l:La)(h:∀x∈l,x.length<=M):∀x∈AZ fold l,x.length<=M:=by
 obtain⟨n,V⟩:∃n,l.length=n:=⟨_,rfl⟩
 induction n generalizing l with
 |zero=>obtain rfl:=Bz V;simp[AZ]
 |succ n ih=>
  obtain⟨X,x,rfl⟩:∃X x,l=X++[x]:=⟨l.dropLast,l.getLast (by intro h;simp[h]at V),(Em _).symm⟩;have Y:=ih X (λy Z=>h y (by simp[Z])) (by simpa using V);rw[Ka];unfold GK
  split
  ·intro y Z
   rcases Bf.1 Z with Z|Z
   ·exact Y y Z
   ·simp at Z;rw[Z,Ew];exact h x sm
  ·exact Y
theorem NH{fn:Func}{p u:Tmp}{tmps:Array Value}{W:World}{B:Nat}{x y:Value}(h:fn.results=#[.cell p 24,.tmp u])(Z:tmps.getD p undef=pointer (some ⟨B,0,none⟩))(hB:W.heap[B]?=some (.cells #[x,y] 24 (0,0))) :(results fn tmps).run ZP W=.ok (.tuple #[.agg #[x,y],tmps.getD u undef]) W:=by have Y:(loadVar 24 ⟨B,0,none⟩).run ZP W=.ok (.agg #[x,y]) W:=run_loadVar_row W B 24 24 #[x,y] (0,0) _ hB underlying24 rfl kr;rw[results_cell_tmp h,Z];simp[asAddr,Y,Result.andThen]
theorem anQ(fold:Bool)(a:Option Addr)(X D:Nat)(wss:La)(w:World)(z:Wds w a X wss)(N:X<=1000000)(A:∀x∈wss,x.length<=1000000)(B:(Ad fold wss).length<=1000000)(C:Ey fold wss≠0) :Calls ZP 180 #[bool fold,slice a X D] w λe w'=>e=.returned (.tuple #[.agg (AM false none 0 0),int i64 (Ey fold wss)])/\Bt w w':=by
 have I:=z.below ((AH _ _).alloc (AC _) (.cells (AM false none 0 0) 24));obtain⟨n,U⟩:∃n,Ey fold wss=n:=⟨_,rfl⟩;have y:Hid (Ey fold wss=n):=U;rw[U]at C⊢;clear U;go_enter func180,ntmps180
 go_wp2_with fail
 refine(ae7 fold a X D wss _ I N A B).mono ?_;rintro e Z ⟨rfl,H⟩;rw[y.out];have Y:Z.heap[w.heap.size]?=some (.cells (AM false none 0 0) 24 (0,0)):=(H.block _ sm).trans (AT _ _);have J:Bt w Z:=((AH _ _).alloc (AC _) _).trans (H.mono sm);have z0:Z.cell? ⟨w.heap.size,0,none⟩=some (bool false):=by simp[cell?,Y]
 have s:Z.cell? ⟨w.heap.size,1,none⟩=some (slice none 0 0):=by simp[cell?,Y]
 have h:Z.frozen? ⟨w.heap.size,0,none⟩=false:=by simp[frozen?,Y]
 have j:Z.frozen? ⟨w.heap.size,1,none⟩=false:=by simp[frozen?,Y]
 go_wp2;have V:=AJ (i:=1) (AJ (i:=0) Y (bool false)) (slice none 0 0);refine Vf (NH rfl rfl (by simpa using V)) rfl ?_;exact⟨rfl,(J.setCell (AC _) _).setCell (AC _) _⟩
theorem agG(fold:Bool)(a:Option Addr)(Y N:Nat)(xs:List Int)(w:World)(U:Bys w a Y xs)(V:Y<=1000000) :Calls ZP 134 #[bool fold,slice a Y N] w λe w'=>∃X c1,e=.returned (slice X Y c1)/\Ch w' w.heap.size (slice X Y c1) Y (AO fold xs)/\Bt w w':=
 (ai8 fold a Y N xs w U V).mono λe w' ⟨v,J,Z,I⟩=>by obtain⟨X,c1,rfl,_,h⟩:=KL Z (MD U.2);exact⟨X,c1,J,Z,I⟩
theorem abR{w:World}{b b' n:Nat}{v:Value}{xs:List Int}(h:Ch w b v n xs)(Z:b'<=b):Ch w b' v n xs:=Go.Joins.ownsRow_le h Z
theorem OT:(ZP.info? 32).map (λi=>(i.zero,i.size,i.bytes))=some (some (slice none 0 0),1,24):=by kernel_rfl
theorem alL(fold:Bool)(a:Option Addr)(la ca:Nat)(wss:La)(w:World)(hA:Wds w a la wss)(al:la<=1000000)(hM:∀x∈wss,x.length<=1000000)(hT:(Ad fold wss).length<=1000000)(hc:Ey fold wss=0) :Calls ZP 180 #[bool fold,slice a la ca] w λe w'=>∃v,e=.returned (.tuple #[.agg #[bool fold,v],int i64 0])/\BI w' w.heap.size v (AZ fold wss)/\Bt w w':=by
  have aB:=hA.below ((AH _ _).alloc (AC _) (.cells (AM false none 0 0) 24));have HN:Hid (Ey fold wss=0):=hc;have HL:=AA hA.len;clear hc;go_enter func180,ntmps180
  go_wp2_with fail
  refine(ae7 fold a la ca wss _ aB al hM hT).mono ?_;rintro e Z ⟨rfl,hb⟩;rw[HN.out];have hz:Z.heap[w.heap.size]?=some (.cells (AM false none 0 0) 24 (0,0)):=(hb.block _ sm).trans (AT _ _);have aA:Bt w Z:=((AH _ _).alloc (AC _) _).trans (hb.mono sm);have ae:w.heap.size<Z.heap.size:=(AD.1 hz).1;go_wp2
  go_loopw[23] (λi wr=>∃(k:Nat)(v:Value),k<=la/\i=int i64 k/\Bt w wr/\wr.heap[w.heap.size]?=some (.cells (AM false none 0 0) 24 (0,0))/\wr.heap[Z.heap.size]?=some (.cells #[bool fold,v] 24 (0,0))/\BI wr w.heap.size v (AZ fold (wss.take k))) (λi _=>la-(intOf i).toNat)
  case atStart=>exact⟨0,slice none 0 0,AR _,rfl,aA.alloc om _,(Bg _ _ _ ae).trans hz,AT _ _,by simpa[AZ]using BI.nil _ _⟩
  case round=>
    obtain⟨k,v,hk,rfl,a2,Y,N,V⟩:=hrel
    by_cases ak:k<la
    ·
      obtain⟨bb,off,a',l,c,x,rfl,aH,aa,hx,hX,aF⟩:=(hA.below a2).at_ ak;have ah:l<=1000000:=by have:=Ff hM hx;rw[hX.len]at this;exact this
      obtain⟨H,I,rfl,au,hW⟩:=V.wds;have s0:wr.cell? ⟨Z.heap.size,0,none⟩=some (bool fold):=by simp[cell?,N]
      have s1:wr.cell? ⟨Z.heap.size,1,none⟩=some (slice H (AZ fold (wss.take k)).length I):=by simp[cell?,N]
      have ad:(AZ fold (wss.take k)).length<=1000000:=by have:=Nb fold (wss.take k);have:=MU k wss;omega
      have HX:=AA hx;clear hx
      go_wp2_with fail
      refine(ahu fold a' H l c _ I x (AZ fold (wss.take k)) wr hX hW ad (aei _ (λy hy=>hM y (EG hy)))).mono ?_;rintro e U ⟨rfl,z⟩;have a6:Bt w U:=a2.trans (z.mono a2.size);have C:U.heap[w.heap.size]?=_:=(z.block _ (AD.1 Y).1).trans Y;have B:U.heap[Z.heap.size]?=_:=(z.block _ (AD.1 N).1).trans N;have A:=V.below z;clear V hW N Y s0 s1 aa;have HM:Hid (AZ fold (wss.take (k+1))=GK fold (AZ fold (wss.take k)) x):=by rw[As HX.out,Ka];rfl
      obtain⟨q,hq⟩:∃q,BV fold x (AZ fold (wss.take k))=q:=⟨_,rfl⟩;have HQ:Hid (BV fold x (AZ fold (wss.take k))=q):=hq;rw[hq];clear hq
      by_cases ac:0<=q
      ·
        rw[Lb om,Lz ac];have HF:Hid (AZ fold (wss.take (k+1))=AZ fold (wss.take k)):=by
          rw[HM.out];unfold GK;rw[HQ.out,Lb om]
          rfl
        go_wp2
        go_roundw
        case rel=>exact⟨k+1,_,by omega,by go_num,a6,C,B,by rw[HF.out];exact A⟩
        case measure=>simp[intOf];omega
      ·
        rw[Lc om,decide_eq_false ac];have HF:Hid (AZ fold (wss.take (k+1))=AZ fold (wss.take k)++[AO fold x]):=by
          rw[HM.out];unfold GK;rw[HQ.out,Lc om]
          rfl
        obtain⟨i0,hi,aq,ap,ao⟩:=Ve OT;have s1:U.cell? ⟨Z.heap.size,1,none⟩=some (slice H (AZ fold (wss.take k)).length I):=by simp[cell?,B]
        obtain⟨es,e1,e2,e3⟩:=A;have ay:∀n,Bys (U.drewN n) a' l x:=λn=>(hX.below z).below ⟨rfl,rfl,rfl,AC _,λ_ _=>rfl⟩;have hd:∀n,Bt U (U.drewN n):=λn=>⟨rfl,rfl,rfl,AC _,λ_ _=>rfl⟩;obtain⟨m,hm⟩:∃m,(AZ fold (wss.take k)).length=m:=⟨_,rfl⟩;rw[hm]at s1 B e1 e2 ad⊢;have ab:=AA hm;clear hm;go_wp2;have ax:Bys U.drew a' l x:=ay 1;have ar:Bt U U.drew:=hd 1
        go_region_law (first
          | (go_simp;go_at_call 134;refine (agG fold a' l c x U.drew ax ah).mono ?_;rintro e w3 ⟨a3,c3,rfl,a7,aw⟩
             have s:Bt U w3:=ar.trans aw;have h:=DJ e1 s;have D:w3.heap[Z.heap.size]?=some (.cells #[bool fold,slice H m I] 24 (0,0)):=(s.block _ (AD.1 B).1).trans B;have af:w3.cell? ⟨Z.heap.size,1,none⟩=some (slice H m I):=by simp[cell?,D]
             have am:Z.heap.size<w3.heap.size:=(AD.1 D).1;have aD:Z.heap.size≠w3.heap.size:=by omega
             have aC:w3.heap.size≠Z.heap.size:=by omega
             have aE:(w3.alloc (.cells #[slice a3 l c3] 32)).cell? ⟨Z.heap.size,1,none⟩=some (slice H m I):=by rw[OH _ _ _ am];exact af
             have aj:=Gz h D (Lj kr);have J:Bt w w3:=a6.trans (s.mono a6.size);dsimp only)
          | (refine step_append_lies _ (by rfl) _ _ 22 (by rfl) w.heap.size 32 i0 (.slice none 0 0) 1 24 underlying22 hi aq ap ao rfl (by decide) (.slice H m I) m es (by rfl) (h.alloc _) ⟨w3.heap.size,0,none⟩ 1 1 [.slice a3 l c3] (by rfl) rfl (cell_one_new _ _ _) (by simp [Value.oneCell']) (by decide) (by unfold maxLen;omega) om (by have:=J.size;simp;omega) _ rfl ?_
             intro g5 c5 w5 a8 X aI aG;have a1:w5.heap[Z.heap.size]?=some (.cells #[bool fold,slice H m I] 24 (0,0)):=(X.block _ (by simp;have:=(AD.1 D).1;omega) (Ne.symm aj)).trans ((Bg _ _ _ (AD.1 D).1).trans D);have q0:w5.cell? ⟨Z.heap.size,1,none⟩=some (slice H m I):=by simp[cell?,a1]
             have q1:w5.frozen? ⟨Z.heap.size,1,none⟩=false:=by simp[frozen?,a1]))
        all_goals
          go_wp2;have az:Bt w w5:=(J.alloc (by have:=J.size;omega) _).grown X (by simp;have:=J.size;omega) (λj hj=>(h.lt j hj).1);have ag:w5.heap[w.heap.size]?=some (.cells (AM false none 0 0) 24 (0,0)):=by have h3:w3.heap[w.heap.size]?=_:=(s.block _ (AD.1 C).1).trans C;exact(X.block _ (by simp;have:=(AD.1 h3).1;omega) (Ne.symm (Gz h h3 (Lj kr)))).trans ((Bg _ _ _ (AD.1 h3).1).trans h3)
          go_roundw
          case rel=>
            refine⟨k+1,_,by omega,by go_num,az.setCell (by show w.heap.size<=Z.heap.size;omega) _,(AQ w5 ⟨Z.heap.size,1,none⟩ _ _ (by simp;omega)).trans ag,by simpa using AJ (i:=1) a1 (.slice (some ⟨g5,0,none⟩) (m+1) c5),?_⟩;rw [HF.out];have ai:=BI.step (wss:=AZ fold (wss.take k)) (xs:=AO fold x) (e:=.slice a3 l c3) (es:=es) (v:=.slice H m I) (by rw [ab.out];exact h.alloc _) (by rw [ab.out];exact e2)
              (λi e xs he hx=>⟨DJ (DJ (e3 i e xs he hx).1 s) ((AH _ _).alloc (AC _) _),(e3 i e xs he hx).2⟩) (by rw[Ew,hX.len];exact(abR (a7.alloc _) (by have:=a6.size;simpa using this))) (MD hX.2) (by rw[ab.out];exact a8) X
            exact ai.turned (BH w5 Z.heap.size 1 _) a1 (Lj kr) (Lj kr)
          case measure=>simp[intOf];omega
    ·
      obtain rfl:k=la:=by omega
      have HF:Hid (wss.take k=wss):=Ap (by have:=HL.out;omega);have s0:wr.cell? ⟨Z.heap.size,0,none⟩=some (bool fold):=by simp[cell?,N]
      obtain⟨H,I,rfl,au,hW⟩:=V.wds;have s1:wr.cell? ⟨Z.heap.size,1,none⟩=some (slice H (AZ fold (wss.take k)).length I):=by simp[cell?,N]
      have z0:wr.cell? ⟨w.heap.size,0,none⟩=some (bool false):=by simp[cell?,Y]
      have z1:wr.cell? ⟨w.heap.size,1,none⟩=some (slice none 0 0):=by simp[cell?,Y]
      have y0:wr.frozen? ⟨w.heap.size,0,none⟩=false:=by simp[frozen?,Y]
      have y1:wr.frozen? ⟨w.heap.size,1,none⟩=false:=by simp[frozen?,Y]
      go_wp2;have C:=AJ (i:=1) (AJ (i:=0) Y (bool fold)) (slice H (AZ fold (wss.take k)).length I);refine Vf (NH rfl rfl (by simpa using C)) rfl ?_;refine⟨_,rfl,?_,(a2.setCell (AC _) _).setCell (AC _) _⟩;have ho:=(V.turned (BH wr w.heap.size 0 (bool fold)) Y (Lj kr) (Lj kr)).turned (BH _ w.heap.size 1 (slice H (AZ fold (wss.take k)).length I)) (AJ (i:=0) Y (bool fold)) (Lj kr) (Lj kr);rw[HF.out]at ho⊢;exact ho
def An(fold:Bool)(wss:La):Bool:=decide (Ey fold wss=0)&&decide (AZ fold wss=wss)
theorem aaM(fold:Bool)(a:Option Addr)(X J:Nat)(wss:La)(w:World)(h:Wds w a X wss)(C:X<=1000000)(hM:∀x∈wss,x.length<=1000000)(hT:(Ad fold wss).length<=1000000) :Calls ZP 130 #[.agg (AM fold a X J)] w λe w'=>e=.returned (bool (An fold wss))/\Bt w w':=by
 have N:Bt w (w.alloc (.cells (AM fold a X J) 24)):=(AH _ _).alloc (AC _) _;have B:=h.below N;have H:=AT w (.cells (AM fold a X J) 24)
 by_cases V:Ey fold wss=0
 ·have HR:Hid (An fold wss=DH fold fold (AZ fold wss) wss):=by simp[Hid,An,DH,V]
  go_enter func130,ntmps130
  go_wp2_with fail
  refine(alL fold a X J wss _ B C hM hT V).mono ?_;rintro e Y ⟨v,rfl,I,A⟩;have Z:Bt w Y:=N.trans (A.mono sm);obtain⟨av,cv,rfl,a7,hW⟩:=I.wds;have h1:Y.heap[w.heap.size]?=_:=(A.block _ sm).trans H;have a1:w.heap.size<Y.heap.size:=(AD.1 h1).1;have c0:Y.cell? ⟨w.heap.size,0,none⟩=some (bool fold):=by simp[cell?,h1]
  have c1:Y.cell? ⟨w.heap.size,1,none⟩=some (slice a X J):=by simp[cell?,h1]
  have D:(AZ fold wss).length<=1000000:=by have:=Nb fold wss;have:=h.len;omega
  have a2:w.heap.size≠Y.heap.size:=by omega
  have U:Bt Y (Y.alloc (.cells (AM fold av (AZ fold wss).length cv) 24)):=(AH _ _).alloc (AC _) _;have s:=hW.below U;have j:=(h.below Z).below U;clear V
  go_wp2_with fail
  refine(ajv fold fold av a _ cv X J (AZ fold wss) wss _ s j D).mono ?_;rintro e w3 ⟨rfl,y⟩;go_wp2;go_ret;exact⟨by rw[HR.out];rfl,Z.trans ((U.trans (y.mono sm)).mono Z.size)⟩
 ·have HR:Hid (An fold wss=false):=by simp[Hid,An,V]
  obtain⟨n,z⟩:∃n,Ey fold wss=n:=⟨_,rfl⟩;have HC:=AA V;have HN:Hid (Ey fold wss=n):=z;rw[z]at V;clear z;have a6:(n==0)=false:=by simp[V]
  go_enter func130,ntmps130
  go_wp2_with fail
  refine(anQ fold a X J wss _ B C hM hT HC.out).mono ?_;rintro e Y ⟨rfl,A⟩;rw[HN.out];have Z:Bt w Y:=N.trans (A.mono sm);go_wp2;go_ret;exact⟨by rw[HR.out];rfl,Z.alloc Z.size _⟩
def Cs(wss:La):Int:=(wss.map λw=>min (w.length:Int) 4000).sum
def Ev(wss:La):Bool:=decide (wss.length > 80∨Cs wss > 3000)
theorem aku(l:La)(x:List Int):Cs (l++[x])=Cs l+min (x.length:Int) 4000:=by simp[Cs]
theorem aax:∀(l:La),0<=Cs l
 |[]=>by simp[Cs]
 |x::l=>by have:=aax l;simp only[Cs,BO,List.sum_cons]at this⊢;omega
theorem afM(l m:La):Cs (l++m)=Cs l+Cs m:=by simp[Cs]
theorem ajs(l:La)(k:Nat):Cs (l.take k)<=Cs l:=by have h:=afM (l.take k) (l.drop k);rw[Dx]at h;have:=aax (l.drop k);omega
theorem acB(a:Option Addr)(Z ca:Nat)(wss:La)(w:World)(y:Wds w a Z wss) :Calls ZP 47 #[slice a Z ca] w λe w'=>e=.returned (bool (Ev wss))/\w=w':=by
 have j:=AA y.len;obtain⟨G,I⟩:∃G,Ev wss=G:=⟨_,rfl⟩;have HG:Hid (Ev wss=G):=I;rw[I];clear I;go_enter func47,ntmps47;go_wp2
 go_loop[3,4] (λs i=>∃(k:Nat)(n:Int),k<=Z/\k<=81/\i=int i64 k/\s=int i64 n/\0<=n/\n<=7000/\Hid (n=Cs (wss.take k))) (λ_ i=>Z-(intOf i).toNat)
 case atStart=>exact⟨0,0,AR _,by omega,rfl,rfl,by omega,by omega,by simp[Hid,Cs]⟩
 case round=>
  obtain⟨k,n,hk,A,rfl,rfl,a6,a2,H⟩:=hrel;have U:¬(k<Z/\k<=80/\n<=3000)->Z<=80->Hid (G=decide (n > 3000)):=by
   intro h1 h2;have B:=j.out;have ht:=ajs wss k;rw[Hid,<-HG.out];unfold Ev
   by_cases C:n > 3000
   ·rw[Lz C,Lz]
    right
    have:=H.out;omega
   ·have ab:k=Z:=by omega
    rw[decide_eq_false C,decide_eq_false];rintro(h|h)
    ·omega
    ·have h3:=H.out;rw[Ap om]at h3;omega
  have X:80<Z->Hid (G=true):=by intro h;rw[Hid,<-HG.out];exact Lz (.inl (by have:=j.out;omega))
  have HF:=AA U;have V:=AA X;clear U X
  by_cases N:k<Z
  ·by_cases ad:k<=80
   ·by_cases a1:n<=3000
    ·obtain⟨bb,off,a',l,c,x,rfl,ac,J,D,z,aa⟩:=y.at_ N;have HS:Hid (n+min (l:Int) 4000=Cs (wss.take (k+1))):=by rw[Hid,As D,aku,z.len,H.out]
     clear D z;have a8:0<=min (l:Int) 4000:=by omega
     have a7:min (l:Int) 4000<=4000:=by omega
     go_wp2
     go_round
     case rel=>exact⟨k+1,_,by omega,by omega,by go_num,rfl,by omega,by omega,HS⟩
     case measure=>simp[intOf];omega
    ·by_cases h8:Z<=80
     ·have Y:=HF.out om h8;go_wp2;go_ret;exact⟨by rw[Y.out];simp;try omega,rfl⟩
     ·have Y:=V.out om;go_wp2;go_ret;exact⟨by rw[Y.out];simp;try omega,rfl⟩
   ·have Y:=V.out om;go_wp2;go_ret;exact⟨by rw[Y.out];simp;try omega,rfl⟩
  ·by_cases h8:Z<=80
   ·have Y:=HF.out om h8;go_wp2;go_ret;exact⟨by rw[Y.out];simp;try omega,rfl⟩
   ·have Y:=V.out om;go_wp2;go_ret;exact⟨by rw[Y.out];simp;try omega,rfl⟩
theorem ai3(fold:Bool)(a:Option Addr)(Y V:Nat)(wss:La)(w:World)(U:Wds w a Y wss) :Calls ZP 45 #[.agg (AM fold a Y V)] w λe w'=>e=.returned (bool (Ev wss))/\Bt w w':=by
 have Z:Bt w (w.alloc (.cells (AM fold a Y V) 24)):=(AH _ _).alloc (AC _) _;have X:=U.below Z;go_enter func45,ntmps45
 go_wp2_with fail
 refine(acB a Y V wss _ X).mono ?_;rintro e N ⟨rfl,rfl⟩;go_wp2;go_ret;exact⟨rfl,Z⟩
end Go.Proofs.YtaamacoicojhnaaGreat
