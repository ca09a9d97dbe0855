/- Proofs over the given program, part 4. -/
import Derived.Test.YtaamacoicojhnaaGreatZR3
set_option linter.unusedVariables false
set_option linter.unusedSimpArgs false
set_option maxRecDepth 100000
set_option maxHeartbeats 16000000
open Go.Proofs.Tryz
open Go.Proofs.Tryz renaming prog→ZP
open Go.World(cell? frozen?)
open Go.Value(int slice pointer bool)
open Go.IntKind(i64)
namespace Go.Proofs.YtaamacoicojhnaaGreat
open Go.RowKit Go.Sort
section
open Go.RowKit Go.Sort Go.Maps Go.WideAt Go.WideMaps
def ofI(xs:List Int):Byt:=xs.map λn=>UInt8.ofNat n.toNat
theorem agO(xs:List Int):strOfNums xs=Bh (ofI xs):=rfl
theorem Mj{xs:List Int}(h:∀x∈xs,0<=x/\x<=255):toI (ofI xs)=xs:=by
 unfold toI ofI;rw[List.map_map]
 conv=>rhs;rw[<-List.map_id xs]
 apply OJ
 intro x Z;have:=h x Z;simp only[Function.comp,id,UInt8.toNat_ofNat'];omega
theorem ao9(l:Byt):ofI (toI l)=l:=LS (Mj λx Z=>by unfold toI at Z;obtain⟨b,_,rfl⟩:=Be.1 Z;have:=b.toNat_lt;omega)
theorem Oe(l:Byt):(Bh l).size=l.length:=by simp[Bh,ByteArray.size]
theorem LV:Keyed ZP 9:=Keyed.of_law (string_law underlying9)
theorem LW(l:Byt)(h:l.length<=maxLen):keyOf ZP 9 (Ca l)=some (.string l):=by
 have:=keyOf_string_mk (P:=ZP) underlying9 (s:=Bh l) (by rw[Oe];exact h);have e:(Bh l).data.toList=l:=by simp[Bh]
 rw[e]at this;exact this
theorem aeQ(w:World):(zeroValue 3).run ZP w=.ok (int i64 0) w:=by kernel_rfl
def MS(W:World)(b n:Nat)(f:Byt->Option Int):Prop:=
 ∃D:DataW Unit,W.ownsMap ZP 9 (plainElem ZP 3) b n D/\IsMap D/\∀l:Byt,Maps.has D (.string l)=(f l).isSome/\∀m,f l=some m->D.atKey (.string l) (.lit (.int .i64 0))=.lit (.int .i64 m)
theorem MS.start{b:Nat}(w:World)(Z:w.ownsMap ZP 9 (plainElem ZP 3) b 0 (.map []:DataW Unit)):MS w b 0 (λ_=>none):=⟨_,Z,isMap_empty,λl=>⟨rfl,λm h=>by cases h⟩⟩
theorem MS.kept{W Y:World}{b n:Nat}{f:Byt->Option Int}{row:Option Nat}(h:MS W b n f)(X:W.grownBy Y row)(Z:row≠some b):MS Y b n f:=by obtain⟨D,h1,h2⟩:=h;exact⟨D,h1.kept X (λe=>Z e.symm),h2⟩
theorem MS.alloc{W:World}{b n:Nat}{f:Byt->Option Int}(h:MS W b n f)(o:Obj):MS (W.alloc o) b n f:=by obtain⟨D,h1,h2⟩:=h;exact⟨D,h1.alloc o,h2⟩
section
variable {w:World}{ops:Array Oper}{rest:List Oper}{o:Oper}{a:Act}{Q:Exit->Act->World->Prop}{b n:Nat}{f:Byt->Option Int}
theorem OR(I:o.guard=none)(m x:Operand)(Y:o.op=Op.lookup 228 m x true)(N:a.eval m=.map (some b))(Z:MS w b n f)(l:Byt)(V:a.eval x=Ca l)(J:l.length<=maxLen)
  (H:∀c:Int,(∀q,f l=some q->c=q)->wpList ZP ops Q rest (a.put o.dst (.tuple #[int i64 c,bool (f l).isSome])) w):wpList ZP ops Q (o::rest) a w:=by
 obtain⟨D,h1,h2,h3⟩:=Z;refine wpList_lookup_own_ok_int _ I m x 228 Y 9 3 .i64 LV underlying228 underlying3 (aeQ _) b n D N h1 _ _ V (LW l J) ?_;intro c X _;rw[(h3 l).1];exact H c λq U=>by have:=X.symm.trans ((h3 l).2 q U);simpa using this
theorem MS.put_{D:DataW Unit}{v:Int}{l:Byt}(h2:IsMap D)(h3:∀l:Byt,Maps.has D (.string l)=(f l).isSome/\∀m,f l=some m->D.atKey (.string l) (.lit (.int .i64 0))=.lit (.int .i64 m))(V:l.length<=maxLen) :IsMap (D.put (.string l) (.lit (.int .i64 v)))/\∀k:Byt,Maps.has (D.put (.string l) (.lit (.int .i64 v))) (.string k)=(if k=l then some v else f k).isSome/\∀m,(if k=l then some v else f k)=some m->(D.put (.string l) (.lit (.int .i64 v))).atKey (.string k) (.lit (.int .i64 0))=.lit (.int .i64 m):=by
 have Z:=LV.key (LW l V);refine⟨h2.put _ _,λk=>?_⟩
 by_cases e:k=l
 ·subst e;rw[Lc rfl];refine⟨by rw[has_put_same h2 Z];rfl,λm Y=>?_⟩;obtain rfl:=AK Y;rw[atKey_put_same h2 Z]
 ·have X:(Lit.string k)≠Lit.string l:=λh=>e (by injection h);rw[Lb e];exact⟨by rw[has_put_other X,(h3 k).1],λm Y=>by rw[atKey_put_other X,(h3 k).2 m Y]⟩
theorem OQ(z:o.guard=none)(m x y:Operand)(Y:o.op=Op.mapUpdate 228 m x y)(A:a.eval m=.map (some b))(Z:MS w b n f)(B:n<maxLen)(l:Byt)(v:Int)(C:(Lit.int .i64 v).wf=true)(I:a.eval x=Ca l)(J:a.eval y=.int .i64 v)(V:l.length<=maxLen)
  (s:∀w',MS w' b (n+1) (λk=>if k=l then some v else f k)->w.grownBy w' (some b)->wpList ZP ops Q rest (a.put o.dst undef) w'):wpList ZP ops Q (o::rest) a w:=by
 obtain⟨D,h1,h2,h3⟩:=Z;obtain⟨N,U⟩:=MS.put_ (f:=f) (v:=v) h2 h3 V;refine wpList_mapUpdate_own _ z m x y 228 Y 9 3 LV underlying228 _ b n D A h1 B _ _ _ I J (LW l V) _ [] (plainElem_int underlying3 C) ?_;intro w' H X;exact s w' ⟨_,H,N,U⟩ X
theorem ade(j:o.guard=none)(m x y:Operand)(X:o.op=Op.insert 228 m x y)(s:a.eval m=.map (some b))(Y:MS w b n f)(z:n<maxLen)(l:Byt)(v:Int)(A:(Lit.int .i64 v).wf=true)(B:a.eval x=Ca l)(C:a.eval y=.int .i64 v)(U:l.length<=maxLen)
  (h:∀w',MS w' b (n+1) (λk=>if k=l then some v else f k)->w.grownBy w' (some b)->wpList ZP ops Q rest (a.put o.dst undef) w'):wpList ZP ops Q (o::rest) a w:=by
 obtain⟨D,h1,h2,h3⟩:=Y;obtain⟨H,I⟩:=MS.put_ (f:=f) (v:=v) h2 h3 U;refine wpList_plain j λe V=>?_;obtain⟨w',Z,J,N⟩:=h1.update LV underlying228 z (LW l U) (plainElem_int underlying3 A);unfold Oper.wp;simp[execOp,X,s,B,C,Z,Result.andThen];exact V _ _ (h w' ⟨_,J,H,I⟩ N)
end
end
/-! ### plain -/
def Gk(l:List Byt)(b:Byt):List Byt:=if b∈l then l else l++[b]
def ER(l:List Byt)(x:Byt)(k:Nat):List Byt:=(List.range k).foldl (λl j=>Gk l (x.take (j+1))) l
def Eg(ws:List Byt):List Byt:=ws.foldl (λl x=>ER l x x.length) [[]]
theorem Nu(l:List Byt)(x:Byt)(k:Nat):ER l x (k+1)=Gk (ER l x k) (x.take (k+1)):=by simp[ER,El,FI]
theorem aav(ws:List Byt)(x:Byt):Eg (ws++[x])=ER (Eg ws) x x.length:=by simp[Eg,FI]
theorem alv{l:List Byt}{b x:Byt}:x∈Gk l b↔x∈l∨x=b:=by
 unfold Gk
 split
 ·constructor
  ·exact .inl
  ·rintro(h|rfl)<;>assumption
 ·simp
theorem ahC{l:List Byt}{b:Byt}(h:l.Nodup):(Gk l b).Nodup:=by
 unfold Gk
 split
 ·exact h
 ·rename_i Y
  rw[List.nodup_append];refine⟨h,by simp,λa ha c Z e=>?_⟩;simp at Z;subst Z;subst e;exact Y ha
theorem amn(l:List Byt)(b:Byt):l.length<=(Gk l b).length/\(Gk l b).length<=l.length+1:=by
 unfold Gk
 split<;>simp
theorem abF(l:List Byt)(x:Byt):∀k,l.length<=(ER l x k).length/\(ER l x k).length<=l.length+k
 |0=>by simp[ER]
 |k+1=>by have h1:=abF l x k;have h2:=amn (ER l x k) (x.take (k+1));rw[Nu];omega
theorem acx{l:List Byt}(x:Byt)(h:l.Nodup):∀k,(ER l x k).Nodup/\∀y,y∈ER l x k↔y∈l∨∃j,1<=j/\j<=k/\y=x.take j
 |0=>by
  refine⟨by simpa[ER]using h,λy=>?_⟩
  constructor
  ·intro Z;exact .inl (by simpa[ER]using Z)
  ·rintro(Z|⟨j,h1,h2,_⟩)
   ·simpa[ER]using Z
   ·omega
 |k+1=>by
  obtain⟨h1,h2⟩:=acx x h k;rw[Nu];refine⟨ahC h1,λy=>?_⟩;rw[alv,h2]
  constructor
  ·rintro((Z|⟨j,a1,a2,a3⟩)|Z)
   ·exact .inl Z
   ·exact .inr ⟨j,a1,by omega,a3⟩
   ·exact .inr ⟨k+1,by omega,by omega,Z⟩
  ·rintro(Z|⟨j,a1,a2,a3⟩)
   ·exact .inl (.inl Z)
   ·by_cases e:j=k+1
    ·subst e;exact .inr a3
    ·exact .inl (.inr ⟨j,a1,by omega,a3⟩)
theorem MG(ws:List Byt):(Eg ws).Nodup/\∀y,y∈Eg ws↔y=[]∨∃x∈ws,∃k,1<=k/\k<=x.length/\y=x.take k:=by
 refine IT (P:=λws=>(Eg ws).Nodup/\∀y,y∈Eg ws↔y=[]∨∃x∈ws,∃k,1<=k/\k<=x.length/\y=x.take k) (by simp[Eg]) (λws x ⟨h1,h2⟩=>?_) ws;rw[aav];obtain⟨X,Y⟩:=acx x h1 x.length;refine⟨X,λy=>?_⟩;rw[Y,h2]
 constructor
 ·rintro((h|⟨z,Z,r⟩)|⟨j,a1,a2,a3⟩)
  ·exact .inl h
  ·exact .inr ⟨z,by simp[Z],r⟩
  ·exact .inr ⟨x,by simp,j,a1,a2,a3⟩
 ·rintro(h|⟨z,Z,k,a1,a2,a3⟩)
  ·exact .inl (.inl h)
  ·rcases Bf.1 Z with Z|Z
   ·exact .inl (.inr ⟨z,Z,k,a1,a2,a3⟩)
   ·simp at Z;subst Z;exact .inr ⟨k,a1,a2,a3⟩
def Ef(ws:List Byt):Nat:=(ws.map List.length).sum
theorem ahA(ws:List Byt):(Eg ws).length<=1+Ef ws:=by
 refine IT (P:=λws=>(Eg ws).length<=1+Ef ws) (by simp[Eg,Ef]) (λws x h=>?_) ws;rw[aav];have:=(abF (Eg ws) x x.length).2;have e:Ef (ws++[x])=Ef ws+x.length:=by simp[Ef]
 omega
theorem agk(x:Byt)(k:Nat):toI (x.take k)=(toI x).take k:=by simp[toI,List.map_take]
theorem aeF{wss:La}(V:∀w∈wss,∀x∈w,0<=x/\x<=255){l:List Byt}(h1:l.Perm (Eg (wss.map ofI)))(h2:ED (l.map toI)):l.map toI=AB wss:=by
 refine adt h2 λx=>?_;rw[Be]
 constructor
 ·rintro⟨y,X,rfl⟩;rw[h1.mem_iff,(MG _).2]at X
  rcases X with rfl|⟨z,U,k,Y,a2,rfl⟩
  ·exact .inl rfl
  ·obtain⟨w,Z,rfl⟩:=Be.1 U;refine .inr ⟨w,Z,k,Y,by simpa[ofI]using a2,?_⟩;rw[agk,Mj (V w Z)]
 ·rintro(rfl|⟨w,Z,k,Y,a2,rfl⟩)
  ·exact⟨[],by rw[h1.mem_iff,(MG _).2];exact .inl rfl,rfl⟩
  ·refine⟨(ofI w).take k,?_,by rw[agk,Mj (V w Z)]⟩;rw[h1.mem_iff,(MG _).2];exact .inr ⟨ofI w,Be.2 ⟨w,Z,rfl⟩,k,Y,by simpa[ofI]using a2,rfl⟩
section
open Go.RowKit Go.Sort Go.Shelf
theorem abX{α:Type} [Inhabited α] (enc:α->Value){B:Nat}{X W:World}(h:Below B X W)(g off n:Nat)(d:Array α)(os:Array Obj)(U:B<=g)(V:B<=W.heap.size):Below B X (sortWorld enc W g off n d os):=by
 have Z:(sortWorld enc W g off n d os).heap.size=W.heap.size+os.size:=by simp[sortWorld,putRow,mapBlock,Go.Sort.grow,Go.Sort.ahead]
 refine⟨h.os,h.tape,h.output,by rw[Z];have:=h.size;omega,λk hk=>?_⟩;have Y:k<W.heap.size:=by omega
 refine Eq.trans ?_ (h.block k hk);show((W.heap.modify g _)++os)[k]?=_;rw[Array.getElem?_append_left (by simpa using Y),Js,Lb om]
theorem af9(g cap:Nat)(l:List Byt)(w:World)(J:g<w.heap.size)(hc:∀i x,l[i]?=some x->w.cell? ⟨g,i,none⟩=some (Ca x)/\w.frozen? ⟨g,i,none⟩=false)(A:l.length<4611686018427387904) :Calls ZP 182 #[.slice (some ⟨g,0,none⟩) l.length cap,.func (.func 183) #[] #[]] w λe w'=>e=.returned (.tuple #[])/\
   ∃V:List Byt,V.Perm l/\V.Pairwise (λa b=>ltS (toI b) (toI a)=false)/\Sl1 Ca w' (some ⟨g,0,none⟩) l.length V/\∀B X,Below B X w->B<=g->B<=w.heap.size->Below B X w':=by
 have D:Holds Ca w g 0 l.toArray:=λj H=>by
  have z:j<l.length:=by simpa using H
  obtain⟨h1,h2⟩:=hc j l[j] sm;rw[DD];refine⟨?_,h2⟩;rw[h1,getElem!_pos l.toArray j H];simp
 have h:=Any.slices_SortFunc_total (P:=ZP) (ρ:=abg) an5 Ca (λ_=>rfl) cfS Ns 183 #[] g 0 cap l.toArray w (enters_of func183 kr rfl)
  (λm os dk hs x y=>by have:=ahr x y (sortWorld Ca w g 0 m dk os);exact this)
  D J (by simpa using A) ajS
 have U:l.toArray.size=l.length:=by simp
 rw[U]at h;refine Calls.mono h ?_;rintro e w' ⟨s,n,os,rfl⟩;have Z:(l.mergeSort λx y=>!(ltOf cfS) y x).Perm l:=List.mergeSort_perm l _;have Y:(l.mergeSort λx y=>!(ltOf cfS) y x).Pairwise (λx y=>(!(ltOf cfS) y x)=true):=by
  refine List.pairwise_mergeSort (le:=λx y=>!(ltOf cfS) y x) (λa b c h1 h2=>?_) (λa b=>?_) l
  ·simp only[Bool.not_eq_true',Bool.not_eq_eq_eq_not,Bool.not_true]at h1 h2⊢;exact Ns.ntrans _ _ _ h2 h1
  ·cases e1:ltOf cfS b a with
   |false=>simp
   |true=>
    cases e2:ltOf cfS a b with
    |false=>simp
    |true=>exact absurd (Ns.trans _ _ _ e1 e2) (by rw[Ns.irrefl];simp)
 refine⟨s,_,Z,Y.imp λ{a b} h=>?_,⟨Z.length_eq,.inr ⟨g,0,rfl,lt_sortWorld _ _ _ _ _ _ _ J,λi x C=>?_⟩⟩,λB X hb h1 h2=>abX _ hb _ _ _ _ _ h1 h2⟩
 ·rw[<-Lt]
  simpa using h
 ·have I:=holds_sortWorld Ca w g 0 n l.toArray (l.mergeSort λx y=>!(ltOf cfS) y x).toArray os J D (by simp[Z.length_eq]);have N:=(AP.1 C);have:=(I i (by simpa using N.1)).1;rw[getElem!_pos _ i (by simpa using N.1)]at this;simp only[List.getElem_toArray]at this;rw[N.2]at this
  rwa[DD]at this⊢
end
theorem alA:(ZP.info? 9).map (λi=>(i.zero,i.size,i.bytes))=some (some (.string ⟨#[]⟩),1,16):=by kernel_rfl
abbrev apb(w:World)(base:Nat)(v:Value)(l:List Byt):Prop:=w.ownsRow base 9 1 v l.length (l.map Ca)
theorem OW{n:Nat}(h:n<=1000000000):(Lit.int .i64 (n:Int)).wf=true:=by simp[Lit.wf,IntKind.min,IntKind.max,IntKind.signed,IntKind.bits];omega
theorem ajc{Z:List Byt}{f:Byt->Option Int}(Y:∀x,(f x).isSome=decide (x∈Z)){b:Byt}{v:Int}:∀x,(if x=b then some v else f x).isSome=decide (x∈Z++[b]):=λx=>by
 by_cases e:x=b
 ·rw[Lc e];simp[e]
 ·rw[Lb e,Y x];simp[e]
theorem adG(wss:La)(k:Nat):Ef ((wss.take k).map ofI)<=Ef (wss.map ofI):=by
 have e:Ef (wss.map ofI)=Ef ((wss.take k).map ofI)+Ef ((wss.drop k).map ofI):=by unfold Ef;rw[<-List.sum_append,<-Aj,<-Aj,Dx]
 omega
theorem amO{w:World}{n:Nat}{e:TypeId}{size k:Nat}{v:Value}{xs:List Value}(h:w.ownsRow (n+1) e size v k xs):v.ownBlock=none∨v.ownBlock≠some n:=by
 rcases h.2 with⟨rfl,_⟩|⟨g,cap,Z,rfl,Y,_⟩
 ·exact .inl rfl
 ·exact .inr (by simp[Value.ownBlock];omega)
theorem Wds.bytes{w:World}{a:Option Addr}{U:Nat}{wss:La}(h:Wds w a U wss):∀x∈wss,∀c∈x,0<=c/\c<=255:=λx N c V=>by obtain⟨i,X⟩:=DR N;have Y:=(AP.1 X).1;rw[h.len]at Y;obtain⟨_,_,_,_,_,I,_,_,_,Z,J,_⟩:=h.at_ Y;rw[X]at Z;rw[AK Z]at V;exact J.2 c V
structure GB(w:World)(s4:Value)(lst:List Byt)(W:World):Prop where
 bel:Bt w W
 row:apb W (w.heap.size+1) s4 lst
 map:∃f,MS W w.heap.size lst.length f/\∀x,(f x).isSome=decide (x∈lst)
 sz:w.heap.size+1<W.heap.size
theorem ame(a:Option Addr)(A ca:Nat)(wss:La)(w:World)(hA:Wds w a A wss)(b3:A<=1000000)(hM:∀x∈wss,x.length<=1000000)(hS:Ef (wss.map ofI)<=1000000) :Calls ZP 131 #[slice a A ca] w λe w'=>∃(a':Option Addr)(n c:Nat)(l:List Byt),e=.returned (slice a' n c)/\n=l.length/\l.map toI=AB wss/\Sl1 Ca w' a' n l/\Bt w w':=by
 obtain⟨i0,hi,aE,aD,aC⟩:=Ve alA;have HL:=AA hA.len;have aT:=AA hA;have b1:=@run_makeMap ZP;have m0:(w.alloc (Obj.map #[] 0)).ownsMap ZP 9 (plainElem ZP 3) w.heap.size 0 (.map []:DataW Unit):=MQ w ZP 9 (plainElem ZP 3);go_enter func131,ntmps131;go_upto_region 2 with(refine ade rfl _ _ _ rfl rfl (MS.start (b:=w.heap.size) _ m0) (by unfold maxLen;omega) [] 0 rfl rfl rfl sm ?_;intro w1 af a6)
 have aH:w.heap.size+1<=w1.heap.size:=by have:=a6.size;simp at this;omega
 have aq:Bt w w1:=(AL w (Obj.map #[] 0)).grown a6 sm (λk e=>by cases e;exact AC _);have ao:GB w (slice (some ⟨w1.heap.size,0,none⟩) 1 1) [[]] (w1.alloc (.cells #[Ca []] 9)):=
  ⟨aq.alloc om _,⟨rfl,.inr ⟨w1.heap.size,1,#[Ca []],rfl,aH,AT _ _,AC _,by unfold maxLen;omega,rfl,rfl⟩⟩,⟨_,af.alloc _,λx=>by by_cases e:x=[]<;>simp[e]⟩,by simp;omega⟩
 have ay:=AA ao;clear af a6 aq ao m0;go_wp2
 go_loopw[4,16] (λs4 aB wr=>∃(k:Nat)(lst:List Byt)(v:Value),v=s4/\k<=A/\aB=int i64 k/\Hid (lst=Eg ((wss.take k).map ofI))/\GB w v lst wr) (λ_ i _=>A-(intOf i).toNat)
 case atStart=>exact⟨0,[[]],_,rfl,AR _,rfl,rfl,ay.out⟩
 case round=>
  clear ay;obtain⟨k,lst,v,rfl,hk,rfl,a8,X⟩:=hrel;have aV:lst.length<=1000001:=by rw[a8.out];have h1:=ahA ((wss.take k).map ofI);have h2:=adG wss k;omega
  by_cases a2:k<A
  ·have aK:decide ((k:Int)<A)=true:=by simp;omega
   obtain⟨bb,off,ax,y,cx,x,al,J,N,s,hX,b2⟩:=(hA.below X.bel).at_ a2;have C:bb<w.heap.size:=by
    obtain⟨_,_,_,_,_,_,e,ag,_⟩:=hA.at_ a2;rw[al]at e
    injection e with e
    injection e with e1 e2
    omega
   subst al;have aO:Bys w ax y x:=by
    obtain⟨_,_,be,aX,bd,x',e,ag,D,ac,aP,_⟩:=hA.at_ a2
    injection e with e
    injection e with e1 e2 e3
    subst e1 e2;have e4:=(X.bel.cell (p:=⟨bb,off+k,none⟩) C).trans D;rw[N]at e4
    injection e4 with e4
    injection e4 with e5 e6 e7
    subst e5 e6 e7;rw[s]at ac;rw[AK ac];exact aP
   have aY:y<=1000000:=by have:=Ff hM s;rw[hX.len]at this;exact this
   have HX:=AA s;have aS:=AA hX.len;clear s hX;go_wp2;clear N
   go_loopw[4,22] (λs4 aA wr=>∃(j:Nat)(l2:List Byt)(v:Value),v=s4/\j<=y/\aA=int i64 j/\Hid (l2=ER lst (ofI x) j)/\GB w v l2 wr) (λ_ i _=>y-(intOf i).toNat)
   case atStart=>exact⟨0,lst,_,rfl,AR _,rfl,rfl,X⟩
   case round=>
    clear X;obtain⟨j,l2,v,rfl,hj,rfl,B,X⟩:=hrel;have aI:l2.length<=2000001:=by rw[B.out];have:=(abF lst (ofI x) j).2;omega
    by_cases b4:j<y
    ·have aL:decide ((j:Int)<y)=true:=by simp;omega
     have b5:(j:Int)+1<=cx:=by omega
     have aW:j+1<=cx:=by omega
     have cv:=Gh ((aO.below X.bel).take (m:=j+1) om) cx;rw[agO]at cv;have J:(ofI (x.take (j+1))).length<=maxLen:=by simp[ofI];unfold maxLen;omega
     have a7:Hid (ofI (x.take (j+1))=(ofI x).take (j+1)):=by simp[Hid,ofI,List.map_take]
     obtain⟨b,ak⟩:∃b,ofI (x.take (j+1))=b:=⟨_,rfl⟩;rw[ak]at cv J a7;obtain⟨f,U,ai⟩:=X.map;have ab:=AA ai;clear ai ak
     by_cases hm:b∈l2
     ·have h:(f b).isSome=true:=by rw[ab.out];simp[hm]
      have HN:Hid (l2=ER lst (ofI x) (j+1)):=by rw[Hid,Nu,<-B.out,<-a7.out];unfold Gk;rw[Lc hm]
      clear hm
      go_wp2_with (at_lookup;refine OR rfl _ _ rfl rfl U b rfl J ?_;intro c' aN;rw[h])
      go_roundw
      case rel=>exact⟨j+1,l2,_,rfl,by omega,by go_num,HN,X⟩
      case measure=>simp[intOf];omega
     ·have h:(f b).isSome=false:=by rw[ab.out];simp[hm]
      have HN:Hid (l2++[b]=ER lst (ofI x) (j+1)):=by rw[Hid,Nu,<-B.out,<-a7.out];unfold Gk;rw[Lb hm]
      have Z:=X.row;obtain⟨m,a1⟩:∃m,l2.length=m:=⟨_,rfl⟩;unfold apb at Z;rw[a1]at Z U aI;have av:=AA a1;obtain⟨a4,c4,rfl,b9,_⟩:=Co Z;have am:=X.bel;have aZ:=X.sz;clear hm a1
      go_wp2_with (first
       |(at_lookup;refine OR rfl _ _ rfl rfl U b rfl J ?_;intro c' aN;rw[h])
       |(at_mapUpdate;refine OQ rfl _ _ _ rfl rfl U (by unfold maxLen;omega) b m (OW om) rfl rfl J ?_;intro w5 z H;have Y:=Z.kept H (amO Z);have ap:Bt w w5:=am.grown H am.size (λk e=>by cases e;exact AC _);have b0:=H.size)
       |(at_builtin;refine wpList_append_own _ rfl _ _ 231 rfl (w.heap.size+1) 9 i0 (.string ⟨#[]⟩) 1 16 underlying231 hi aE aD aC rfl (by decide) _ _ _ rfl (Y.alloc _) ⟨w5.heap.size,0,none⟩ 1 1 [Ca b] rfl rfl (GI _ _ sm) (by simp[Value.oneCell']) (by unfold maxLen;omega) om (by simp;omega) ?_;intro v' w6 V I aU))
      have aG:=I.size;simp at aG;have aQ:Hid (GB w v' (l2++[b]) w6):=by
       refine⟨(ap.alloc ap.size _).grown I (by simp;omega) (λk e=>by have:=(Y.lt k e).1;omega),?_,⟨_,?_,ajc (b:=b) (v:=(m:Int)) ab.out⟩,by omega⟩
       ·unfold apb;rw[List.length_append,av.out,Aj];exact V
       ·rw[List.length_append,av.out];refine MS.kept (row:=(slice a4 m c4).ownBlock) (z.alloc _) I ?_
        rcases amO Z with e|e
        ·rw[e];simp
        ·exact e
      clear Z Y V U z H I
      go_roundw
      case rel=>exact⟨j+1,_,_,rfl,by omega,by go_num,HN,aQ.out⟩
      case measure=>simp[intOf];omega
    ·obtain rfl:j=y:=by omega
     have aL:decide ((j:Int)<j)=false:=by simp
     have HN:Hid (l2=Eg ((wss.take (k+1)).map ofI)):=by rw[Hid,As HX.out,Aj,BO,DE,aav,<-a8.out,show(ofI x).length=j by simp[ofI,aS.out]];exact B.out
     go_wp2
     go_roundw
     case rel=>exact⟨k+1,l2,_,rfl,by omega,by go_num,HN,X⟩
     case measure=>simp[intOf];omega
  ·obtain rfl:k=A:=by omega
   have aK:decide ((k:Int)<k)=false:=by simp
   have aa:Hid (lst=Eg (wss.map ofI)):=by rw[Hid,a8.out,Ap (by rw[HL.out];exact AC _)]
   have ad:lst≠[]:=λe=>by
    have:=((MG (wss.map ofI)).2 []).2 (.inl rfl);rw[<-aa.out,e]at this
    cases this
   rcases X.row.2 with⟨_,h0⟩|⟨g,cap,ar,rfl,b7,hh,hn,b8,aM,aj⟩
   ·exact absurd (Bz h0) ad
   ·have aJ:g<wr.heap.size:=(AD.1 hh).1;have AV:∀i x,lst[i]?=some x->wr.cell? ⟨g,i,none⟩=some (Ca x)/\wr.frozen? ⟨g,i,none⟩=false:=λi x s=>by
     have b6:=(AP.1 s).1;have h1:(ar.toList.take (lst.length*1))[i]?=some (Ca x):=by rw[aj];simp[s]
     rw[FT,Lc om]at h1;have h2:ar[i]?=some (Ca x):=by simpa using h1
     simp[cell?,frozen?,hh,h2]
    have au:=AA (af9 g cap lst wr aJ AV om);have hB:=X.bel;have ah:w.heap.size<=g:=by omega
    have az:=AA (aT.out.bytes);clear AV hh aj aM X ad
    go_wp2_with fail
    refine au.out.mono ?_;rintro e w2 ⟨rfl,l',hp,hs,aF,C⟩;have aR:Bt w w2:=C _ _ hB ah hB.size;have HN:Hid (l'.map toI=AB wss):=by
     refine aeF az.out (by rw[<-aa.out];exact hp) ?_;have ae:l'.Nodup:=by rw[hp.nodup_iff,aa.out];exact(MG _).1
     rw[List.nodup_iff_pairwise_ne]at ae;rw[ED,List.pairwise_map];refine(hs.and ae).imp λ{a b} ⟨h1,h2⟩=>?_
     cases e:ltS (toI a) (toI b)with
     |true=>rfl
     |false=>exact absurd (LS (Nf e h1)) h2
    have aw:Hid (lst.length=l'.length):=hp.length_eq.symm;clear hp hs C hB au;go_wp2;go_ret;exact⟨_,_,_,l',rfl,aw.out,HN.out,aF,aR⟩
def sep(u v:Value):Prop:=∀k,u.ownBlock=some k->v.ownBlock≠some k
theorem sep.symm{u v:Value}(h:sep u v):sep v u:=λk h1 h2=>h k h2 h1
theorem sep.kept{u v:Value}(h:sep u v):v.ownBlock=none∨v.ownBlock≠u.ownBlock:=by
 cases e:v.ownBlock with
 |none=>exact .inl rfl
 |some k=>exact .inr λZ=>h k Z.symm e
theorem sep.put{u Z v:Value}{n:Nat}(h:sep u v)(V:Z.ownBlock=u.ownBlock∨Z.ownBlock=some n)(Y:∀k,v.ownBlock=some k->k<n):sep Z v:=λk h1 h2=>by
 rcases V with e|e
 ·exact h k (by rw[<-e];exact h1) h2
 ·rw[e]at h1;have:=Y k h2
  injection h1 with h1
  omega
abbrev FB(w:World)(base:Nat)(v:Value)(l:List Int):Prop:=w.ownsRow base 3 1 v l.length (l.map (int i64))
abbrev apn(w:World)(base:Nat)(v:Value)(l:List Int):Prop:=w.ownsRow base 5 1 v l.length (l.map (Value.int .u8))
abbrev JL(u d x b:Value)(nb wb:Nat):Array Value:=#[u,d,x,b,.map (some nb),.map (some wb)]
structure MK(base mb nb wb n1 n2:Nat)(fN fW:Byt->Option Int)(U D X B:List Int)(u d x b:Value)(W:World):Prop where
 box:W.heap[mb]?=some (.cells (JL u d x b nb wb) 230 (0,0))
 up:FB W base u U
 dep:FB W base d D
 wrd:FB W base x X
 byt:apn W base b B
 s1:sep u d
 s2:sep u x
 s3:sep u b
 s4:sep d x
 s5:sep d b
 s6:sep x b
 nod:MS W nb n1 fN
 wds:MS W wb n2 fW
 lt:mb<base/\nb<base/\wb<base/\mb≠nb/\mb≠wb/\nb≠wb
 sz:base<=W.heap.size
theorem MS.below{W W':World}{b n:Nat}{f:Byt->Option Int}(h:MS W b n f)(Z:Bt W W'):MS W' b n f:=h.kept (afV Z (b+1)) sm
theorem MS.run_get{W:World}{b n:Nat}{f:Byt->Option Int}(h:MS W b n f){l:Byt}(N:l.length<=maxLen){u:Int}(V:f l=some u) :Sem.run ZP (Instr.lookup 228 (.map (some b)) (Ca l) false) W=.ok (int i64 u) W:=by
 obtain⟨D,h1,h2,h3⟩:=h;obtain⟨c,Z,Y,_⟩:=h1.lookup_int LV underlying228 underlying3 (aeQ W) (LW l N);have:=Y.symm.trans ((h3 l).2 u V);obtain rfl:c=u:=by simpa using this
 exact Z
theorem akR(s:Byt):(Bh s).extract 0 (s.length-1)=Bh s.dropLast:=by
 apply ByteArray.ext
 rw[ByteArray.data_extract]
 apply Array.ext'
 simp[Bh,List.dropLast_eq_take]
theorem adz{s:Byt}(h:s≠[]):(Bh s).toList.isEmpty=false:=by
 cases e:(Bh s).toList.isEmpty with
 |false=>rfl
 |true=>
  exfalso
  have h1:(Bh s).toList=[]:=by simpa using e
  have h2:(Bh s).data.toList=[]:=by rw[<-ByteArray.toList_eq];exact h1
  exact h (by simpa[Bh]using h2)
def Ie(b:Byt):Int:=((b.getLast?).map λc=>(c.toNat:Int)).getD 0
theorem alH{s:Byt}{q:Nat}(Z:s.length=q+1)(h:q<(Bh s).size):(((Bh s)[q].toNat:Nat):Int)=Ie s:=by
 have e:s.getLast?=some (s[q]'om):=by rw[List.getLast?_eq_getElem?,show s.length-1=q by omega];simp
 unfold Ie;rw[e]
 rfl
theorem NB{w w':World}{base n size:Nat}{e:TypeId}{v:Value}{xs:List Value}(h:w.ownsRow base e size v n xs)(J:Bt w w'):w'.ownsRow base e size v n xs:=by
 obtain⟨h1,h2|⟨g,cap,Z,e,N,Y,V⟩⟩:=h
 ·exact⟨h1,.inl h2⟩
 ·exact⟨h1,.inr ⟨g,cap,Z,e,N,(J.block g (AD.1 Y).1).trans Y,V⟩⟩
theorem Gv{w:World}{base n size m:Nat}{e:TypeId}{v:Value}{xs:List Value}(h:w.ownsRow base e size v n xs)(Y:m<base):v.ownBlock=none∨v.ownBlock≠some m:=by
 rcases h.2 with⟨rfl,_⟩|⟨g,cap,Z,rfl,V,_⟩
 ·exact .inl rfl
 ·exact .inr (by simp[Value.ownBlock];omega)
theorem Bm{w:World}{base n size m i:Nat}{e:TypeId}{v:Value}{xs:List Value}(h:w.ownsRow base e size v n xs)(Z:m<base)(u:Value):(w.setCell ⟨m,i,none⟩ u).ownsRow base e size v n xs:=h.kept (BH w m i u) (Gv h Z)
theorem MS.set{w:World}{b n m i:Nat}{f:Byt->Option Int}(h:MS w b n f)(Z:m≠b)(u:Value):MS (w.setCell ⟨m,i,none⟩ u) b n f:=h.kept (BH w m i u) (by intro e;injection e with e;exact Z e)
theorem BA{w:World}{base n size:Nat}{e:TypeId}{v:Value}{xs:List Value}(h:w.ownsRow base e size v n xs):∀k,v.ownBlock=some k->base<=k/\k<w.heap.size:=λk hk=>by
 rcases h.2 with⟨rfl,_⟩|⟨g,cap,V,rfl,Y,Z,_⟩
 ·cases hk
 ·simp[Value.ownBlock]at hk;subst hk;exact⟨Y,(AD.1 Z).1⟩
structure Bl(mb nb base:Nat)(w W:World):Prop where
 os:W.os=w.os
 tape:W.tape=w.tape
 output:W.output=w.output
 size:w.heap.size<=W.heap.size
 block:∀k,k<base->k≠mb->k≠nb->W.heap[k]?=w.heap[k]?
theorem Bl.refl(mb nb base:Nat)(w:World):Bl mb nb base w w:=⟨rfl,rfl,rfl,AC _,λ_ _ _ _=>rfl⟩
theorem Bl.trans{mb nb base:Nat}{u v w:World}(h:Bl mb nb base u v)(k:Bl mb nb base v w):Bl mb nb base u w:=⟨k.os.trans h.os,k.tape.trans h.tape,k.output.trans h.output,AS h.size k.size,λi h1 h2 h3=>(k.block i h1 h2 h3).trans (h.block i h1 h2 h3)⟩
theorem Bl.of_below{mb nb base:Nat}{v w:World}(h:Bt v w)(Z:base<=v.heap.size):Bl mb nb base v w:=⟨h.os,h.tape,h.output,h.size,λk h1 _ _=>h.block k om⟩
theorem Bl.alloc{mb nb base:Nat}{v w:World}(h:Bl mb nb base v w)(Z:base<=w.heap.size)(o:Obj):Bl mb nb base v (w.alloc o):=h.trans (.of_below (AL w o) Z)
theorem Bl.grown{mb nb base:Nat}{u v w:World}{row:Option Nat}(h:Bl mb nb base u v)(Z:v.grownBy w row)(Y:∀k,row=some k->base<=k∨k=nb)(V:base<=v.heap.size):Bl mb nb base u w:=h.trans ⟨Z.os,Z.tape,Z.output,Z.size,λk h1 h2 h3=>Z.block k om (λe=>by rcases Y k e.symm with g|g<;>omega)⟩
theorem Bl.set{mb nb base:Nat}{v w:World}(h:Bl mb nb base v w)(i:Nat)(x:Value):Bl mb nb base v (w.setCell ⟨mb,i,none⟩ x):=h.trans ⟨rfl,rfl,rfl,by simp,λk h1 h2 h3=>AQ w ⟨mb,i,none⟩ x k h2⟩
theorem Bl.below{mb nb base B:Nat}{u v w:World}(h:Bl mb nb base v w)(Z:Below B u v)(h1:B<=mb)(h2:B<=nb)(h3:B<=base):Below B u w:=⟨h.os.trans Z.os,h.tape.trans Z.tape,h.output.trans Z.output,AS Z.size h.size,λk hk=>(h.block k om om om).trans (Z.block k hk)⟩
section
variable {base mb nb wb n1 n2:Nat}{fN fW:Byt->Option Int}{U D X B:List Int}{u d x b:Value}{W W':World}
theorem MK.below(h:MK base mb nb wb n1 n2 fN fW U D X B u d x b W)(Z:Bt W W'):MK base mb nb wb n1 n2 fN fW U D X B u d x b W':=⟨(Z.block _ (AD.1 h.box).1).trans h.box,NB h.up Z,NB h.dep Z,NB h.wrd Z,NB h.byt Z,h.s1,h.s2,h.s3,h.s4,h.s5,h.s6,h.nod.below Z,h.wds.below Z,h.lt,AS h.sz Z.size⟩
theorem MK.cells(h:MK base mb nb wb n1 n2 fN fW U D X B u d x b W):(W.cell? ⟨mb,0,none⟩=some u/\W.cell? ⟨mb,1,none⟩=some d/\W.cell? ⟨mb,2,none⟩=some x/\W.cell? ⟨mb,3,none⟩=some b/\W.cell? ⟨mb,4,none⟩=some (.map (some nb))/\W.cell? ⟨mb,5,none⟩=some (.map (some wb)))/\∀i,W.frozen? ⟨mb,i,none⟩=false:=by refine⟨⟨?_,?_,?_,?_,?_,?_⟩,λi=>?_⟩<;>simp[cell?,frozen?,h.box]
theorem MK.put_u(h:MK base mb nb wb n1 n2 fN fW U D X B u d x b W){V:World}{Z:Value}{z:Int}(o:Obj)(I:V.ownsRow base 3 1 Z (U.length+1) (U.map (int i64)++[int i64 z]))(Y:(W.alloc o).grownBy V u.ownBlock)(N:Z.ownBlock=u.ownBlock∨Z.ownBlock=some (W.alloc o).heap.size) :MK base mb nb wb n1 n2 fN fW (U++[z]) D X B Z d x b (V.setCell ⟨mb,0,none⟩ Z)/\Bl mb nb base W (V.setCell ⟨mb,0,none⟩ Z):=by
 have hs:=Y.size;simp at hs;have J:W.heap.size<=(W.alloc o).heap.size:=by simp
 have a1:=(AD.1 h.box).1;have s:u.ownBlock≠some mb:=λe=>by have:=(BA h.up _ e).1;have:=h.lt.1;omega
 have j:u.ownBlock≠some nb:=λe=>by have:=(BA h.up _ e).1;have:=h.lt.2.1;omega
 have y:u.ownBlock≠some wb:=λe=>by have:=(BA h.up _ e).1;have:=h.lt.2.2.1;omega
 have a2:V.heap[mb]?=some (.cells (JL u d x b nb wb) 230 (0,0)):=(Y.block mb (by simp;omega) (λe=>s e.symm)).trans ((Bg _ _ _ a1).trans h.box);have C:=Bm (i:=0) ((h.dep.alloc o).kept Y h.s1.kept) h.lt.1 Z;have H:=Bm (i:=0) ((h.wrd.alloc o).kept Y h.s2.kept) h.lt.1 Z;have A:=Bm (i:=0) ((h.byt.alloc o).kept Y h.s3.kept) h.lt.1 Z;exact⟨⟨AJ a2 _,(by unfold FB;rw[List.length_append,Aj];exact Bm I h.lt.1 _),C,H,A,(h.s1.put N (λk e=>Af (BA h.dep k e).2 J)),(h.s2.put N (λk e=>Af (BA h.wrd k e).2 J)),(h.s3.put N (λk e=>Af (BA h.byt k e).2 J)),h.s4,h.s5,h.s6,((h.nod.alloc o).kept Y j).set h.lt.2.2.2.1 _,((h.wds.alloc o).kept Y y).set h.lt.2.2.2.2.1 _,h.lt,by have:=h.sz;simp;omega⟩,(((Bl.refl mb nb base W).alloc h.sz o).grown Y (λk e=>.inl (BA h.up k e).1) (by have:=h.sz;simp;omega)).set _ _⟩
theorem MK.put_d(h:MK base mb nb wb n1 n2 fN fW U D X B u d x b W){V:World}{Z:Value}{z:Int}(o:Obj)(I:V.ownsRow base 3 1 Z (D.length+1) (D.map (int i64)++[int i64 z]))(Y:(W.alloc o).grownBy V d.ownBlock)(N:Z.ownBlock=d.ownBlock∨Z.ownBlock=some (W.alloc o).heap.size) :MK base mb nb wb n1 n2 fN fW U (D++[z]) X B u Z x b (V.setCell ⟨mb,1,none⟩ Z)/\Bl mb nb base W (V.setCell ⟨mb,1,none⟩ Z):=by
 have hs:=Y.size;simp at hs;have J:W.heap.size<=(W.alloc o).heap.size:=by simp
 have a1:=(AD.1 h.box).1;have s:d.ownBlock≠some mb:=λe=>by have:=(BA h.dep _ e).1;have:=h.lt.1;omega
 have j:d.ownBlock≠some nb:=λe=>by have:=(BA h.dep _ e).1;have:=h.lt.2.1;omega
 have y:d.ownBlock≠some wb:=λe=>by have:=(BA h.dep _ e).1;have:=h.lt.2.2.1;omega
 have a2:V.heap[mb]?=some (.cells (JL u d x b nb wb) 230 (0,0)):=(Y.block mb (by simp;omega) (λe=>s e.symm)).trans ((Bg _ _ _ a1).trans h.box);have C:=Bm (i:=1) ((h.up.alloc o).kept Y h.s1.symm.kept) h.lt.1 Z;have H:=Bm (i:=1) ((h.wrd.alloc o).kept Y h.s4.kept) h.lt.1 Z;have A:=Bm (i:=1) ((h.byt.alloc o).kept Y h.s5.kept) h.lt.1 Z;exact⟨⟨AJ a2 _,C,(by unfold FB;rw[List.length_append,Aj];exact Bm I h.lt.1 _),H,A,(h.s1.symm.put N (λk e=>Af (BA h.up k e).2 J)).symm,h.s2,h.s3,(h.s4.put N (λk e=>Af (BA h.wrd k e).2 J)),(h.s5.put N (λk e=>Af (BA h.byt k e).2 J)),h.s6,((h.nod.alloc o).kept Y j).set h.lt.2.2.2.1 _,((h.wds.alloc o).kept Y y).set h.lt.2.2.2.2.1 _,h.lt,by have:=h.sz;simp;omega⟩,(((Bl.refl mb nb base W).alloc h.sz o).grown Y (λk e=>.inl (BA h.dep k e).1) (by have:=h.sz;simp;omega)).set _ _⟩
theorem MK.put_x(h:MK base mb nb wb n1 n2 fN fW U D X B u d x b W){V:World}{Z:Value}{z:Int}(o:Obj)(I:V.ownsRow base 3 1 Z (X.length+1) (X.map (int i64)++[int i64 z]))(Y:(W.alloc o).grownBy V x.ownBlock)(N:Z.ownBlock=x.ownBlock∨Z.ownBlock=some (W.alloc o).heap.size) :MK base mb nb wb n1 n2 fN fW U D (X++[z]) B u d Z b (V.setCell ⟨mb,2,none⟩ Z)/\Bl mb nb base W (V.setCell ⟨mb,2,none⟩ Z):=by
 have hs:=Y.size;simp at hs;have J:W.heap.size<=(W.alloc o).heap.size:=by simp
 have a1:=(AD.1 h.box).1;have s:x.ownBlock≠some mb:=λe=>by have:=(BA h.wrd _ e).1;have:=h.lt.1;omega
 have j:x.ownBlock≠some nb:=λe=>by have:=(BA h.wrd _ e).1;have:=h.lt.2.1;omega
 have y:x.ownBlock≠some wb:=λe=>by have:=(BA h.wrd _ e).1;have:=h.lt.2.2.1;omega
 have a2:V.heap[mb]?=some (.cells (JL u d x b nb wb) 230 (0,0)):=(Y.block mb (by simp;omega) (λe=>s e.symm)).trans ((Bg _ _ _ a1).trans h.box);have H:=Bm (i:=2) ((h.up.alloc o).kept Y h.s2.symm.kept) h.lt.1 Z;have C:=Bm (i:=2) ((h.dep.alloc o).kept Y h.s4.symm.kept) h.lt.1 Z;have A:=Bm (i:=2) ((h.byt.alloc o).kept Y h.s6.kept) h.lt.1 Z;exact⟨⟨AJ a2 _,H,C,(by unfold FB;rw[List.length_append,Aj];exact Bm I h.lt.1 _),A,h.s1,(h.s2.symm.put N (λk e=>Af (BA h.up k e).2 J)).symm,h.s3,(h.s4.symm.put N (λk e=>Af (BA h.dep k e).2 J)).symm,h.s5,(h.s6.put N (λk e=>Af (BA h.byt k e).2 J)),((h.nod.alloc o).kept Y j).set h.lt.2.2.2.1 _,((h.wds.alloc o).kept Y y).set h.lt.2.2.2.2.1 _,h.lt,by have:=h.sz;simp;omega⟩,(((Bl.refl mb nb base W).alloc h.sz o).grown Y (λk e=>.inl (BA h.wrd k e).1) (by have:=h.sz;simp;omega)).set _ _⟩
theorem MK.put_b(h:MK base mb nb wb n1 n2 fN fW U D X B u d x b W){V:World}{b':Value}{z:Int}(o:Obj)(J:V.ownsRow base 5 1 b' (B.length+1) (B.map (Value.int .u8)++[.int .u8 z]))(Z:(W.alloc o).grownBy V b.ownBlock)(Y:b'.ownBlock=b.ownBlock∨b'.ownBlock=some (W.alloc o).heap.size) :MK base mb nb wb n1 n2 fN fW U D X (B++[z]) u d x b' (V.setCell ⟨mb,3,none⟩ b')/\Bl mb nb base W (V.setCell ⟨mb,3,none⟩ b'):=by
 have hs:=Z.size;simp at hs;have N:W.heap.size<=(W.alloc o).heap.size:=by simp
 have j:=(AD.1 h.box).1;have y:b.ownBlock≠some mb:=λe=>by have:=(BA h.byt _ e).1;have:=h.lt.1;omega
 have s:b.ownBlock≠some nb:=λe=>by have:=(BA h.byt _ e).1;have:=h.lt.2.1;omega
 have A:b.ownBlock≠some wb:=λe=>by have:=(BA h.byt _ e).1;have:=h.lt.2.2.1;omega
 have a1:V.heap[mb]?=some (.cells (JL u d x b nb wb) 230 (0,0)):=(Z.block mb (by simp;omega) (λe=>y e.symm)).trans ((Bg _ _ _ j).trans h.box);have H:=Bm (i:=3) ((h.up.alloc o).kept Z h.s3.symm.kept) h.lt.1 b';have C:=Bm (i:=3) ((h.dep.alloc o).kept Z h.s5.symm.kept) h.lt.1 b';have I:=Bm (i:=3) ((h.wrd.alloc o).kept Z h.s6.symm.kept) h.lt.1 b';exact⟨⟨AJ a1 _,H,C,I,(by unfold apn;rw[List.length_append,Aj];exact Bm J h.lt.1 _),h.s1,h.s2,(h.s3.symm.put Y (λk e=>Af (BA h.up k e).2 N)).symm,h.s4,(h.s5.symm.put Y (λk e=>Af (BA h.dep k e).2 N)).symm,(h.s6.symm.put Y (λk e=>Af (BA h.wrd k e).2 N)).symm,((h.nod.alloc o).kept Z s).set h.lt.2.2.2.1 _,((h.wds.alloc o).kept Z A).set h.lt.2.2.2.2.1 _,h.lt,by have:=h.sz;simp;omega⟩,(((Bl.refl mb nb base W).alloc h.sz o).grown Z (λk e=>.inl (BA h.byt k e).1) (by have:=h.sz;simp;omega)).set _ _⟩
end
theorem alq:(ZP.info? 5).map (λi=>(i.zero,i.size,i.bytes))=some (some (.int .u8 0),1,1):=by kernel_rfl
theorem JS:(ZP.info? 3).map (λi=>(i.zero,i.size,i.bytes))=some (some (int i64 0),1,8):=by kernel_rfl
section
variable {base mb nb wb n1 n2:Nat}{fN fW:Byt->Option Int}{U D X B:List Int}{u d x b:Value}{W V:World}
theorem MK.putN(h:MK base mb nb wb n1 n2 fN fW U D X B u d x b W){N:Byt->Option Int}{m:Nat}(J:MS V nb m N)(Z:W.grownBy V (some nb)):MK base mb nb wb m n2 N fW U D X B u d x b V:=by have Y:=(AD.1 h.box).1;refine⟨(Z.block mb Y (λe=>by injection e with e;exact h.lt.2.2.2.1 e)).trans h.box,h.up.kept Z (Gv h.up h.lt.2.1),h.dep.kept Z (Gv h.dep h.lt.2.1),h.wrd.kept Z (Gv h.wrd h.lt.2.1),h.byt.kept Z (Gv h.byt h.lt.2.1),h.s1,h.s2,h.s3,h.s4,h.s5,h.s6,J,h.wds.kept Z (λe=>by injection e with e;exact h.lt.2.2.2.2.2 e),h.lt,AS h.sz Z.size⟩
theorem MK.fz(h:MK base mb nb wb n1 n2 fN fW U D X B u d x b W)(o:Obj){row:Option Nat}(N:(W.alloc o).grownBy V row)(Y:row≠some mb)(i:Nat):V.frozen? ⟨mb,i,none⟩=false:=by have Z:=(AD.1 h.box).1;have:=(N.block mb (by simp;omega) (λe=>Y e.symm)).trans ((Bg _ _ _ Z).trans h.box);simp[frozen?,this]
theorem MK.cz(h:MK base mb nb wb n1 n2 fN fW U D X B u d x b W)(o:Obj){row:Option Nat}(N:(W.alloc o).grownBy V row)(Y:row≠some mb):V.cell? ⟨mb,0,none⟩=some u/\V.cell? ⟨mb,1,none⟩=some d/\V.cell? ⟨mb,2,none⟩=some x/\V.cell? ⟨mb,3,none⟩=some b:=by have Z:=(AD.1 h.box).1;have:=(N.block mb (by simp;omega) (λe=>Y e.symm)).trans ((Bg _ _ _ Z).trans h.box);refine⟨?_,?_,?_,?_⟩<;>simp[cell?,this]
end
theorem IX{w:World}{base n size m:Nat}{e:TypeId}{v:Value}{xs:List Value}(h:w.ownsRow base e size v n xs)(Z:m<base):v.ownBlock≠some m:=by
 rcases Gv h Z with e|e
 ·rw[e];simp
 ·exact e
theorem anN(base mb nb wb n1 n2:Nat)(fN fW:Byt->Option Int)(U D X B:List Int)(u d x b:Value)(s:Byt)(uI:Int)(w:World)(h:MK base mb nb wb n1 n2 fN fW U D X B u d x b w)(be:n1<=1000000)(bh:U.length<=1000000)(bi:D.length<=1000000)(bg:X.length<=1000000)(bj:B.length<=1000000)
  (hs:s.length<=1000000) (ao:s=[]->uI=0) (am:s≠[]->fN s.dropLast=some uI) :
  Calls ZP 132 #[pointer (some ⟨mb,0,none⟩),Ca s] w λe w'=>e=.returned (.tuple #[])/\∃u' d' x' b',MK base mb nb wb (n1+1) n2 (λk=>if k=s then some (U.length:Int) else fN k) fW (U++[uI]) (D++[(s.length:Int)]) (X++[(fW s).getD (-1)]) (B++[Ie s]) u' d' x' b' w'/\Bl mb nb base w w':=by
 obtain⟨i0,hi,al,ak,aj⟩:=Ve JS;obtain⟨i1,hj,aL,aK,aJ⟩:=Ve alq;have HS:=AA (Oe s);obtain⟨E,aB⟩:∃E,(Bh s).toList.isEmpty=E:=⟨_,rfl⟩;go_enter func132,ntmps132
 go_upto_if 9 with fail
 have aw:=AA aB;clear aB
 go_cut[4,5] (λs4 s5 wx=>s4=int i64 uI/\s5=.int .u8 (Ie s)/\Bt w wx)
 case first=>
  cases E with
  |true=>
   have h0:s=[]:=Md λe=>by have:=adz e;rw[aw.out]at this;cases this
   have aO:=ao h0
   go_wp2_with fail
   go_meet
   exact⟨by rw[aO],by rw[h0];rfl,AH _ _⟩
  |false=>
   have h0:s≠[]:=λe=>by rw[e]at aw;have:=aw.out;simp[Bh,ByteArray.toList_eq]at this
   obtain⟨q,hq⟩:∃q,s.length=q+1:=⟨s.length-1,by have:s.length≠0:=λe=>h0 (Bz e);omega⟩;have hcut:=akR s;have aM:=Oe s;rw[hq]at aM hcut;rw[Jl]at hcut;have bf:∀d os,Sem.run ZP (Instr.lookup 228 (.map (some nb)) (.string ((Bh s).extract 0 q)) false) (grow (redrawn w d) os)=.ok (int i64 uI) (grow (redrawn w d) os):=λd os=>by rw[hcut];exact(h.nod.below (Kf w d os)).run_get (by rw[List.length_dropLast];unfold maxLen;omega) (am h0)
   have aN:q<(Bh s).size:=by omega
   have b8:=AA (alH hq aN);have bd:q<=1000000:=by omega
   have b9:(q:Int)<(q:Int)+1:=by omega
   clear hcut hq h0 ao am;have ay:mb<w.heap.size:=(AD.1 h.box).1;have c4:∀d os,(grow (redrawn w d) os).cell? ⟨mb,4,none⟩=some (.map (some nb)):=λd os=>((Kf w d os).cell (p:=⟨mb,4,none⟩) ay).trans h.cells.1.2.2.2.2.1;go_upto_region 2 with fail
   refine wp_region_quiet_below mixed kr ?_
   repeat (go_big_quiet_step (fail))
   refine wpQuiet_nil ?_;rintro _ ⟨⟨dq,aI⟩,rfl⟩
   go_wp2_with fail
   go_meet
   exact⟨rfl,by rw[<-b8.out],Kf w dq aI⟩
 case rest=>
  obtain⟨rfl,rfl,hb⟩:=hcut;have I:Bl mb nb base w wc:=.of_below hb h.sz;have h:=h.below hb;clear hb ao am;obtain⟨O,hO⟩:∃O,fW s=O:=⟨_,rfl⟩;obtain⟨⟨c0,c1,c2,c3,c4,c5⟩,_⟩:=h.cells;have hms0:=h.wds
  go_upto_if 35 with(at_lookup;refine OR rfl _ _ rfl rfl hms0 s rfl (by unfold maxLen;omega) ?_;intro cw hcw;rw[hO])
  rw[hO]at hcw;have HO:=AA hO;clear hO c0 c1 c2 c3 c4 c5
  go_cut[6] (λs6 wx=>wc=wx/\s6=int i64 (O.getD (-1)))
  case first=>
   cases O with
   |none=>
    go_wp2_with fail
    go_meet
    exact⟨rfl,rfl⟩
   |some v=>
    obtain rfl:cw=v:=hcw v rfl
    go_wp2_with fail
    go_meet
    exact⟨rfl,rfl⟩
  case rest=>
  obtain⟨rfl,rfl⟩:=hcut;clear hcw hms0;obtain⟨Z,hZ⟩:∃Z:Int,O.getD (-1)=Z:=⟨_,rfl⟩;rw[hZ];have HZ:Hid ((fW s).getD (-1)=Z):=by rw[Hid,HO.out];exact hZ
  clear hZ HO;obtain⟨au,cu,rfl,_,_⟩:=Co h.up;obtain⟨ad,cd,rfl,_,_⟩:=Co h.dep;obtain⟨ax,cx,rfl,_,_⟩:=Co h.wrd;obtain⟨ab,cb,rfl,_,_⟩:=Co h.byt;have ay:mb<wc.heap.size:=(AD.1 h.box).1;obtain⟨⟨c0,c1,c2,c3,c4,c5⟩,_⟩:=h.cells;go_upto_region 6 with fail
  refine Hw 11 mixed kr ?_;dsimp only[List.take_succ_cons,List.take_zero,List.drop_succ_cons,List.drop_zero]
  repeat (go_big_quiet_step (fail))
  refine wpQuiet_nil ?_;rintro _ ⟨nq,rfl⟩;have h6:=h.below (AN wc nq);have az:Bl mb nb base w (wc.drewN nq):=I.trans (.of_below (AN wc nq) h.sz);refine OQ rfl _ _ _ rfl rfl h6.nod (by unfold maxLen;omega) s U.length (OW om) rfl rfl (by unfold maxLen;omega) ?_;intro w5 aa av;have aA:Bl mb nb base w w5:=az.grown av (λk e=>by cases e;exact .inr rfl) h6.sz;have h5:=h6.putN aa av;clear c0 c1 c2 c3 c4 c5 h6 aa av az I h;have I:=aA;have h:=h5;clear h5 aA;have bl:=AA hs;obtain⟨c0,c1,c2,c3,c4,c5⟩:=h.cells.1;go_upto_region 8 with(at_builtin;refine wpList_append_own_at _ rfl _ _ 30 rfl base 3 i0 (.int .i64 0) 1 8 underlying30 hi al ak aj rfl (by decide) _ _ _ rfl (h.up.alloc _) ⟨w5.heap.size,0,none⟩ 1 1 [.int .i64 uI] rfl rfl (GI _ _ sm) (by simp[Value.oneCell']) (by unfold maxLen;omega) om (by have:=h.sz;simp;omega) ?_;intro v7 ai z a8 ar af;obtain⟨g7,b7,rfl⟩:=ownsRow_succ z;have aS:ai.frozen? ⟨mb,0,none⟩=false:=h.fz _ a8 (IX h.up h.lt.1) 0;obtain⟨b4,b3,b2,b1⟩:=h.cz _ a8 (IX h.up h.lt.1))
  obtain⟨h',N⟩:=h.put_u _ z a8 af;have J:=I.trans N;clear b4 b3 b2 b1 c0 c1 c2 c3 c4 c5 z a8 ar af N aS h I;have h:=h';have I:=J;clear h' J;obtain⟨Y7,hY⟩:∃Y,Y=ai.setCell ⟨mb,0,none⟩ (.slice (some ⟨g7,0,none⟩) (U.length+1) b7):=⟨_,rfl⟩;rw[<-hY]at h I⊢;clear hY ai;obtain⟨c0,c1,c2,c3,c4,c5⟩:=h.cells.1;go_upto_region 9 with(at_builtin;refine wpList_append_own_at _ rfl _ _ 32 rfl base 5 i1 (.int .u8 0) 1 1 underlying32 hj aL aK aJ rfl (by decide) _ _ _ rfl (h.byt.alloc _) ⟨Y7.heap.size,0,none⟩ 1 1 [.int .u8 (Ie s)] rfl rfl (GI _ _ sm) (by simp[Value.oneCell']) (by unfold maxLen;omega) om (by have:=h.sz;simp;omega) ?_;intro v8 ah A a7 aq ae;obtain⟨g8,b6,rfl⟩:=ownsRow_succ A;have aR:ah.frozen? ⟨mb,3,none⟩=false:=h.fz _ a7 (IX h.byt h.lt.1) 3;obtain⟨b0,aZ,aY,aX⟩:=h.cz _ a7 (IX h.byt h.lt.1))
  obtain⟨h',N⟩:=h.put_b _ A a7 ae;have J:=I.trans N;clear b0 aZ aY aX c0 c1 c2 c3 c4 c5 A a7 aq ae N aR h I;have h:=h';have I:=J;clear h' J;obtain⟨Y8,hY⟩:∃Y,Y=ah.setCell ⟨mb,3,none⟩ (.slice (some ⟨g8,0,none⟩) (B.length+1) b6):=⟨_,rfl⟩;rw[<-hY]at h I⊢;clear hY ah;obtain⟨c0,c1,c2,c3,c4,c5⟩:=h.cells.1;go_upto_region 10 with(at_builtin;refine wpList_append_own_at _ rfl _ _ 30 rfl base 3 i0 (.int .i64 0) 1 8 underlying30 hi al ak aj rfl (by decide) _ _ _ rfl (h.dep.alloc _) ⟨Y8.heap.size,0,none⟩ 1 1 [.int .i64 (s.length:Int)] rfl rfl (GI _ _ sm) (by simp[Value.oneCell']) (by unfold maxLen;omega) om (by have:=h.sz;simp;omega) ?_;intro v9 ag C a6 ap ac;obtain⟨g9,b5,rfl⟩:=ownsRow_succ C;have aQ:ag.frozen? ⟨mb,1,none⟩=false:=h.fz _ a6 (IX h.dep h.lt.1) 1;obtain⟨aW,aV,aU,aT⟩:=h.cz _ a6 (IX h.dep h.lt.1))
  obtain⟨h',N⟩:=h.put_d _ C a6 ac;have J:=I.trans N;clear aW aV aU aT c0 c1 c2 c3 c4 c5 C a6 ap ac N aQ h I;have h:=h';have I:=J;clear h' J;obtain⟨Y9,hY⟩:∃Y,Y=ag.setCell ⟨mb,1,none⟩ (slice (some ⟨g9,0,none⟩) (D.length+1) b5):=⟨_,rfl⟩;rw[<-hY]at h I⊢;clear hY ag;obtain⟨c0,c1,c2,c3,c4,c5⟩:=h.cells.1
  go_wp2_with (at_builtin;refine wpList_append_own_at _ rfl _ _ 30 rfl base 3 i0 (.int .i64 0) 1 8 underlying30 hi al ak aj rfl (by decide) _ _ _ rfl (h.wrd.alloc _) ⟨Y9.heap.size,0,none⟩ 1 1 [.int .i64 Z] rfl rfl (GI _ _ sm) (by simp[Value.oneCell']) (by unfold maxLen;omega) om (by have:=h.sz;simp;omega) ?_;intro bb j H y a2 a1;obtain⟨aP,aH,rfl⟩:=ownsRow_succ H;have aC:j.frozen? ⟨mb,2,none⟩=false:=h.fz _ y (IX h.wrd h.lt.1) 2;obtain⟨aG,aF,aE,aD⟩:=h.cz _ y (IX h.wrd h.lt.1))
  obtain⟨h',N⟩:=h.put_x _ H y a1;have J:=I.trans N;clear aG aF aE aD c0 c1 c2 c3 c4 c5 H y a2 a1 N aC h I;have h:=h';have I:=J;clear h' J;obtain⟨bk,hY⟩:∃Y,Y=j.setCell ⟨mb,2,none⟩ (slice (some ⟨aP,0,none⟩) (X.length+1) aH):=⟨_,rfl⟩;rw[<-hY]at h I⊢;clear hY j
  go_end0
  rw[HZ.out];exact⟨rfl,_,_,_,_,h,I⟩
theorem ach{fold:Bool}{x:List Int}{Z:La}:BV fold x Z<0↔∀y∈Z,AO fold y≠AO fold x:=by
 unfold BV LM
 cases e:Z.findIdx? (λw=>CH fold x w)with
 |none=>
  rw[List.findIdx?_eq_none_iff]at e
  constructor
  ·intro _ y Y h;have:=e y Y;unfold CH at this;simp at this;exact this h.symm
  ·intro _;dsimp only;omega
 |some k=>
  constructor
  ·intro h;dsimp only at h;omega
  ·intro h;obtain⟨hk,h1,_⟩:=List.findIdx?_eq_some_iff_getElem.1 e;unfold CH at h1;simp at h1;exact absurd h1.symm (h _ (List.getElem_mem hk))
theorem ahV(fold:Bool)(l:La):(AZ fold l).Nodup/\∀y∈AZ fold l,AO fold y=y:=by
 refine IT (P:=λl=>(AZ fold l).Nodup/\∀y∈AZ fold l,AO fold y=y) (by simp[AZ]) (λl x ⟨h1,h2⟩=>?_) l;rw[Ka];unfold GK
 by_cases h:BV fold x (AZ fold l)<0
 ·rw[Lc h];have X:=ach.1 h;refine⟨?_,λy Z=>?_⟩
  ·rw[List.nodup_append];refine⟨h1,by simp,λa ha b Y e=>?_⟩;simp at Y;subst Y;subst e;exact X _ ha (abq _ _)
  ·rcases Bf.1 Z with Z|Z
   ·exact h2 y Z
   ·simp at Z;subst Z;exact abq _ _
 ·rw[Lb h];exact⟨h1,h2⟩
theorem ahQ:∀(l:La),l.Nodup->AZ false l=l:=by
 refine IT (P:=λl=>l.Nodup->AZ false l=l) (by simp[AZ]) (λl x Z h=>?_);rw[List.nodup_append]at h;rw[Ka,Z h.1];unfold GK;rw[Lc (ach.2 λy Y e=>?_)]
 ·simp[AO]
 ·simp[AO]at e;exact h.2.2 y Y x sm e
theorem EI{fold:Bool}{wss:La}(h:An fold wss=true):wss.length<=64/\wss≠[]/\(∀x∈wss,x.length≠0/\x.length<=32)/\Ds wss<=600/\Cl fold wss<=400/\AZ fold wss=wss:=by
 rw[NF]at h;unfold Fw at h;rw[Bq]at h;have h1:DL fold wss=0:=Lj h.1;have h2:AZ fold wss=wss:=Lj h.2;unfold DL at h1
 by_cases Z:wss.length=0
 ·rw[Lc Z]at h1;cases h1
 ·rw[Lb Z]at h1
  by_cases a2:wss.length > 64
  ·rw[Lc a2]at h1;cases h1
  ·rw[Lb a2]at h1
   by_cases a3:∃x∈wss,x.length=0
   ·rw[Lc a3]at h1;cases h1
   ·rw[Lb a3]at h1
    by_cases a4:∃x∈wss,x.length > 32
    ·rw[Lc a4]at h1;cases h1
    ·rw[Lb a4]at h1
     by_cases a5:Ds wss > 600
     ·rw[Lc a5]at h1;cases h1
     ·rw[Lb a5]at h1
      by_cases X:Cl fold wss > 400
      ·rw[Lc X]at h1;cases h1
      ·exact⟨by omega,λe=>Z (by rw[e];rfl),λx Y=>⟨λe=>a3 ⟨x,Y,e⟩,Nat.not_lt.1 λe=>a4 ⟨x,Y,e⟩⟩,by omega,by omega,h2⟩
theorem Fv{fold:Bool}{wss:La}(h:An fold wss=true):wss.Nodup/\∀w∈wss,AO fold w=w:=by
 have:=ahV fold wss
 rwa[(EI h).2.2.2.2.2]at this
theorem aae(fold:Bool){wss:La}(Y:∀w∈wss,AO fold w=w):((AB wss).length:Int)=Cl fold wss:=by
 obtain⟨h1,h2⟩:=count_eq fold wss;have Z:(AB wss).Perm (Di (Ad fold wss)).1:=by
  rw[List.perm_ext_iff_of_nodup (CL wss).nodup (ajx (Ad fold wss)).nodup];intro x;rw[DT,h2,Ei.iff];unfold OC
  constructor
  ·rintro(h|⟨h0,w,hw,Z⟩)
   ·exact .inl h
   ·exact .inr ⟨w,hw,by rw[Y w hw];exact Z⟩
  ·rintro(h|⟨w,hw,Z⟩)
   ·exact .inl h
   ·by_cases e:x=[]
    ·exact .inl e
    ·exact .inr ⟨e,w,hw,by rw[Y w hw]at Z;exact Z⟩
 rw[Z.length_eq];exact h1
theorem IY{fold:Bool}{wss:La}(h:An fold wss=true):An false wss=true:=by
 obtain⟨h1,h2,h3,h4,h5,h6⟩:=EI h;obtain⟨X,Y⟩:=Fv h;have V:Cl false wss=Cl fold wss:=by rw[<-aae fold Y,<-aae false (λw _=>by simp[AO])]
 rw[NF];unfold Fw;rw[Bq];refine⟨Lz ?_,Lz (ahQ wss X)⟩;unfold DL;rw[Lb (λe=>h2 (Bz e)),Lb om,Lb (λ⟨x,Z,e⟩=>(h3 x Z).1 e),Lb (λ⟨x,Z,e⟩=>by have:=(h3 x Z).2;omega),Lb om,Lb (by rw[V];omega)]
/-! ### a trie read -/
def Cy(T:Ay):Nat->Option La
 |0=>none
 |1=>some [[]]
 |i+2=>(Cy T (i+1)).bind λl=>match T.up[i+1]?,T.byt[i+1]? with
  |some u,some c=>if 0<=u/\u<(i:Int)+1 then(l[u.toNat]?).map λp=>l++[p++[c]] else none
  |_,_=>none
def spO(T:Ay):Option La:=
 if 1<=T.up.length/\T.up.length<=400/\T.byt.length=T.up.length/\T.dep.length=T.up.length/\T.wrd.length=T.up.length then Cy T T.up.length else none
theorem Mv{T:Ay}:∀{i:Nat}{l:La},Cy T i=some l->l.length=i
 |0,l,h=>by cases h
 |1,l,h=>by simp[Cy]at h;simp[<-h]
 |i+2,l,h=>by
  unfold Cy at h;obtain⟨Y,h0,h⟩:=Io.1 h;have Z:=Mv h0
  split at h
  ·split at h
   ·obtain⟨p,X,rfl⟩:=Fo.1 h;simp[Z]
   ·cases h
  ·cases h
def Dl(T:Ay)(n:Nat):Nat->Option (List Int×Int)
 |0=>some (List.replicate n 0,0)
 |i+1=>(Dl T n i).bind λs=>match T.wrd[i]? with
  |some w=>if w=-1 then some s else if w<0∨(n:Int)<=w∨i=0∨(s.1[w.toNat]?).getD 0≠0 then none else some (s.1.set w.toNat i,s.2+1)
  |none=>none
def Df(Z:La)(at_:List Int):Nat->Option La
 |0=>some []
 |k+1=>(Df Z at_ k).bind λl=>match at_[k]? with
  |some i=>if i=0 then none else(Z[i.toNat]?).map λx=>l++[x]
  |none=>none
def nuO(T:Ay)(Z:La):Option La:=(Dl T Z.length T.wrd.length).bind λs=>Df Z s.1 s.2.toNat
def eqT(T U:Ay):Bool:=decide (T.up=U.up)&&decide (T.dep=U.dep)&&decide (T.wrd=U.wrd)&&decide (T.byt=U.byt)
theorem ajJ{T U:Ay}:eqT T U=true↔T=U:=by obtain⟨a,b,c,d⟩:=T;obtain⟨X,b',Y,Z⟩:=U;simp[eqT,and_assoc]
def CI(T:Ay):Option (La×La):=
 (spO T).bind λZ=>(nuO T Z).bind λws=>if(An false ws&&eqT (AG ws) T)=true then some (Z,ws) else none
section
variable {ws:La}
theorem afG(w:List Int):AO false w=w:=by simp[AO]
theorem NE(h:An false ws=true):1<=(AB ws).length/\(AB ws).length<=400:=by have h1:=(EI h).2.2.2.2.1;have h2:=aae false (wss:=ws) (λw _=>afG w);have h3:(AB ws).length≠0:=λe=>Lo ws (Bz e);omega
theorem aoL{i:Nat}{x:List Int}(h:(AB ws)[i]?=some x)(h0:x≠[]):∃j,j<i/\(AB ws)[j]?=some x.dropLast/\CW (AB ws) x.dropLast=j:=by
 have U:=CL ws;have H:x.dropLast∈AB ws:=(DT ws).2 ((DT ws).1 (AX h)).up;obtain⟨j,X⟩:=DR H;refine⟨j,?_,X,CV U.nodup X⟩;have J:x.dropLast.length<x.length:=by rw[List.length_dropLast];have:x.length≠0:=λe=>h0 (Bz e);omega
 have V:=(AP.1 h);have Y:=(AP.1 X)
 rcases LG j i with Z|D
 ·exact Z
 ·exfalso
  rcases LG i j with Z|I
  ·have N:=List.pairwise_iff_getElem.1 U i j V.1 Y.1 Z;rw[V.2,Y.2]at N;have:=ag6 N;omega
  ·have e:i=j:=by omega
   subst e;rw[h]at X;have:=congrArg List.length (AK X);omega
theorem acb{x:List Int}(h:x≠[]):x.dropLast++[DU x]=x:=by unfold DU;rw[MV h,CG];exact Em h
theorem amD{i:Nat}{x:List Int}(h:(AB ws)[i+1]?=some x):x≠[]:=by intro e;subst e;have h0:=CM ws;have Z:=(CL ws).nodup;have:=Ln Z h0 h;omega
theorem adK:∀i,1<=i->i<=(AB ws).length->Cy (AG ws) i=some ((AB ws).take i)
 |0,h,_=>by omega
 |1,_,_=>by
  have h0:=CM ws
  revert h0
  cases AB ws with
  |nil=>intro h;cases h
  |cons a l=>intro h;simp at h;simp[Cy,h]
 |i+2,_,h=>by
  have V:=adK (i+1) om om;obtain⟨x,Z⟩:∃x,(AB ws)[i+1]?=some x:=⟨(AB ws)[i+1]'om,by simp⟩;have h0:=amD Z;obtain⟨j,U,X,Y⟩:=aoL Z h0;unfold Cy;rw[V,EV];have J:(AG ws).up[i+1]?=some (j:Int):=by simp[AG,Z,Y]
  have N:(AG ws).byt[i+1]?=some (DU x):=by simp[AG,Z]
  rw[J,N];dsimp only;rw[Lc ⟨by omega,by omega⟩,Aa,FT,Lc U,X,Dw,acb h0,As Z]
theorem agF(h:An false ws=true):spO (AG ws)=some (AB ws):=by
 obtain⟨h1,h2⟩:=NE h;unfold spO;have e:(AG ws).up.length=(AB ws).length:=by simp[AG]
 rw[Lc ⟨by rw[e];exact h1,by rw[e];exact h2,by simp[AG],by simp[AG],by simp[AG]⟩,e,adK _ h1 (AC _),Hl]
def atW(ws:La)(i w:Nat):Int:=match ws[w]? with
 |some x=>if(AB ws).idxOf x<i then((AB ws).idxOf x:Int) else 0
 |none=>0
theorem adL{w:Nat}{x:List Int}(Y:ws[w]?=some x)(h0:x≠[]):∃j,1<=j/\(AB ws)[j]?=some x/\(AB ws).idxOf x=j:=by
 have X:x∈AB ws:=(DT ws).2 (Ei.iff.2 (.inr ⟨h0,x,AX Y,List.prefix_refl _⟩));obtain⟨j,Z⟩:=DR X;refine⟨j,?_,Z,?_⟩
 ·by_cases e:j=0
  ·subst e;rw[CM]at Z;exact absurd (AK Z).symm h0
  ·omega
 ·have:=List.Nodup.idxOf_getElem (CL ws).nodup j (AP.1 Z).1
  rwa[(AP.1 Z).2]at this
def JM(ws:La)(i:Nat):Int:=((ws.filter λx=>decide ((AB ws).idxOf x<i)).length:Int)
theorem OS(h:An false ws=true):ws.length<(AB ws).length:=by
 obtain⟨U,_⟩:=Fv h;have h3:=(EI h).2.2.1;have X:([]::ws).Nodup:=by rw[List.nodup_cons];exact⟨λV=>(h3 _ V).1 rfl,U⟩
 have Y:([]::ws) ⊆ AB ws:=λx Z=>by
  rw[DT,Ei.iff]
  rcases CR.1 Z with e|Z
  ·exact .inl e
  ·exact .inr ⟨λe=>by subst e;exact(h3 _ Z).1 rfl,x,Z,List.prefix_refl _⟩
 have:=X.length_le_of_subset Y;rw[Ao]at this;omega
theorem aoE{i w:Nat}(V:w<ws.length)(h:An false ws=true):∃j x,1<=j/\ws[w]?=some x/\(AB ws)[j]?=some x/\atW ws i w=if j<i then(j:Int) else 0:=by obtain⟨x,Z⟩:∃x,ws[w]?=some x:=⟨ws[w]'V,by simp⟩;have h3:=((EI h).2.2.1 x (AX Z)).1;obtain⟨j,U,Y,X⟩:=adL Z (λe=>h3 (by rw[e];rfl));refine⟨j,x,U,Z,Y,?_⟩;unfold atW;rw[Z];dsimp only;rw[X]
theorem aeJ(h:An false ws=true):∀i,i<=(AB ws).length->Dl (AG ws) (AB ws).length i=some ((List.range (AB ws).length).map (λw=>atW ws i w),JM ws i)
 |0,_=>by
  unfold Dl;have e1:(λw=>atW ws 0 w)=λ_=>0:=by
   funext w
   unfold atW
   split<;>simp
  have U:JM ws 0=0:=by simp[JM]
  rw[e1,U];simp[List.map_const']
 |i+1,hi=>by
  have ih:=aeJ h i om;obtain⟨g1,_⟩:=Fv h;have a8:=(CL ws).nodup;obtain⟨x,H⟩:∃x,(AB ws)[i]?=some x:=⟨(AB ws)[i]'om,by simp⟩;have X:(AB ws).idxOf x=i:=by
   have:=List.Nodup.idxOf_getElem a8 i om
   rwa[(AP.1 H).2]at this
  unfold Dl;rw[ih,EV];have ew:(AG ws).wrd[i]?=some (CW ws x):=by simp[AG,H]
  rw[ew];dsimp only;have Y:∀y∈ws,(AB ws).idxOf y=i->y=x:=λy N e=>by
   have a1:y∈AB ws:=by rw[DT,Ei.iff];exact .inr ⟨λe=>by subst e;exact((EI h).2.2.1 _ N).1 rfl,y,N,List.prefix_refl _⟩
   have h1:=List.getElem_idxOf (List.idxOf_lt_length_of_mem a1);have h2:=(AP.1 H).2;rw[<-h1,<-h2];congr 1
  by_cases B:x∈ws
  ·obtain⟨w,C⟩:=DR B;have ab:=(AP.1 C).1;have aa:=OS h;have hp:=CV g1 C;have a7:x≠[]:=λe=>by subst e;exact((EI h).2.2.1 _ B).1 rfl
   have ac:i≠0:=λe=>by subst e;rw[CM]at H;exact a7 (AK H).symm
   rw[hp,Lb om,Aa];have ea:atW ws i w=0:=by unfold atW;rw[C];dsimp only;rw[X,Lb om]
   have eg:(((List.range (AB ws).length).map (λw=>atW ws i w))[w]?).getD 0=0:=by
    rw[BU,It om]
    simpa using ea
   rw[Lb (by rw[eg];omega)];congr 1;refine Prod.ext ?_ ?_
   ·dsimp only
    apply Hn
    intro v;rw[Gr]
    by_cases e:w=v
    ·subst e;have D:w<(AB ws).length:=by omega
     have e1:atW ws (i+1) w=i:=by unfold atW;rw[C];dsimp only;rw[X,Lc om]
     simp[D,e1]
    ·rw[Lb e,BU,BU]
     by_cases hv:v<(AB ws).length
     ·rw[It hv];simp only[Dw,DC];unfold atW
      cases s:ws[v]? with
      |none=>rfl
      |some y=>
       dsimp only;have V:(AB ws).idxOf y≠i:=λU=>by have:=Y y (AX s) U;subst this;exact e (Ln g1 C s)
       by_cases Z:(AB ws).idxOf y<i
       ·rw[Lc Z,Lc om]
       ·rw[Lb Z,Lb om]
     ·rw[GT (by simpa using hv)];rfl
   ·dsimp only;unfold JM;have j:∀(l:La),l.Nodup->x∈l->(∀y∈l,(AB ws).idxOf y=i->y=x)->(l.filter λy=>decide ((AB ws).idxOf y<i+1)).length=(l.filter λy=>decide ((AB ws).idxOf y<i)).length+1:=by
     intro l
     induction l with
     |nil=>intro _ h;cases h
     |cons y l ihl=>
      intro hn a2 hu;rw[List.nodup_cons]at hn
      by_cases e:y=x
      ·subst e;have J:∀z∈l,(decide ((AB ws).idxOf z<i+1))=decide ((AB ws).idxOf z<i):=λz A=>by
        have V:(AB ws).idxOf z≠i:=λU=>by have:=hu z (by simp[A]) U;subst this;exact hn.1 A
        rw[decide_eq_decide];omega
       rw[List.filter_cons,List.filter_cons,Lc (by rw[X];simp),Lb (by rw[X];simp),Ao,List.filter_congr J]
      ·have a6:x∈l:=(CR.1 a2).resolve_left (λU=>e U.symm);have V:(AB ws).idxOf y≠i:=λU=>e (hu y sm U);have I:=ihl hn.2 a6 (λz A=>hu z (by simp[A]));rw[List.filter_cons,List.filter_cons]
       by_cases Z:(AB ws).idxOf y<i
       ·rw[Lc (by simp;omega),Lc (by simpa using Z),Ao,Ao,I]
       ·rw[Lb (by simp;omega),Lb (by simpa using Z),I]
    rw[j ws g1 B Y];omega
  ·rw[abt B,Lc rfl];congr 1;have V:∀y∈ws,(AB ws).idxOf y≠i:=λy N e=>B (Y y N e ▸ N);refine Prod.ext ?_ ?_
   ·dsimp only
    apply OJ
    intro v _;unfold atW
    cases s:ws[v]? with
    |none=>rfl
    |some y=>
     dsimp only;have:=V y (AX s)
     by_cases Z:(AB ws).idxOf y<i
     ·rw[Lc Z,Lc om]
     ·rw[Lb Z,Lb om]
   ·dsimp only;have ef:(ws.filter λy=>decide ((AB ws).idxOf y<i+1))=ws.filter λy=>decide ((AB ws).idxOf y<i):=List.filter_congr (λy N=>by have:=V y N;rw[decide_eq_decide];omega);unfold JM;rw[ef]
theorem akn(h:An false ws=true):JM ws (AB ws).length=ws.length:=by
 unfold JM;rw[List.filter_eq_self.2];intro y Y;have Z:y∈AB ws:=by rw[DT,Ei.iff];exact .inr ⟨λe=>by subst e;exact((EI h).2.2.1 _ Y).1 rfl,y,Y,List.prefix_refl _⟩
 simpa using List.idxOf_lt_length_of_mem Z
theorem aeu(h:An false ws=true):∀k,k<=ws.length->Df (AB ws) ((List.range (AB ws).length).map (λw=>atW ws (AB ws).length w)) k=some (ws.take k)
 |0,_=>rfl
 |k+1,hk=>by have X:=aeu h k om;obtain⟨j,x,U,V,Z,ha⟩:=aoE (i:=(AB ws).length) (w:=k) om h;have Y:=(AP.1 Z).1;rw[Lc Y]at ha;unfold Df;rw[X,EV,BU,It (by have:=OS h;omega)];simp only[Dw,ha];rw[Lb om,Aa,Z,Dw,As V]
theorem al7(h:An false ws=true):nuO (AG ws) (AB ws)=some ws:=by
 unfold nuO;have e:(AG ws).wrd.length=(AB ws).length:=by simp[AG]
 rw[e,aeJ h _ (AC _),EV];dsimp only;rw[akn h,Aa,aeu h _ (AC _),Hl]
theorem ahK(h:An false ws=true):CI (AG ws)=some (AB ws,ws):=by unfold CI;rw[agF h,EV,al7 h,EV,Lc (by rw[h,ajJ.2 rfl];rfl)]
end
theorem Fy{T:Ay}{X ws:La}:CI T=some (X,ws)↔An false ws=true/\T=AG ws/\X=AB ws:=by
 constructor
 ·intro h;unfold CI at h;obtain⟨V,h1,h⟩:=Io.1 h;obtain⟨Y,h2,h⟩:=Io.1 h
  split at h
  ·rename_i Z
   rw[Bq]at Z;have Z:An false Y=true/\T=AG Y:=⟨Z.1,(ajJ.1 Z.2).symm⟩
   injection h with h
   injection h with e1 e2
   subst e1 e2;refine⟨Z.1,Z.2,?_⟩;rw[Z.2,agF Z.1]at h1;exact(AK h1).symm
  ·cases h
 ·rintro⟨h1,rfl,rfl⟩;exact ahK h1
structure TV where
 ua:Option Addr
 un:Nat
 uc:Nat
 da:Option Addr
 dn:Nat
 dc:Nat
 xa:Option Addr
 xn:Nat
 xc:Nat
 ba:Option Addr
 bn:Nat
 bc:Nat
abbrev TV.cells(t:TV):Array Value:=#[slice t.ua t.un t.uc,slice t.da t.dn t.dc,slice t.xa t.xn t.xc,slice t.ba t.bn t.bc]
structure Tri(W:World)(t:TV)(T:Ay):Prop where
 up:Sl1 (int i64) W t.ua t.un T.up
 dep:Sl1 (int i64) W t.da t.dn T.dep
 wrd:Sl1 (int i64) W t.xa t.xn T.wrd
 byt:Bys W t.ba t.bn T.byt
 cap:t.un<=t.uc/\t.dn<=t.dc/\t.xn<=t.xc/\t.bn<=t.bc
theorem Tri.below{W Y:World}{t:TV}{T:Ay}(h:Tri W t T)(Z:Bt W Y):Tri Y t T:=⟨h.up.below Z,h.dep.below Z,h.wrd.below Z,h.byt.below Z,h.cap⟩
theorem akv(s:Byt):Ie s=DU (toI s):=by unfold Ie DU toI;rw[List.getLast?_map]
theorem adO(s:Byt):toI s.dropLast=(toI s).dropLast:=by simp[toI,List.map_dropLast]
theorem amY{s:Byt}:toI s=[]↔s=[]:=by simp[toI]
def Hh(wss:La)(k:Nat)(f:Byt->Option Int):Prop:=∀s:Byt,f s=if toI s∈wss.take k then some (CW wss (toI s)) else none
theorem Hh.start(wss:La):Hh wss 0 (λ_=>none):=λs=>by simp
theorem Hh.step{wss:La}{k:Nat}{f:Byt->Option Int}{x:List Int}(h:Hh wss k f)(X:wss.Nodup)(Y:wss[k]?=some x)(V:∀c∈x,0<=c/\c<=255):Hh wss (k+1) (λs=>if s=ofI x then some (k:Int) else f s):=λs=>by
 rw[As Y];show(if s=ofI x then some (k:Int) else f s)=_
 by_cases e:s=ofI x
 ·rw[Lc e];have Z:toI s=x:=by rw[e,Mj V]
  rw[Z,Lc sm,CV X Y]
 ·rw[Lb e,h s];have Z:toI s≠x:=λZ=>e (by rw[<-Z,ao9])
  by_cases h1:toI s∈wss.take k
  ·rw[Lc h1,Lc (by simp[h1])]
  ·rw[Lb h1,Lb (by simp[h1,Z])]
theorem Hh.get{wss:La}{f:Byt->Option Int}(h:Hh wss wss.length f)(s:Byt):(f s).getD (-1)=CW wss (toI s):=by
 rw[h s,Hl]
 by_cases e:toI s∈wss
 ·rw[Lc e];rfl
 ·rw[Lb e,abt e];rfl
theorem MK.putW{base N I Y H z m:Nat}{C s A:Byt->Option Int}{U D X B:List Int}{u d x b:Value}{W V:World}(h:MK base N I Y H z C s U D X B u d x b W)(y:MS V Y m A)(Z:W.grownBy V (some Y)):MK base N I Y H m C A U D X B u d x b V:=by have J:=(AD.1 h.box).1;refine⟨(Z.block N J (λe=>by injection e with e;exact h.lt.2.2.2.2.1 e)).trans h.box,h.up.kept Z (Gv h.up h.lt.2.2.1),h.dep.kept Z (Gv h.dep h.lt.2.2.1),h.wrd.kept Z (Gv h.wrd h.lt.2.2.1),h.byt.kept Z (Gv h.byt h.lt.2.2.1),h.s1,h.s2,h.s3,h.s4,h.s5,h.s6,h.nod.kept Z (λe=>by injection e with e;exact h.lt.2.2.2.2.2 e.symm),y,h.lt,AS h.sz Z.size⟩
theorem alG{Y Z:Nat}(i:Nat)(s:Byt)(h:(JL (slice none 0 0) (slice none 0 0) (slice none 0 0) (slice none 0 0) Y Z)[i]?=some (Ca s)):False:=by rcases i with _|_|_|_|_|_|i<;>simp at h
theorem NQ{α:Type}{enc:α->Value}{w:World}{base n c:Nat}{e:TypeId}{a:Option Addr}{xs:List α}(h:w.ownsRow base e 1 (slice a n c) n (xs.map enc)):Sl1 enc w a n xs:=by
 obtain⟨Y,Z,e,_,h1⟩:=Co h
 injection e with e1 e2 e3
 subst e1;exact h1
theorem alX{wss:La}(h:∀x∈wss,∀c∈x,0<=c/\c<=255):∀c∈(AG wss).byt,0<=c/\c<=255:=λc Y=>by
 simp only[AG,Be]at Y;obtain⟨x,X,rfl⟩:=Y;unfold DU
 cases e:x.getLast? with
 |none=>simp
 |some y=>
  have Z:=List.mem_of_getLast? e
  rcases(DT wss).1 X with h1|⟨w,V,k,_,_,h2⟩
  ·rw[h1]at Z;cases Z
  ·rw[h2]at Z;exact h w V y (EG Z)
theorem Ft(v:Value):sep (slice none 0 0) v:=λk h _=>by cases h
theorem aaY{fn:Func}{p u:Tmp}{tmps:Array Value}{W:World}{B:Nat}{x y z v:Value}(h:fn.results=#[.cell p 150,.tmp u])(Z:tmps.getD p undef=pointer (some ⟨B,0,none⟩))(hB:W.heap[B]?=some (.cells #[x,y,z,v] 150 (0,0))) :(results fn tmps).run ZP W=.ok (.tuple #[.agg #[x,y,z,v],tmps.getD u undef]) W:=by have Y:(loadVar 150 ⟨B,0,none⟩).run ZP W=.ok (.agg #[x,y,z,v]) W:=run_loadVar_row W B 150 150 #[x,y,z,v] (0,0) _ hB underlying150 rfl kr;rw[results_cell_tmp h,Z];simp[asAddr,Y,Result.andThen]
abbrev IC:Array Value:=#[slice none 0 0,slice none 0 0,slice none 0 0,slice none 0 0]
theorem amr(fold:Bool)(a:Option Addr)(X U:Nat)(wss:La)(w:World)(y:Wds w a X wss)(J:X<=1000000)(z:∀x∈wss,x.length<=1000000)(A:(Ad fold wss).length<=1000000)(C:An fold wss=false) :Calls ZP 87 #[.agg (AM fold a X U)] w λe w'=>e=.returned (.tuple #[.agg #[slice none 0 0,slice none 0 0,slice none 0 0,slice none 0 0],int i64 2])/\Bt w w':=by
 have s:=AA C;clear C;have V:Bt w ((w.alloc (.cells (AM fold a X U) 24)).alloc (.cells (IC) 150)):=((AH _ _).alloc (AC _) _).alloc sm _;have D:=Hf (w:=w.alloc (.cells (AM fold a X U) 24)) (n:=w.heap.size+1) sm (.cells (IC) 150);have j:=AA (aaM fold a X U wss _ (y.below V) J z A);go_enter func87,ntmps87
 go_wp2_with fail
 refine j.out.mono ?_;rintro e Z ⟨rfl,I⟩;rw[s.out];have H:Bt w Z:=V.trans (I.mono (by simp;omega));have Y:Z.heap[w.heap.size+1]?=some (.cells IC 150 (0,0)):=(I.block _ sm).trans D;have B:w.heap.size+1<Z.heap.size:=(AD.1 Y).1;clear I D;have q0:Z.cell? ⟨w.heap.size+1,0,none⟩=some (slice none 0 0):=by simp[cell?,Y]
 have q1:Z.cell? ⟨w.heap.size+1,1,none⟩=some (slice none 0 0):=by simp[cell?,Y]
 have q2:Z.cell? ⟨w.heap.size+1,2,none⟩=some (slice none 0 0):=by simp[cell?,Y]
 have h:Z.cell? ⟨w.heap.size+1,3,none⟩=some (slice none 0 0):=by simp[cell?,Y]
 have f0:∀i,Z.frozen? ⟨w.heap.size+1,i,none⟩=false:=λi=>by simp[frozen?,Y]
 go_wp2;have N:=AJ (i:=3) (AJ (i:=2) (AJ (i:=1) (AJ (i:=0) Y (slice none 0 0)) (slice none 0 0)) (slice none 0 0)) (slice none 0 0);refine Vf (aaY rfl rfl (by simpa using N)) rfl ?_;exact⟨rfl,(((H.setCell (by show w.heap.size<=w.heap.size+1;omega) _).setCell (by show w.heap.size<=w.heap.size+1;omega) _).setCell (by show w.heap.size<=w.heap.size+1;omega) _).setCell (by show w.heap.size<=w.heap.size+1;omega) _⟩
theorem afU(wss:La):(Ef (wss.map ofI):Int)=Ds wss:=by
 unfold Ef Ds
 induction wss with
 |nil=>rfl
 |cons x l ih=>simp only[BO,List.sum_cons]at ih⊢;rw[LK,ih];simp[ofI]
theorem abH(fold:Bool)(a:Option Addr)(N A:Nat)(wss:La)(w:World)(hA:Wds w a N wss)(aD:N<=1000000)(hM:∀x∈wss,x.length<=1000000)(hT:(Ad fold wss).length<=1000000)(hr:An fold wss=true) :Calls ZP 87 #[.agg (AM fold a N A)] w λe w'=>∃t:TV,e=.returned (.tuple #[.agg t.cells,int i64 0])/\Tri w' t (AG wss)/\Bt w w':=by
 have HR:=AA hr;have HL:=AA hA.len;obtain⟨r1,r2,r3,r4,r5,r6⟩:=EI hr;have aA:=(Fv hr).1;obtain⟨bo,bm⟩:=NE (IY hr);have b5:Ef (wss.map ofI)<=1000000:=by have:=afU wss;omega
 have bh:=AA aA;have aI:=AA hA.bytes;have bq:=@run_makeMap ZP;have bf:=AA r3;clear hr r2 r3 r4 r5 r6 aA;have ak:Bt w ((w.alloc (.cells (AM fold a N A) 24)).alloc (.cells (IC) 150)):=((AH _ _).alloc (AC _) _).alloc sm _;have n1:=Hf (w:=w.alloc (.cells (AM fold a N A) 24)) (n:=w.heap.size+1) sm (.cells (IC) 150);have n0:((w.alloc (.cells (AM fold a N A) 24)).alloc (.cells (IC) 150)).heap[w.heap.size]?=some (.cells (AM fold a N A) 24 (0,0)):=(Bg _ _ _ sm).trans (AT _ _);have HC:=AA (aaM fold a N A wss _ (hA.below ak) aD hM hT);go_enter func87,ntmps87
 go_wp2_with fail
 refine HC.out.mono ?_;rintro e U ⟨rfl,hb⟩;rw[HR.out];have am:Bt w U:=ak.trans (hb.mono (by simp;omega));have m0:U.heap[w.heap.size]?=some (.cells (AM fold a N A) 24 (0,0)):=(hb.block _ (by simp;omega)).trans n0;have m1:U.heap[w.heap.size+1]?=some (.cells IC 150 (0,0)):=(hb.block _ sm).trans n1;have aw:w.heap.size+1<U.heap.size:=(AD.1 m1).1;clear hb n1 n0 ak;go_upto_region 4 with fail
 obtain⟨W4,aa⟩:∃W4,W4=((U.alloc (Obj.map #[] 0)).alloc (Obj.map #[] 0)).alloc (.cells (JL (slice none 0 0) (slice none 0 0) (slice none 0 0) (slice none 0 0) U.heap.size (U.heap.size+1)) 230):=⟨_,rfl⟩;have a2:Bt U W4:=by rw[aa];exact(((AH _ _).alloc (AC _) _).alloc sm _).alloc (by simp;omega) _
 have X:MK (U.heap.size+1+1+1) (U.heap.size+1+1) U.heap.size (U.heap.size+1) 0 0 (λ_=>none) (λ_=>none) [] [] [] [] (slice none 0 0) (slice none 0 0) (slice none 0 0) (slice none 0 0) W4:=by
  rw[aa];have aC:=MQ (H:=Unit) (U.alloc (Obj.map #[] 0)) ZP 9 (plainElem ZP 3);rw[DN]at aC;exact⟨Hf sm _,BN _ _ _ _,BN _ _ _ _,BN _ _ _ _,BN _ _ _ _,Ft _,Ft _,Ft _,Ft _,Ft _,Ft _,
   ((MS.start _ (MQ U ZP 9 (plainElem ZP 3))).alloc _).alloc _,(MS.start _ aC).alloc _,⟨by omega,by omega,by omega,by omega,by omega,by omega⟩,by simp⟩
 have V:Bt w W4:=am.trans (a2.mono am.size);have k0:W4.heap[w.heap.size]?=_:=(a2.block _ om).trans m0;have k1:W4.heap[w.heap.size+1]?=_:=(a2.block _ aw).trans m1;rw[<-aa];clear aa a2 am m0 m1;obtain⟨P,hP⟩:∃P,U.heap.size=P:=⟨_,rfl⟩;rw[hP]at X aw⊢;clear hP;have s1:W4.cell? ⟨w.heap.size,1,none⟩=some (slice a N A):=by simp[cell?,k0]
 go_wp2;clear s1
 go_loopw[5,6,19] (λ_ _ aK wr=>∃(k:Nat)(fW:Byt->Option Int),k<=N/\aK=int i64 k/\Hid (Hh wss k fW)/\MK (P+1+1+1) (P+1+1) P (P+1) 0 k (λ_=>none) fW [] [] [] [] (slice none 0 0) (slice none 0 0) (slice none 0 0) (slice none 0 0) wr/\Bt w wr/\wr.heap[w.heap.size]?=some (.cells (AM fold a N A) 24 (0,0))/\wr.heap[w.heap.size+1]?=some (.cells IC 150 (0,0))) (λ_ _ i _=>N-(intOf i).toNat)
 case atStart=>exact⟨0,_,AR _,rfl,Hh.start wss,X,V,k0,k1⟩
 case round=>
  clear X V k0 k1;obtain⟨k,fW,hk,rfl,HW,X,V,k0,k1⟩:=hrel
  by_cases aT:k<N
  ·obtain⟨bb,off,ax,lx,cx,x,b6,bu,b2,hx,hX,bs⟩:=(hA.below V).at_ aT;have bp:lx<=1000000:=by have:=Ff hM hx;rw[hX.len]at this;exact this
   have cv:=Gh hX cx;rw[agO]at cv;have ay:(ofI x).length<=maxLen:=by have:=hX.len;simp[ofI];unfold maxLen;omega
   have aH:=AA (HW.out.step bh.out hx (aI.out x (AX hx)));obtain⟨s,hs⟩:∃s,ofI x=s:=⟨_,rfl⟩;rw[hs]at cv ay aH;subst b6;have aS:P+1+1<wr.heap.size:=(AD.1 X.box).1;have c5:=X.cells.1.2.2.2.2.2;have aR:=X.wds;have aY:decide ((k:Int)<N)=true:=by simp;omega
   clear hx hs hX
   go_wp2_with (at_mapUpdate;refine OQ rfl _ _ _ rfl rfl aR (by unfold maxLen;omega) s k (OW om) rfl rfl ay ?_;intro J aB a7)
   have I:=X.putW aB a7;have aj:Bt w J:=V.grown a7 V.size (λk e=>by cases e;omega);have j0:J.heap[w.heap.size]?=_:=(a7.block _ om (by intro e;injection e with e;omega)).trans k0;have j1:J.heap[w.heap.size+1]?=_:=(a7.block _ om (by intro e;injection e with e;omega)).trans k1
   go_roundw
   case rel=>exact⟨k+1,_,by omega,by go_num,aH,I,aj,j0,j1⟩
   case measure=>simp[intOf];omega
  ·obtain rfl:k=N:=by omega
   have aY:decide ((k:Int)<k)=false:=by simp
   have be:Hid (Hh wss wss.length fW):=by rw[Hid,HL.out];exact HW.out
   have s1:wr.cell? ⟨w.heap.size,1,none⟩=some (slice a k A):=by simp[cell?,k0]
   go_wp2_with fail
   refine(ame a k A wss wr (hA.below V) aD hM b5).mono ?_;rintro e J ⟨al,nl,cl,l,rfl,ah,hl,aN,hb⟩;have aj:Bt w J:=V.trans (hb.mono V.size);have aS:P+1+1<wr.heap.size:=(AD.1 X.box).1;have I:=X.below hb;have av:wr.heap.size<=J.heap.size:=hb.size;have j1:J.heap[w.heap.size+1]?=_:=(hb.block _ om).trans k1;have az:nl=(AB wss).length:=by rw[ah,<-hl];simp
   have B:MK J.heap.size (P+1+1) P (P+1) 0 k (λ_=>none) fW ((AG wss).up.take 0) ((AG wss).dep.take 0) ((AG wss).wrd.take 0) ((AG wss).byt.take 0) (slice none 0 0) (slice none 0 0) (slice none 0 0) (slice none 0 0) J:=
    ⟨I.box,BN _ _ _ _,BN _ _ _ _,BN _ _ _ _,BN _ _ _ _,Ft _,Ft _,Ft _,Ft _,Ft _,Ft _,I.nod,I.wds,⟨by omega,by omega,by omega,by omega,by omega,by omega⟩,AC _⟩
   have ao:=AA hl;have a1:=AA az;have bg:=AA ah;have aQ:nl<=400:=by omega
   obtain⟨BS,ai⟩:∃BS,J.heap.size=BS:=⟨_,rfl⟩;have bd:Hid (∀q,q<BS->q≠P+1+1->q≠P->J.heap[q]?=J.heap[q]?):=λ_ _ _ _=>rfl;rw[ai]at B av;obtain⟨_,ac⟩:=aN;obtain⟨g,off,b7,aE,a8⟩:=ac.resolve_left om;obtain⟨x0,ag⟩:∃x0,l[0]?=some x0:=⟨l[0]'om,by simp⟩;have aX:g≠P+1+1:=λe=>by have h1:=a8 0 x0 ag;rw[e]at h1;have h2:=B.box;simp only[cell?,h2]at h1;exact alG _ _ h1
   have aW:g≠P:=λe=>by have h1:=a8 0 x0 ag;rw[e]at h1;obtain⟨D,⟨es,b9,h2,_⟩,_⟩:=B.nod;simp[cell?,h2]at h1
   have bk:=AA a8;rw[ai]at aE;subst b7;clear X I V k0 k1 hb s1 hl ah az ai bd ac a8 ag;go_wp2
   go_loopw[8,34] (λ_ aJ wr=>∃(i:Nat)(fN:Byt->Option Int)(u d x b:Value),i<=nl/\aJ=int i64 i/\Hid (∀j y,j<i->l[j]?=some y->fN y=some (j:Int))/\MK BS (P+1+1) P (P+1) i k fN fW ((AG wss).up.take i) ((AG wss).dep.take i) ((AG wss).wrd.take i) ((AG wss).byt.take i) u d x b wr/\Bl (P+1+1) P BS J wr) (λ_ s _=>nl-(intOf s).toNat)
   case atStart=>exact⟨0,_,_,_,_,_,AR _,rfl,(λj y h=>by omega),B,Bl.refl _ _ _ _⟩
   case round=>
    clear B;obtain⟨i,fN,u,d,x,b,hi,rfl,HF,Y,C⟩:=hrel
    by_cases bt:i<nl
    ·obtain⟨s,hs⟩:∃s,l[i]?=some s:=⟨l[i]'(by have:=bg.out;omega),by simp⟩;have hN:(AB wss)[i]?=some (toI s):=by rw[<-ao.out,BU,hs];rfl
     have cs:wr.cell? ⟨g,off+i,none⟩=some (Ca s):=(BC (C.block g aE aX aW)).trans (bk.out i s hs);have aM:s.length<=32:=by
      have h1:=(DT wss).1 (AX hN);have h2:=Ml s
      rcases h1 with h1|⟨z,hz,q,_,h3,h4⟩
      ·rw[h1]at h2;simp at h2;omega
      ·have h5:=(bf.out z hz).2;rw[h4,Ag]at h2;omega
     obtain⟨uI,a6⟩:∃uI,CW (AB wss) (toI s).dropLast=uI:=⟨_,rfl⟩;have ar:s=[]->uI=0:=λe=>by rw[<-a6,e];exact CV (CL wss).nodup (CM wss)
     have aq:s≠[]->fN s.dropLast=some uI:=λe=>by
      obtain⟨j,hj,aU,aO⟩:=aoL hN (λe2=>e (amY.1 e2));rw[<-a6,aO];have h1:(l.map toI)[j]?=some (toI s).dropLast:=by rw[ao.out];exact aU
      rw[BU]at h1;obtain⟨y,hy,h2⟩:=Fo.1 h1;rw[<-adO]at h2;rw[<-LS h2];exact HF.out j y hj hy
     have eU:Hid ((AG wss).up.take (i+1)=(AG wss).up.take i++[uI]):=As (by simp[AG,hN,a6]);have eD:Hid ((AG wss).dep.take (i+1)=(AG wss).dep.take i++[(s.length:Int)]):=As (by simp[AG,hN,Ml]);have eX:Hid ((AG wss).wrd.take (i+1)=(AG wss).wrd.take i++[(fW s).getD (-1)]):=As (by rw[be.out.get];simp[AG,hN]);have eB:Hid ((AG wss).byt.take (i+1)=(AG wss).byt.take i++[Ie s]):=As (by rw[akv];simp[AG,hN]);have aV:i<(AB wss).length:=by have:=a1.out;omega
     have lU:((AG wss).up.take i).length=i:=by rw[Ag];simp[AG];omega
     have lD:((AG wss).dep.take i).length=i:=by rw[Ag];simp[AG];omega
     have lX:((AG wss).wrd.take i).length=i:=by rw[Ag];simp[AG];omega
     have lB:((AG wss).byt.take i).length=i:=by rw[Ag];simp[AG];omega
     have bj:Hid (∀j y,j<i+1->l[j]?=some y->(if y=s then some (((AG wss).up.take i).length:Int) else fN y)=some (j:Int)):=λj y hj hy=>by
      by_cases e:j=i
      ·subst e;rw[hs]at hy;rw[Lc (AK hy).symm,lU]
      ·have aP:y≠s:=λe2=>by
        subst e2;have h1:(AB wss)[j]?=some (toI y):=by rw[<-ao.out,BU,hy];rfl
        exact e (Ln (CL wss).nodup h1 hN)
       rw[Lb aP];exact HF.out j y om hy
     have af:=AA (anN BS (P+1+1) P (P+1) i k fN fW _ _ _ _ u d x b s uI wr Y om om om om om om ar aq);have aZ:decide ((i:Int)<nl)=true:=by simp;omega
     clear Y ar aq hN hs a6 lU lD lX lB HF
     go_wp2_with fail
     refine af.out.mono ?_;rintro e w6 ⟨rfl,u',d',x',b',aF,ae⟩;have b8:Hid (MK BS (P+1+1) P (P+1) (i+1) k (λq=>if q=s then some (((AG wss).up.take i).length:Int) else fN q) fW ((AG wss).up.take (i+1)) ((AG wss).dep.take (i+1)) ((AG wss).wrd.take (i+1)) ((AG wss).byt.take (i+1)) u' d' x' b' w6):=by rw[Hid,eU.out,eD.out,eX.out,eB.out];exact aF
     have bi:=AA (C.trans ae);clear aF ae C af cs eU eD eX eB;go_wp2
     go_roundw
     case rel=>exact⟨i+1,_,u',d',x',b',by omega,by go_num,bj,b8.out,bi.out⟩
     case measure=>simp[intOf];omega
    ·obtain rfl:i=nl:=by omega
     have aZ:decide ((i:Int)<i)=false:=by simp
     have tU:(AG wss).up.take i=(AG wss).up:=Ap (by have:=a1.out;simp[AG];omega);have tD:(AG wss).dep.take i=(AG wss).dep:=Ap (by have:=a1.out;simp[AG];omega);have tX:(AG wss).wrd.take i=(AG wss).wrd:=Ap (by have:=a1.out;simp[AG];omega);have tB:(AG wss).byt.take i=(AG wss).byt:=Ap (by have:=a1.out;simp[AG];omega);rw[tU,tD,tX,tB]at Y;clear tU tD tX tB;have aG:Bt w wr:=C.below aj om om om;have j7:wr.heap[w.heap.size+1]?=some (.cells IC 150 (0,0)):=(C.block _ om om om).trans j1;obtain⟨au,cu,rfl,b1,_⟩:=Co Y.up;obtain⟨ad,cd,rfl,b3,_⟩:=Co Y.dep;obtain⟨ax,cx,rfl,b0,_⟩:=Co Y.wrd;obtain⟨ab,cb,rfl,b4,_⟩:=Co Y.byt;obtain⟨⟨c0,c1,c2,c3,_,_⟩,_⟩:=Y.cells;have q0:wr.cell? ⟨w.heap.size+1,0,none⟩=some (slice none 0 0):=by simp[cell?,j7]
     have q1:wr.cell? ⟨w.heap.size+1,1,none⟩=some (slice none 0 0):=by simp[cell?,j7]
     have q2:wr.cell? ⟨w.heap.size+1,2,none⟩=some (slice none 0 0):=by simp[cell?,j7]
     have q3:wr.cell? ⟨w.heap.size+1,3,none⟩=some (slice none 0 0):=by simp[cell?,j7]
     have f0:∀i,wr.frozen? ⟨w.heap.size+1,i,none⟩=false:=λi=>by simp[frozen?,j7]
     have Z:w.heap.size+1<BS:=by omega
     obtain⟨vU,aL⟩:∃v,v=slice au (AG wss).up.length cu:=⟨_,rfl⟩;have rU:=λv0 v1 v2 v3=>Bm (i:=3) (Bm (i:=2) (Bm (i:=1) (Bm (i:=0) Y.up Z v0) Z v1) Z v2) Z v3;have rD:=λv0 v1 v2 v3=>Bm (i:=3) (Bm (i:=2) (Bm (i:=1) (Bm (i:=0) Y.dep Z v0) Z v1) Z v2) Z v3;have rX:=λv0 v1 v2 v3=>Bm (i:=3) (Bm (i:=2) (Bm (i:=1) (Bm (i:=0) Y.wrd Z v0) Z v1) Z v2) Z v3;have rB:=λv0 v1 v2 v3=>Bm (i:=3) (Bm (i:=2) (Bm (i:=1) (Bm (i:=0) Y.byt Z v0) Z v1) Z v2) Z v3;have HU:=AA rU;have HD:=AA rD;have HX:=AA rX;have HB:=AA rB;have ap:=AJ (i:=3) (AJ (i:=2) (AJ (i:=1) (AJ (i:=0) j7 (slice au (AG wss).up.length cu)) (slice ad (AG wss).dep.length cd)) (slice ax (AG wss).wrd.length cx)) (slice ab (AG wss).byt.length cb);have HZ:=AA ap;have bl:=AA ((((aG.setCell (p:=⟨w.heap.size+1,0,none⟩) (by show w.heap.size<=w.heap.size+1;omega) (slice au (AG wss).up.length cu)).setCell (p:=⟨w.heap.size+1,1,none⟩) (by show w.heap.size<=w.heap.size+1;omega) (slice ad (AG wss).dep.length cd)).setCell (p:=⟨w.heap.size+1,2,none⟩) (by show w.heap.size<=w.heap.size+1;omega) (slice ax (AG wss).wrd.length cx)).setCell (p:=⟨w.heap.size+1,3,none⟩) (by show w.heap.size<=w.heap.size+1;omega) (slice ab (AG wss).byt.length cb));clear Y rU rD rX rB ap aG aL vU j7 C;go_wp2;refine Vf (aaY rfl rfl (by simpa using HZ.out)) rfl ?_;refine⟨⟨au,(AG wss).up.length,cu,ad,(AG wss).dep.length,cd,ax,(AG wss).wrd.length,cx,ab,(AG wss).byt.length,cb⟩,rfl,⟨NQ (HU.out _ _ _ _),NQ (HD.out _ _ _ _),NQ (HX.out _ _ _ _),⟨NQ (HB.out _ _ _ _),alX aI.out⟩,⟨b1,b3,b0,b4⟩⟩,bl.out⟩
end Go.Proofs.YtaamacoicojhnaaGreat
