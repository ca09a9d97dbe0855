/- Proofs over the given program, part 9. -/
import Derived.Test.YtaamacoicojhnaaGreatZH8
set_option linter.unusedVariables false
set_option linter.unusedSimpArgs false
set_option maxRecDepth 100000
set_option maxHeartbeats 16000000
open Go.Proofs.Tryz
open Go.Proofs.Tryz renaming prog→ZP
open Go.World(cell? frozen?)
open Option renaming some→E,none→O
open Go.Value renaming int→R,slice→T,pointer→L,bool→i6,tuple→ta,agg→i8
open Go.IntKind renaming i64→K
open Bool renaming false→M,true→G
open Go renaming World→Wa,Value→Vh
open Go.Ending renaming returned→ra
open Go.Obj renaming cells→i7
open List renaming length→lc
namespace Go.Proofs.YtaamacoicojhnaaGreat
open Go.RowKit Go.Sort
theorem aiv:(ZP.info? 32).map (λi=>(i.zero,i.size,i.bytes))=E (E (T O 0 0),1,24):=by kernel_rfl
theorem aoQ{n i:Nat}(h2:n<=1000000)(h:i<n):wrap64 ((i:Int)+1)=((i+1:Nat):Int):=by unfold wrap64;omega
structure NwS(base S:Nat)(tv:Value)(vs:List TVw)(rs:La)(br:Bool)(w:World):Prop where
 box:w.heap[S]?=some (.cells #[tv,i6 br,R K 0] 186 (0,0))
 inX:base<=S
 row:w.ownsRow base 32 1 tv rs.length (vs.map svW)
 tS:tv.ownBlock≠some S
 len:vs.length=rs.length
 el:∀(i:Nat)(v:TVw)(xs:List Int),vs[i]?=some v->rs[i]?=some xs->Bys w v.1 v.2.1 xs/\v.2.1<=v.2.2/\∀q,v.1=some q->base<=q.block/\q.block<w.heap.size/\q.block≠S/\tv.ownBlock≠some q.block
section
variable {base S:Nat}{tv:Vh}{vs:List TVw}{rs:La}{br:Bool}{w D:Wa}
theorem NwS.keep(h:NwS base S tv vs rs br w)(Z:Bt w D):NwS base S tv vs rs br D:=by refine⟨(Z.block _ (AD.1 h.box).1).trans h.box,h.inX,DJ h.row Z,h.tS,h.len,λi v xs X Y=>?_⟩;obtain⟨h1,h2,h3⟩:=h.el i v xs X Y;exact⟨h1.below Z,h2,λq e=>let⟨g1,g2,g3⟩:=h3 q e;⟨g1,Af g2 Z.size,g3⟩⟩
theorem NwS.src(h:NwS base S tv vs rs br w):∃a c,BY (λk=>base<=k) S a (lc rs) c vs rs br 0 w:=by
 obtain⟨a,c,rfl,H,U⟩:=SlK.own h.row;refine⟨a,c,h.box,h.inX,⟨h.len,?_⟩,λh0 q N=>?_,h.len,H,λi v xs V X=>?_⟩
 ·rcases U.2 with h|⟨b,off,e,J,Z⟩
  ·exact .inl h
  ·exact .inr ⟨b,off,e,J,λi x I=>Z i _ (by rw[BU,I];rfl)⟩
 ·subst N
  rcases h.row.2 with⟨e,C⟩|⟨g,cap,Y,e,h1,h2,_⟩
  ·cases e
  ·cases e
   exact⟨h1,λe=>h.tS (by rw[<-e];rfl),Y,h2⟩
 ·obtain⟨h1,h2,h3⟩:=h.el i v xs V X;refine⟨h1,h2,λ_ q e=>?_⟩;obtain⟨y,g2,A,B⟩:=h3 q e;exact⟨y,A,λq' j s=>B (by rw[j,s];rfl)⟩
theorem NwS.app(h:NwS base S tv vs rs br D)(x:List Int)(hx:∀y∈x,0<=y/\y<=255){Z:Wa}{v:TVw}(ho:Z.ownsRow D.heap.size 5 1 (svW v) (lc x) (x.map (Value.int .u8)))(hb:Bt D Z)(hn:lc rs<=1000000) :∃J c1 X,(Builtin.append_ #[22,22] 22 #[tv,.slice (E ⟨Z.heap.size,0,O⟩) 1 1]).run ZP (Z.alloc (i7 #[svW v] 32))=.ok (.slice J (lc rs+1) c1) X/\X.frozen? ⟨S,0,O⟩=M/\X.cell? ⟨S,0,O⟩=E tv/\
   NwS base S (T J (lc rs+1) c1) (vs++[v]) (rs++[x]) br (X.setCell ⟨S,0,O⟩ (T J (lc rs+1) c1))/\Below base D (X.setCell ⟨S,0,O⟩ (T J (lc rs+1) c1)):=by
 obtain⟨i0,hi,af,ae,ad⟩:=Ve aiv;obtain⟨A,hA⟩:∃A,A=Z.alloc (i7 #[svW v] 32):=⟨_,rfl⟩;have N:Bt Z A:=by rw[hA];exact AL _ _
 have ap:A.heap.size=Z.heap.size+1:=by rw[hA];simp
 have ac:Bt D A:=hb.trans (N.mono hb.size);have au:=(AD.1 h.box).1;have h5:=h.keep hb;have ag:SlK 1 A (E ⟨Z.heap.size,0,O⟩) 1 [svW v]:=by
  have hx:A.heap[Z.heap.size]?=E (i7 #[svW v] 32 (0,0)):=by rw[hA];exact AT _ _
  refine⟨rfl,.inr ⟨_,0,rfl,by omega,λi u hu=>?_⟩⟩;have e:A.cell? ⟨Z.heap.size,0+i,O⟩=(#[svW v]:Array Vh)[0+i]?:=by simp only[cell?,hx];simp
  rw[e,DD];show(List.toArray [svW v])[i]?=E u;rw[Dy];exact hu
 have a6:=DJ h5.row N;rw[<-hA];obtain⟨v1,X,hr,a7,j,ab⟩:=Gu (P:=ZP) A base 22 22 32 i0 (.slice O 0 0) 1 24 underlying22 hi af ae ad rfl (by decide) tv (lc rs) (vs.map svW) a6 (E ⟨Z.heap.size,0,O⟩) 1 1 [svW v] ag (by simp[Value.oneCell',svW]) (by unfold maxLen;omega) om (by have:=h.inX;have:=ac.size;omega);obtain⟨J,c1,rfl,_,_⟩:=SlK.own a7;have aa:=j.size;have av:=hb.size;have Y:∀k,k<Z.heap.size->tv.ownBlock≠E k->X.heap[k]?=Z.heap[k]?:=λk hk I=>(j.block k om (λe=>I e.symm)).trans (N.block k hk);have a2:X.heap[S]?=E (i7 #[tv,.bool br,.int .i64 0] 186 (0,0)):=(Y S om h.tS).trans h5.box;have s:∀g,(Value.slice J (lc rs+1) c1).ownBlock=E g->tv.ownBlock=E g∨g=A.heap.size:=λg e=>by
  rcases ab with e2|e2
  ·rw[e2]at e;exact .inl e
  ·rw[e2]at e;exact .inr (AK e).symm
 have H:(T J (lc rs+1) c1).ownBlock≠E S:=λe=>by
  rcases s S e with e2|e2
  ·exact h.tS e2
  ·omega
 have U:∀k,k≠S->(X.setCell ⟨S,0,O⟩ (T J (lc rs+1) c1)).heap[k]?=X.heap[k]?:=λk hk=>AQ X ⟨S,0,O⟩ _ k hk;have B:X.heap.size<=(X.setCell ⟨S,0,O⟩ (T J (lc rs+1) c1)).heap.size:=by simp[World.setCell]
 have C:∀g,tv.ownBlock=E g->base<=g/\g<D.heap.size:=λg e=>Gw h.row g e;refine⟨J,c1,X,hr,by simp[frozen?,a2],by simp[cell?,a2],⟨AJ (i:=0) a2 _,h.inX,?_,H,by simp[h.len],λi v' xs hv V=>?_⟩,?_⟩
 ·rw[List.length_append,Aj];exact Fu a7 λg ak=>U g λe=>H (by rw[<-e];exact ak)
 ·by_cases a8:i<lc vs
  ·rw[By a8]at hv;rw[By (by rw[<-h.len];exact a8)]at V;obtain⟨h1,h2,h3⟩:=h5.el i v' xs hv V;obtain⟨_,_,ao⟩:=h.el i v' xs hv V;refine⟨h1.same (AS (AS N.size aa) B) λh0 q e=>?_,h2,λq e=>?_⟩
   ·obtain⟨g1,g2,g3,g4⟩:=h3 q e;exact(U _ g3).trans (Y _ g2 g4)
   ·obtain⟨g1,g2,g3,g4⟩:=ao q e;refine⟨g1,by omega,g3,λe2=>?_⟩
    rcases s _ e2 with e3|e3
    ·exact g4 e3
    ·omega
  ·obtain rfl:i=lc vs:=by
    have:=(AP.1 hv).1;simp at this;omega
   rw[DY (AC _),FG]at hv;rw[h.len,DY (AC _),FG]at V
   cases AK hv
   cases AK V
   have aj:=Gw ho;obtain⟨a5,c5,ev,ar,ai⟩:=SlK.own ho;have e1:=congrArg (λu=>match u with|T a _ _=>a|_=>O) ev;have e2:=congrArg (λu=>match u with|T _ n _=>n|_=>0) ev;have e3:=congrArg (λu=>match u with|T _ _ c=>c|_=>0) ev;dsimp only[svW]at e1 e2 e3;have hq:∀q,v.1=E q->D.heap.size<=q.block/\q.block<Z.heap.size:=λq e=>aj _ (by rw[ev,<-e1,e];rfl);have I:∀q,v.1=E q->tv.ownBlock≠E q.block:=λq e e4=>by have:=hq q e;have:=C _ e4;omega
   have am:Bys Z v.1 v.2.1 x:=by
    refine⟨⟨e2.symm,?_⟩,hx⟩;rw[e1,e2]
    rcases ai.2 with h|⟨b,off,e,hl,al⟩
    ·exact .inl h
    ·exact .inr ⟨b,off,e,hl,λi x hi=>al i _ (by rw[BU,hi];rfl)⟩
   refine⟨am.same (AS (AS N.size aa) B) λh0 q e=>?_,by omega,λq e=>?_⟩
   ·have:=hq q e;exact(U _ om).trans (Y _ this.2 (I q e))
   ·have h7:=hq q e;have h8:=h.inX;refine⟨by omega,by omega,by omega,λe2=>?_⟩
    rcases s _ e2 with e3|e3
    ·exact I q e e3
    ·omega
 ·have hX:Chg (λk=>base<=k) D (X.setCell ⟨S,0,O⟩ (T J (lc rs+1) c1)):=((Chg.of_same ac).grown j λg e _=>(C g e).1).set h.inX;exact hX.below (by have:=h.inX;omega) λk hk aq=>by omega
theorem NwS.new{base:Nat}{br:Bool}{w:Wa}{S:Nat}(hB:w.heap[S]?=E (i7 #[T O 0 0,i6 br,R K 0] 186 (0,0)))(h:base<=S):NwS base S (T O 0 0) [] [] br w:=⟨hB,h,BN _ _ _ _,by simp[Value.ownBlock],rfl,λi v xs Z=>by simp at Z⟩
end
def aph(w:Wa)(a:Option Addr)(n:Nat)(vs:List TVw)(rs:La):Prop:=Sl1 svW w a n vs/\lc vs=lc rs/\∀(i:Nat)(v:TVw)(xs:List Int),vs[i]?=E v->rs[i]?=E xs->Bys w v.1 v.2.1 xs
theorem aiT(a:Option Addr)(n c:Nat)(vs:List TVw)(rs:La)(br:Bool)(w:Wa)(h:aph w a n vs rs)(hn:n<=1000000)(hl:∀x∈rs,lc x<=1000000) :Calls ZP 55 #[i6 br,T a n c] w λe w'=>∃S a' c' X,e=ra (L (E ⟨S,0,O⟩))/\BY (λk=>w.heap.size<=k) S a' (lc rs) c' X rs br 0 w'/\Bt w w':=by
 have ab:lc rs=n:=by rw[<-h.2.1];exact h.1.1
 have H:=AA h;have HL:=AA hl;have HN:=AA ab;clear h hl ab;go_enter func55,ntmps55;go_upto_region 3 with fail
 obtain⟨W0,B⟩:∃W,W=w.alloc (i7 #[T O 0 0,i6 br,R K 0] 186):=⟨_,rfl⟩;obtain⟨S,hS⟩:∃S,S=w.heap.size:=⟨_,rfl⟩;have V:Bt w W0:=by rw[B];exact AL _ _
 have U:∃tv X,NwS w.heap.size S tv X (rs.take 0) br W0:=⟨_,_,NwS.new (by rw[B,hS];exact AT _ _) om⟩;rw[<-B,<-hS];have HS:=AA hS;clear B hS;have aj:=AA U;have ak:=AA V;clear U V
 go_loopw[13] (λal wr=>∃(i:Nat),i<=n/\al=R K i/\Hid (∃tv X,NwS w.heap.size S tv X (rs.take i) br wr)/\Hid (Bt w wr)) (λs _=>n-(intOf s).toNat)
 case atStart=>exact⟨0,AR _,rfl,aj,ak⟩
 case round=>
  clear aj ak;obtain⟨i,aq,rfl,U,V⟩:=hrel
  by_cases ae:i<n
  ·have hd:decide ((i:Int)<n)=G:=by simp;omega
   have j:i<lc rs:=by rw[HN.out];exact ae
   have ad:i<lc vs:=by rw[H.out.2.1];exact j
   obtain⟨x,hx⟩:∃x,rs[i]?=E x:=⟨rs[i],Ar j⟩;obtain⟨v,hv⟩:∃v,vs[i]?=E v:=⟨vs[i],Ar ad⟩;have a2:=H.out.2.2 i v x hv hx;obtain⟨b,o,rfl,af,ag⟩:=H.out.1.2.resolve_left om;have r0:wr.cell? ⟨b,o+i,O⟩=E (T v.1 v.2.1 v.2.2):=(V.out.cell (p:=⟨b,o+i,O⟩) af).trans (ag i v hv);have ac:lc x<=1000000:=HL.out x (List.mem_of_getElem? hx);have a7:v.2.1=lc x:=a2.1.1.symm;have aa:rs.take (i+1)=rs.take i++[x]:=by rw[LH,hx];rfl
   have a8:(rs.take i).length=i:=by rw[Ag];omega
   obtain⟨tv,X,N⟩:=U.out;obtain⟨D,hD⟩:∃D,D=wr.drew:=⟨_,rfl⟩;have C:Bt wr D:=by rw[hD];exact AN wr 1
   have y:=N.keep C;have ai:=V.out.trans (C.mono V.out.size);have sD:D.cell? ⟨S,0,O⟩=E tv:=by simp[cell?,y.box]
   have J:Bys D v.1 v.2.1 x:=(a2.below (V.out.mono (AC _))).below C;have HC:=AA (acP v.1 v.2.1 v.2.2 (x.map (Value.int .u8)) D (Jz J.1) (λu hu=>by obtain⟨x,_,rfl⟩:=Be.1 hu;rfl) om);rw[a7]at r0 HC;obtain⟨va,vn,vc⟩:=v;dsimp only at r0 HC;have HX:=AA (Lq J.2 (Lq ac (Lq aa a8)));have am:=AA y;have ao:=AA ai;have i1:(0:Int)<=(i:Int):=by omega
   have i2:(i:Int)<(n:Int):=by omega
   have ap:IntKind.i64.wrap ((i:Int)+1)=((i+1:Nat):Int):=by rw[BK];omega
   have a6:wrap64 ((i:Int)+1)=((i+1:Nat):Int):=aoQ hn ae;clear a2 ag af ac a7 aa a8 N C y ai J hx hv j ad U;go_upto_region 5 with fail
   refine Vb ?_;refine Va (S:=λY=>True) kr trivial (λhHeld=>?_);rw[<-hD];clear hD;refine tkA 0 ?_;refine tkA 1 ?_;refine tkA 2 ?_;refine tkA 3 ?_;refine tkA 4 ?_;refine tkA 6 ?_;refine apE 5 7 (λKB Z=>?_) (λKB Z=>?_)
   focus
    go_simp;refine Z.out _ _ trivial (λh5=>?_);clear Z KB
    try simp only[pq]
    refine rdy 7 (λKB Z=>?_);go_simp
    go_at_call 104;refine HC.out.mono ?_;rintro e I ⟨v5,rfl,ho,hb⟩
    obtain⟨a5,c5,A,_,_⟩:=SlK.own ho;subst A;refine Z.out _ _ trivial (λh7=>?_);clear Z KB
    try simp only[pq]
    have s5:I.cell? ⟨S,0,O⟩=E tv:=(hb.cell (p:=⟨S,0,O⟩) (DO D _ sD)).trans sD;have sA:(I.alloc (i7 #[T a5 (lc x) c5] 32)).cell? ⟨S,0,O⟩=E tv:=((AL I _).cell (p:=⟨S,0,O⟩) (DO I _ s5)).trans s5;have HO:=AA ho;have HB:=AA hb;clear ho hb;refine rdy 8 (λKB Z=>?_);go_simp;refine Z.out _ _ trivial (λh8=>?_);clear Z KB
    try simp only[pq]
   rotate_left
   focus
    go_simp
    go_at_call 104;refine HC.out.mono ?_;rintro e I ⟨v5,rfl,ho,hb⟩
    obtain⟨a5,c5,A,_,_⟩:=SlK.own ho;subst A;refine Z.out _ _ trivial (λh7=>?_);clear Z KB
    try simp only[pq]
    have s5:I.cell? ⟨S,0,O⟩=E tv:=(hb.cell (p:=⟨S,0,O⟩) (DO D _ sD)).trans sD;have sA:(I.alloc (i7 #[T a5 (lc x) c5] 32)).cell? ⟨S,0,O⟩=E tv:=((AL I _).cell (p:=⟨S,0,O⟩) (DO I _ s5)).trans s5;have HO:=AA ho;have HB:=AA hb;clear ho hb;refine apE 5 8 (λKB Z=>?_) (λKB Z=>?_)
    focus
     go_simp;refine Z.out _ _ trivial (λh5=>?_);clear Z KB
     try simp only[pq]
     refine rdy 8 (λKB Z=>?_);go_simp;refine Z.out _ _ trivial (λh8=>?_);clear Z KB
     try simp only[pq]
    rotate_left
    focus
     go_simp;refine Z.out _ _ trivial (λh8=>?_);clear Z KB
     try simp only[pq]
     refine rdy 5 (λKB Z=>?_);go_simp;refine Z.out _ _ trivial (λh5=>?_);clear Z KB
     try simp only[pq]
   all_goals
    clear s5 sA sD;obtain⟨a1,c1,W1,hr,f1,k1,g1,g2⟩:=am.out.app (v:=(a5,lc x,c5)) x HX.out.1 HO.out HB.out (by have:=HX.out.2.2.2;omega);have HR:=AA hr;have G1:Hid (∃tv X,NwS w.heap.size S tv X (rs.take (i+1)) br (W1.setCell ⟨S,0,O⟩ (T a1 ((rs.take i).length+1) c1))):=⟨_,_,by rw[HX.out.2.2.1];exact g1⟩;have G2:=AA (ao.out.trans g2);obtain⟨LO,hL⟩:∃LO,(rs.take i).length+1=LO:=⟨_,rfl⟩;rw[hL]at HR G1 G2;clear g1 g2 hr hL HC;refine rdy 9 (λKB Z=>?_);refine GU (.tmp 22) (.tmp 25) 22 rfl _ _ rfl rfl rfl HR.out ?_;refine Z.out _ _ trivial (λh9=>?_);clear Z KB
    try simp only[pq]
    refine tkA 10 ?_;refine tkA 11 ?_;refine tkA 12 ?_;refine rdy 13 (λKB Z=>?_);go_simp;refine Z.out _ _ trivial (λar=>?_);clear Z KB
    try simp only[pq]
    refine Vd kr ?_ _;refine At ?_;go_wp2
    go_roundw
    case rel=>exact⟨i+1,by omega,by first|rfl|simp[a6],G1,G2⟩
    case measure=>(try simp only[a6]);simp[intOf];omega
  ·obtain rfl:i=n:=by omega
   have hd:decide ((i:Int)<i)=M:=by simp
   go_wp2;go_ret;obtain⟨tv,X,N⟩:=U.out;rw[<-HN.out,Hl]at N;obtain⟨a',c',hs⟩:=N.src;exact⟨S,a',c',X,rfl,hs,V.out⟩
theorem ahY:(ZP.info? 4).map (λi=>(i.zero,i.size,i.bytes))=E (E (i6 M),1,1):=by kernel_rfl
theorem alz:(ZP.info? 5).map (λi=>(i.zero,i.size,i.bytes))=E (E (.int .u8 0),1,1):=by kernel_rfl
theorem al9:(ZP.info? 32).map (λi=>(i.zero,i.size,i.bytes))=E (E (T O 0 0),1,24):=by kernel_rfl
theorem agf(z:Vh)(n:Nat):madeCells #[z] n=(List.replicate n z).toArray:=by rw[<-toList_madeCells_one z n,Array.toArray_toList]
theorem apt{n i:Nat}(h2:n<=16)(h:i<n):wrap64 ((i:Int)+1)=((i+1:Nat):Int):=by unfold wrap64;omega
def frN(n i:Nat):List Int:=((List.range n).reverse.take i).map λx:Nat=>(x:Int)
theorem ao7(n:Nat):frN n n=(List.range n).reverse.map λx:Nat=>(x:Int):=by unfold frN;rw[Ap sm]
theorem al4{n i:Nat}(h:i<n):frN n (i+1)=frN n i++[(n:Int)-1-i]:=by
 unfold frN;have Z:i<(List.range n).reverse.length:=by simp;exact h
 rw[List.take_succ_eq_append_getElem Z,Aj];congr 1;simp;omega
theorem ao3(n i:Nat):(frN n i).length<=i:=by unfold frN;simp;omega
theorem BB.new{base U D B n size:Nat}{w:Wa}(N:w.heap[U]?=E (i7 (List.replicate n (i6 M)).toArray 4 (0,0)))(J:w.heap[D]?=E (i7 (List.replicate n (T O 0 0)).toArray 32 (0,0)))
  (hB:w.heap[B]?=E (i7 #[T O 0 0,R K (size:Int),T (E ⟨U,0,O⟩) n n,T (E ⟨D,0,O⟩) n n] 210 (0,0))) (h1:base<=U) (h2:base<=D) (h3:base<=B) (h4:U≠D) (h5:U≠B) (h6:D≠B) :
  BB (λk=>base<=k) (λk=>if k=B then 1 else if k=U then 2 else 3) B U D (T O 0 0) (List.replicate n (T O 0 0)) size (frN n 0) (List.replicate n M) (List.replicate n []) w:=by
 have V:(List.replicate n M).length=n:=CS;refine⟨by rw[V];exact hB,by rw[List.map_replicate];exact N,J,⟨h3,h1,h2⟩,⟨Lc rfl,by rw[Lb h5,Lc rfl],by rw[Lb h6,Lb (Ne.symm h4)]⟩,⟨CO.nil _ _ _ _,λg Z=>by cases Z⟩,by simp,λi v xs X Y=>?_⟩;have I:=Ho (List.mem_of_getElem? X);have e2:=Ho (List.mem_of_getElem? Y);subst I e2;exact⟨CO.nil _ _ _ _,λg Z=>by cases Z⟩
theorem BB.room{X:Nat->Prop}{Y:Nat->Nat}{B U D size:Nat}{A:Vh}{I:List Vh}{fr:List Int}{us:List Bool}{n i cap:Nat}{cs:Array Vh}{w:Wa}(h:BB X Y B U D A I size fr us (List.replicate n []) w)(hi:i<n)(a1:cs.size=cap)(C:cap<=1000) :∃Z J,BB (λk=>X k∨w.heap.size<=k) Z B U D A J size fr us (List.replicate n []) ((w.alloc (i7 cs 5)).setCell ⟨D,i,O⟩ (T (E ⟨w.heap.size,0,O⟩) 0 cap))/\Chg X w ((w.alloc (i7 cs 5)).setCell ⟨D,i,O⟩ (T (E ⟨w.heap.size,0,O⟩) 0 cap))/\(w.alloc (i7 cs 5)).frozen? ⟨D,i,O⟩=M/\(∃u,(w.alloc (i7 cs 5)).cell? ⟨D,i,O⟩=E u):=by
 have hd:=h.dl;rw[CS]at hd;have N:i<lc I:=by omega
 have hx:(w.alloc (i7 cs 5)).heap[w.heap.size]?=E (i7 cs 5 (0,0)):=AT _ _;obtain⟨H,j,s,y⟩:=h.setD (v:=I[i]) (v':=T (E ⟨w.heap.size,0,O⟩) 0 cap) (xs':=[]) (V:=w.alloc (i7 cs 5)) i (Ar N) ⟨rfl,.inr ⟨_,cap,cs,rfl,AR _,hx,AR _,by unfold maxLen;omega,by omega,by simp⟩⟩ (.of_same (AL _ _)) (λg e=>.inr (by have:=AK e;exact Gq this));rw[List.set_replicate_self]at H;exact⟨_,_,H,j,s,y⟩
theorem alQ(n size:Nat)(w:Wa)(h1:1<=n)(h2:n<=16)(h3:1<=size)(h4:size<=288) :Calls ZP 96 #[R K (n:Int),R K (size:Int)] w λe w'=>∃B U D,e=ra (ta #[L (E ⟨B,0,O⟩),R K 0])/\DM (λk=>w.heap.size<=k) B U D size ((List.range n).reverse.map λx:Nat=>(x:Int)) (List.replicate n M) (List.replicate n []) w'/\Bt w w':=by
 have ak:∀V:Wa,(Instr.makeSlice 27 (R K n) (R K n)).run ZP V=.ok (T (E ⟨V.heap.size,0,O⟩) n n) (V.alloc (i7 (List.replicate n (i6 M)).toArray 4)):=λV=>by obtain⟨i0,hi,j,H,y⟩:=Ve ahY;have h:=run_makeSlice (P:=ZP) (w:=V) 27 4 i0 (.bool M) underlying27 hi j .i64 .i64 (n:Int) (n:Int) om om (by rw[H];omega) (by rw[y];omega) om;rw[H,Aa,Hk]at h;exact h.trans (by rw[<-agf];rfl)
 have al:∀V:Wa,(Instr.makeSlice 22 (R K n) (R K n)).run ZP V=.ok (T (E ⟨V.heap.size,0,O⟩) n n) (V.alloc (i7 (List.replicate n (T O 0 0)).toArray 32)):=λV=>by obtain⟨i0,hi,j,H,y⟩:=Ve al9;have h:=run_makeSlice (P:=ZP) (w:=V) 22 32 i0 (.slice O 0 0) underlying22 hi j .i64 .i64 (n:Int) (n:Int) om om (by rw[H];omega) (by rw[y];omega) om;rw[H,Aa,Hk]at h;exact h.trans (by rw[<-agf];rfl)
 obtain⟨cs,a8⟩:∃cs:Array Vh,cs=madeCells #[Value.int .u8 0] size:=⟨_,rfl⟩;have a7:∀V:Wa,(Instr.makeSlice 32 (R K 0) (R K size)).run ZP V=.ok (T (E ⟨V.heap.size,0,O⟩) 0 size) (V.alloc (i7 cs 5)):=λV=>by obtain⟨i0,hi,j,H,y⟩:=Ve alz;have h:=run_makeSlice (P:=ZP) (w:=V) 32 5 i0 (.int .u8 0) underlying32 hi j .i64 .i64 0 (size:Int) om om (by rw[H];omega) (by rw[y];omega) om;rw[H,Aa,Hk]at h;rw[a8];exact h
 have ac:cs.size=size:=by rw[a8,size_madeCells]
 have d0:decide ((n:Int)<1)=M:=by simp;omega
 have d1:decide ((n:Int) > 16)=M:=by simp;omega
 have aL:decide ((16:Int)<(n:Int))=M:=by simp;omega
 have d2:decide (n<1)=M:=by simp;omega
 have d3:decide (16<n)=M:=by simp;omega
 have d4:decide (n=0)=M:=by simp;omega
 have f0:decide ((size:Int)<1)=M:=by simp;omega
 have f1:decide ((size:Int) > 288)=M:=by simp;omega
 have aK:decide ((288:Int)<(size:Int))=M:=by simp;omega
 have f2:decide (size<1)=M:=by simp;omega
 have f3:decide (288<size)=M:=by simp;omega
 have f4:decide (size=0)=M:=by simp;omega
 have a6:=AA (Lq h1 (Lq h2 (Lq h3 h4)));have aA:=AA (Lq a8 ac);have ao:=AA a7;clear h1 h2 h3 h4 a8 ac a7;go_enter func96,ntmps96;go_upto_region 3 with fail
 go_region
 focus
  obtain⟨W,hW⟩:∃W,W=((w.alloc (i7 (Array.replicate n (i6 M)) 4)).alloc (i7 (Array.replicate n (T O 0 0)) 32)).alloc (i7 #[T O 0 0,R K (size:Int),T (E ⟨w.heap.size,0,O⟩) n n,T (E ⟨w.heap.size+1,0,O⟩) n n] 210):=⟨_,rfl⟩;have hO:Bx w.heap.size [i7 (Array.replicate n (i6 M)) 4,i7 (Array.replicate n (T O 0 0)) 32,i7 #[T O 0 0,R K (size:Int),T (E ⟨w.heap.size,0,O⟩) n n,T (E ⟨w.heap.size+1,0,O⟩) n n] 210] W:=by rw[hW];exact(((Bx.nil _ w).snoc _ rfl).snoc _ sm).snoc _ sm
  have J:Bt w W:=by rw[hW];exact((AL _ _).alloc sm _).alloc (by simp;omega) _
  have C:=hO 0 _ rfl;have a2:=hO 1 _ rfl;have a1:=hO 2 _ rfl;rw[DQ]at C;rw[<-List.toArray_replicate]at C a2;have HS:Hid (∃Z N X,BB (λk=>w.heap.size<=k) Z (w.heap.size+1+1) (w.heap.size) (w.heap.size+1) N X size (frN n 0) (List.replicate n M) (List.replicate n []) W):=⟨_,_,_,BB.new (by assumption) (by assumption) a1 om om om om om om⟩;obtain⟨B,hB⟩:∃B,B=w.heap.size+1+1:=⟨_,rfl⟩;obtain⟨D,hD⟩:∃D,D=w.heap.size+1:=⟨_,rfl⟩;obtain⟨U,hU⟩:∃U,U=w.heap.size:=⟨_,rfl⟩;rw[<-hB,<-hD]at HS;have A:Hid (∃Z N X,BB (λk=>w.heap.size<=k) Z B U D N X size (frN n 0) (List.replicate n M) (List.replicate n []) W):=by rw[hU];exact HS
  have I:=AA J;rw[<-hW,<-hB,<-hD,<-hU]
  replace A:Hid (∃Z N X,BB (λk=>w.heap.size<=k) Z B U D N X size (frN n 0) (List.replicate n M) (List.replicate n []) W.drew):=by obtain⟨Z,N,X,h⟩:=A.out;exact⟨Z,N,X,h.keep (Y:=λ_=>False) (.of_same (AN W 1)) λ_ _ _ h=>h⟩
  replace I:Hid (Bt w W.drew):=I.out.trans ((AN W 1).mono I.out.size)
  clear hW hB hD hU J hO C a2 a1 HS ak al
 rotate_left
 focus
  obtain⟨W,hW⟩:∃W,W=((w.alloc (i7 (Array.replicate n (T O 0 0)) 32)).alloc (i7 (Array.replicate n (i6 M)) 4)).alloc (i7 #[T O 0 0,R K (size:Int),T (E ⟨w.heap.size+1,0,O⟩) n n,T (E ⟨w.heap.size,0,O⟩) n n] 210):=⟨_,rfl⟩;have hO:Bx w.heap.size [i7 (Array.replicate n (T O 0 0)) 32,i7 (Array.replicate n (i6 M)) 4,i7 #[T O 0 0,R K (size:Int),T (E ⟨w.heap.size+1,0,O⟩) n n,T (E ⟨w.heap.size,0,O⟩) n n] 210] W:=by rw[hW];exact(((Bx.nil _ w).snoc _ rfl).snoc _ sm).snoc _ sm
  have J:Bt w W:=by rw[hW];exact((AL _ _).alloc sm _).alloc (by simp;omega) _
  have C:=hO 0 _ rfl;have a2:=hO 1 _ rfl;have a1:=hO 2 _ rfl;rw[DQ]at C;rw[<-List.toArray_replicate]at C a2;have HS:Hid (∃Z N X,BB (λk=>w.heap.size<=k) Z (w.heap.size+1+1) (w.heap.size+1) (w.heap.size) N X size (frN n 0) (List.replicate n M) (List.replicate n []) W):=⟨_,_,_,BB.new (by assumption) (by assumption) a1 om om om om om om⟩;obtain⟨B,hB⟩:∃B,B=w.heap.size+1+1:=⟨_,rfl⟩;obtain⟨U,hD⟩:∃D,D=w.heap.size+1:=⟨_,rfl⟩;obtain⟨D,hU⟩:∃U,U=w.heap.size:=⟨_,rfl⟩;rw[<-hB,<-hD]at HS;have A:Hid (∃Z N X,BB (λk=>w.heap.size<=k) Z B U D N X size (frN n 0) (List.replicate n M) (List.replicate n []) W):=by rw[hU];exact HS
  have I:=AA J;rw[<-hW,<-hB,<-hD,<-hU]
  replace A:Hid (∃Z N X,BB (λk=>w.heap.size<=k) Z B U D N X size (frN n 0) (List.replicate n M) (List.replicate n []) W.drew):=by obtain⟨Z,N,X,h⟩:=A.out;exact⟨Z,N,X,h.keep (Y:=λ_=>False) (.of_same (AN W 1)) λ_ _ _ h=>h⟩
  replace I:Hid (Bt w W.drew):=I.out.trans ((AN W 1).mono I.out.size)
  clear hW hB hD hU J hO C a2 a1 HS ak al
 all_goals
  go_upto_region 5 with fail
  go_loopw[30] (λap wr=>∃(i:Nat),i<=n/\ap=R K i/\Hid (∃Z N X,BB (λk=>w.heap.size<=k) Z B U D N X size (frN n i) (List.replicate n M) (List.replicate n []) wr)/\Hid (Bt w wr)) (λs _=>n-(intOf s).toNat)
  case atStart=>exact⟨0,AR _,rfl,A,I⟩
  case round=>
   clear A I;obtain⟨i,aI,rfl,hS,J⟩:=hrel
   by_cases ae:i<n
   ·have hd:decide ((i:Int)<n)=G:=by simp;omega
    obtain⟨Z,N,X,hs⟩:=hS.out;have aa:=hs.box;rw[CS]at aa;have c3:wr.cell? ⟨B,3,O⟩=E (T (E ⟨D,0,O⟩) n n):=by simp[cell?,aa]
    have ad:=hs.keep (Y:=λ_=>False) (.of_same (AN wr 1)) λ_ _ _ h=>h;have ab:=J.out.trans ((AN wr 1).mono J.out.size);obtain⟨Y,hY⟩:∃Y,Y=wr.drew:=⟨_,rfl⟩;have aq:wr.drewN 1=Y:=hY.symm;rw[aq]at ad ab;obtain⟨aB,ay,q1,q2,q3,u,q4⟩:=ad.room ae aA.out.2 (by have:=a6.out;omega);have a7:=ao.out;obtain⟨V,hV⟩:∃V,V=(Y.alloc (i7 cs 5)).setCell ⟨D,i,O⟩ (T (E ⟨Y.heap.size,0,O⟩) 0 size):=⟨_,rfl⟩;rw[<-hV]at q1 q2;rw[hY]at q3 q4;have aC:=hs.inX.2.2;have av:=(AD.1 hs.data).1;have af:wr.heap[D]?=E (i7 X.toArray 32 (0,0)):=hs.data;have j1:wr.frozen? ⟨D,i,O⟩=M:=by simp[frozen?,af]
    have ar:i<lc X:=by have:=hs.dl;simp at this;omega
    have j2:wr.cell? ⟨D,i,O⟩=E X[i]:=by simp[cell?,af,ar]
    have ax:=(AD.1 aa).1;have aw:(wr.alloc (i7 cs 5)).cell? ⟨B,3,O⟩=E (T (E ⟨D,0,O⟩) n n):=((AL wr (i7 cs 5)).cell (p:=⟨B,3,O⟩) ax).trans c3;clear hs aa af;go_upto_region 7 with fail
    go_region
    have am:((wr.setCell ⟨D,i,O⟩ (T (E ⟨wr.heap.size,0,O⟩) 0 size)).alloc (i7 cs 5)).drew=V:=by
     rw[hV,World.setCell_alloc_past _ _ _ _ (show D<Y.heap.size by rw[hY];exact av),hY]
     rfl
    rw[am];clear am hV q3 q4 j1 j2 c3 aw a7 ao;have HP:=abn ((n:Int)-1-i) V q1 (by have:=ao3 n i;have:=a6.out;omega);have az:Hid (Calls ZP 138 #[L (E ⟨B,0,O⟩),R K ((n:Int)-1-i)] V λe w'=>(∃v,e=ra v)/\(∃Z N X,BB (λk=>w.heap.size<=k) Z B U D N X size (frN n (i+1)) (List.replicate n M) (List.replicate n []) w')/\Bt w w'):=HP.mono λe w' ⟨h1,⟨fv',ag,h2⟩,h3⟩=>by
     have au:w.heap.size<=Y.heap.size:=ab.size;have aJ:Y.heap.size<=V.heap.size:=q2.size;refine⟨h1,⟨ag,fv',ay,?_⟩,?_⟩
     ·rw[al4 ae];exact h2.wide λk _ hk=>by rcases hk with(h|h)|h<;>omega
     ·exact ab.trans ((q2.trans h3 λk _ hk=>hk.elim id λh=>by omega).below au λk aH aG=>by omega)
    clear HP q1 q2 ad ab;have i1:(0:Int)<=(i:Int):=by omega
    have i2:(i:Int)<(n:Int):=by omega
    have aF:IntKind.i64.wrap ((n:Int)-1)=(n:Int)-1:=by have:=a6.out;rw[BK];omega
    have aE:IntKind.i64.wrap ((n:Int)-1-i)=(n:Int)-1-i:=by have:=a6.out;rw[BK];omega
    have aj:=a6.out.2.1;have aD:IntKind.i64.wrap ((i:Int)+1)=((i+1:Nat):Int):=by rw[BK];omega
    have ai:wrap64 ((i:Int)+1)=((i+1:Nat):Int):=apt aj ae
    go_wp2_with (go_at_call 138;refine az.out.mono ?_;rintro e w3 ⟨⟨v,rfl⟩,h2,h3⟩;have H2:=AA h2;have H3:=AA h3;clear h2 h3)
    go_roundw
    case rel=>exact⟨i+1,by omega,by first|rfl|(go_num;done)|simp[ai],H2,H3⟩
    case measure=>(try simp only[ai]);simp[intOf];omega
   ·obtain rfl:i=n:=by omega
    have hd:decide ((i:Int)<i)=M:=by simp
    go_wp2;go_ret2;obtain⟨Z,N,X,hs⟩:=hS.out;rw[ao7]at hs;exact⟨B,U,D,rfl,⟨Z,N,X,hs⟩,J.out⟩
section
theorem NA{Z:Wa}{es:Array MapEntry}{Y n:Nat}{k:Int}{x:Vh}(V:n=Z.heap.size)(U:Instr.findNow (.int .u8) (.int .u8 k) es.toList 0=E O) :Sem.run ZP (Instr.mapUpdate 239 (.map (E n)) (.int .u8 k) x) (Z.alloc (.map es Y))=.ok () (Z.alloc (.map (es.push ⟨.int .u8 k,x,Y⟩) (Y+1))):=by
 subst V;have X:(Z.alloc (.map es Y)).heap[Z.heap.size]?=E (.map es Y):=(Bx.nil _ Z).snoc (.map es Y) rfl 0 _ rfl;simp[Instr.mapUpdate,run_underlying underlying239,MapKept.run_getObj_map X,MapKept.run_checkKey (k:=.int .u8 k) underlying5 (by simp[MapKept.IsKey]),MapKept.run_findKey underlying5 U,MapKept.run_setObj_map _ X,Result.andThen];unfold World.alloc;congr 1
 apply Array.ext_getElem?
 intro j;simp only[Array.getElem?_setIfInBounds,Array.getElem?_push,Array.size_push]
 by_cases hk:Z.heap.size=j
 ·subst hk;simp
 ·have:j≠Z.heap.size:=λe=>hk e.symm;simp[hk,this]
theorem ale(Z:Wa)(n:Nat)(x:Vh)(Y:n=Z.heap.size):Sem.run ZP (Instr.mapUpdate 239 (.map (E n)) (.int .u8 1) x) (Z.alloc (.map #[] 0))=.ok () (Z.alloc (.map #[⟨.int .u8 1,x,0⟩] 1)):=NA Y rfl
theorem amh(Z:Wa)(n:Nat)(x y:Vh)(Y:n=Z.heap.size):Sem.run ZP (Instr.mapUpdate 239 (.map (E n)) (.int .u8 2) x) (Z.alloc (.map #[⟨.int .u8 1,y,0⟩] 1))=.ok () (Z.alloc (.map #[⟨.int .u8 1,y,0⟩,⟨.int .u8 2,x,1⟩] 2)):=NA Y kr
theorem amx(Z:Wa)(n:Nat)(x y z:Vh)(Y:n=Z.heap.size):Sem.run ZP (Instr.mapUpdate 239 (.map (E n)) (.int .u8 3) x) (Z.alloc (.map #[⟨.int .u8 1,y,0⟩,⟨.int .u8 2,z,1⟩] 2))=.ok () (Z.alloc (.map #[⟨.int .u8 1,y,0⟩,⟨.int .u8 2,z,1⟩,⟨.int .u8 3,x,2⟩] 3)):=NA Y kr
theorem alP(Z:Wa)(n:Nat)(x y z u:Vh)(Y:n=Z.heap.size):Sem.run ZP (Instr.mapUpdate 239 (.map (E n)) (.int .u8 4) x) (Z.alloc (.map #[⟨.int .u8 1,y,0⟩,⟨.int .u8 2,z,1⟩,⟨.int .u8 3,u,2⟩] 3))=.ok () (Z.alloc (.map #[⟨.int .u8 1,y,0⟩,⟨.int .u8 2,z,1⟩,⟨.int .u8 3,u,2⟩,⟨.int .u8 4,x,3⟩] 4)):=NA Y kr
theorem ahg(w:Wa):Sem.run ZP (Instr.makeMap 239 O) w=.ok (.map (E w.heap.size)) (w.alloc (.map #[] 0)):=rfl
attribute[local go_sem] IW aa0 ahg ale amh amx alP
def MkT(ty:TypeId)(f:Nat->Nat->Option Vh)(cs:Nat->Nat->Array Vh)(w:Wa)(e:Ending)(w':Wa):Prop:=
 e=ra (L (E ⟨w.heap.size,0,O⟩))/\w'.heap[w.heap.size]?=E (i7 (cs w.heap.size (w.heap.size+1)) ty (0,0))/\ES w' (w.heap.size+1) (f w.heap.size)/\w'.heap.size=w.heap.size+2/\Bt w w'
theorem MkT.mk{ty:TypeId}{f:Nat->Nat->Option Vh}{cs:Nat->Nat->Array Vh}{w:Wa}{e:Ending}{es:Array MapEntry}{Z:Nat}(V:e=ra (L (E ⟨w.heap.size,0,O⟩)))(X:∀k v,f w.heap.size k=E v->∃i,Instr.findNow (.int .u8) (.int .u8 (k:Int)) es.toList 0=E (E (i,v))) :MkT ty f cs w e ((w.alloc (i7 (cs w.heap.size (w.heap.size+1)) ty)).alloc (.map es Z)):=by have Y:Bx w.heap.size [i7 (cs w.heap.size (w.heap.size+1)) ty,.map es Z] ((w.alloc (i7 (cs w.heap.size (w.heap.size+1)) ty)).alloc (.map es Z)):=((Bx.nil _ w).snoc _ rfl).snoc _ sm;have h0:=Y 0 _ rfl;rw[DQ]at h0;exact⟨V,h0,⟨es,Z,Y 1 _ rfl,X⟩,by simp,(AL _ _).alloc sm _⟩
def csE(P Eo m:Nat):Array Vh:=#[L (E ⟨P,0,O⟩),.int .u8 1,.int .u8 2,.map (E m),mvP 158 Eo,mvP 160 Eo]
def csM(P My m:Nat):Array Vh:=#[L (E ⟨P,0,O⟩),.int .u8 1,.int .u8 3,.map (E m),He,mvP 157 My,T O 0 0]
def csW(P W m:Nat):Array Vh:=#[L (E ⟨P,0,O⟩),.int .u8 1,.int .u8 4,.map (E m),mvP 151 W,mvP 152 W,R K 0,R K 0,R K 0,T O 0 0,R K 0,R K 0,R K 0,T O 0 0]
def csR(P Ra m:Nat):Array Vh:=#[L (E ⟨P,0,O⟩),.int .u8 1,.int .u8 5,.map (E m),He,mvP 146 Ra,i6 M,R K 0,R K 0,R K 0,R K 0,T O 0 0,i6 M]
def Ia:PAd:=⟨0,0,0,0,0,0,0,0,0,0,0,0,0,0,0,0,λ_=>0,0,0,0,λ_=>0,0,0,0,default⟩
theorem alb(P:Nat)(w:Wa):Calls ZP 103 #[L (E ⟨P,0,O⟩)] w (MkT 253 (λX=>stE {Ia with E:=X}) (λX m=>csE P X m) w):=by
 go_enter func103,ntmps103;go_wp2;go_ret;refine MkT.mk (cs:=λX m=>csE P X m) rfl (λk v hk=>?_)
 match k,hk with
 |1,hk=>exact⟨0,by cases AK hk;kernel_rfl⟩
 |0,hk=>cases hk
 |k+2,hk=>cases hk
theorem alo(P:Nat)(w:Wa):Calls ZP 102 #[L (E ⟨P,0,O⟩)] w (MkT 251 (λX=>stM {Ia with M:=X}) (λX m=>csM P X m) w):=by
 go_enter func102,ntmps102;go_wp2;go_ret;refine MkT.mk (cs:=λX m=>csM P X m) rfl (λk v hk=>?_)
 match k,hk with
 |1,hk=>exact⟨0,by cases AK hk;kernel_rfl⟩
 |2,hk=>exact⟨1,by cases AK hk;kernel_rfl⟩
 |0,hk=>cases hk
 |k+3,hk=>cases hk
theorem als(P:Nat)(w:Wa):Calls ZP 101 #[L (E ⟨P,0,O⟩)] w (MkT 249 (λX=>stW {Ia with Wk:=λ_=>X} 0) (λX m=>csW P X m) w):=by
 go_enter func101,ntmps101;go_wp2;go_ret;refine MkT.mk (cs:=λX m=>csW P X m) rfl (λk v hk=>?_)
 match k,hk with
 |1,hk=>exact⟨0,by cases AK hk;kernel_rfl⟩
 |2,hk=>exact⟨1,by cases AK hk;kernel_rfl⟩
 |3,hk=>exact⟨2,by cases AK hk;kernel_rfl⟩
 |0,hk=>cases hk
 |k+4,hk=>cases hk
theorem aiF(P:Nat)(w:Wa):Calls ZP 100 #[L (E ⟨P,0,O⟩)] w (MkT 245 (λX=>stR {Ia with R:=X}) (λX m=>csR P X m) w):=by
 go_enter func100,ntmps100;go_wp2;go_ret;refine MkT.mk (cs:=λX m=>csR P X m) rfl (λk v hk=>?_)
 match k,hk with
 |1,hk=>exact⟨0,by cases AK hk;kernel_rfl⟩
 |2,hk=>exact⟨1,by cases AK hk;kernel_rfl⟩
 |3,hk=>exact⟨2,by cases AK hk;kernel_rfl⟩
 |4,hk=>exact⟨3,by cases AK hk;kernel_rfl⟩
 |0,hk=>cases hk
 |k+5,hk=>cases hk
end
def npV(c:CfM)(m S Kk:Nat)(b q g o tv:Vh):Array Vh:=
 #[L (E ⟨m,0,O⟩),R K (c.W:Int),R K (c.K:Int),R K (c.R:Int),R K (c.Q:Int),R K (c.O:Int),R K (c.S:Int),R K (c.F:Int),R K (c.wm:Int),L (E ⟨S,0,O⟩),L (E ⟨Kk,0,O⟩),b,q,g,o,tv,R K 0,R K 0,T O 0 0,i6 M]
theorem Fk.below{q:Nat}{W V V':Wa}(h:Fk q W V)(Z:Bt V V'):Fk q W V':=⟨AS h.1 Z.size,λk h1 h2 h3=>(Z.block k (Af h2 h.1)).trans (h.2 k h1 h2 h3)⟩
def cfV(c:CfM):Array Vh:=#[R K (c.W:Int),R K (c.K:Int),R K (c.R:Int),R K (c.Q:Int),R K (c.O:Int),R K (c.S:Int),R K (c.F:Int)]
structure NpS(c:CfM)(m S Kk n0 P:Nat)(b q g o tv:Value)(V:World):Prop where
 box:V.heap[P]?=some (.cells (npV c m S Kk b q g o tv) 109 (0,0))
 conf:V.heap[n0]?=some (.cells (cfV c) 26 (0,0))
 lt:n0<P
section
variable {c:CfM}{m S Kk n0 P:Nat}{b q g o tv:Vh}{V V':Wa}
theorem NpS.keep(h:NpS c m S Kk n0 P b q g o tv V)(Z:Bt V V'):NpS c m S Kk n0 P b q g o tv V':=⟨(Z.block _ (AD.1 h.box).1).trans h.box,(Z.block _ (AD.1 h.conf).1).trans h.conf,h.lt⟩
theorem NpS.ce(h:NpS c m S Kk n0 P b q g o tv V)(i:Nat)(v:Vh)(e:(npV c m S Kk b q g o tv)[i]?=E v):V.cell? ⟨P,i,O⟩=E v:=by simp only[cell?,h.box];exact e
theorem NpS.fr(h:NpS c m S Kk n0 P b q g o tv V)(i:Nat):V.frozen? ⟨P,i,O⟩=M:=by simp[frozen?,h.box]
theorem NpS.cc(h:NpS c m S Kk n0 P b q g o tv V)(i:Nat)(v:Vh)(e:(cfV c)[i]?=E v):V.cell? ⟨n0,i,O⟩=E v:=by simp only[cell?,h.conf];exact e
theorem NpS.plt(h:NpS c m S Kk n0 P b q g o tv V):P<V.heap.size:=(AD.1 h.box).1
theorem NpS.set(h:NpS c m S Kk n0 P b q g o tv V)(i:Nat)(v:Vh){b' q' g' o' Z:Vh}(e:(npV c m S Kk b q g o tv).setIfInBounds i v=npV c m S Kk b' q' g' o' Z):NpS c m S Kk n0 P b' q' g' o' Z (V.setCell ⟨P,i,O⟩ v):=⟨by rw[<-e];exact AJ (i:=i) h.box v,(AQ V ⟨P,i,O⟩ v n0 (Nat.ne_of_lt h.lt)).trans h.conf,h.lt⟩
end
theorem ahM:(ZP.info? 100).map (λi=>(i.zero,i.size,i.bytes))=E (E .nilIface,1,16):=by kernel_rfl
structure Tk where
 ity:TypeId
 bty:TypeId
 a:Nat
 cs:Array Value
 f:Nat->Option Value
def ifV(t:Tk):Vh:=.iface t.ity (L (E ⟨t.a,0,O⟩))
def TkM(t:Tk)(V:Wa):Prop:=V.heap[t.a]?=E (i7 t.cs t.bty (0,0))/\ES V (t.a+1) t.f/\t.a+2<=V.heap.size
structure TkI(n5:Nat)(tv:Value)(tl:List Tk)(V:World):Prop where
 row:V.ownsRow n5 100 1 tv tl.length (tl.map ifV)
 el:∀(i:Nat)(t:Tk),tl[i]?=some t->TkM t V/\n5<=t.a/\tv.ownBlock≠some t.a/\tv.ownBlock≠some (t.a+1)
 dj:∀(i j:Nat)(t u:Tk),tl[i]?=some t->tl[j]?=some u->i<j->t.a+2<=u.a∨u.a+2<=t.a
section
variable {n5 P:Nat}{tv:Vh}{tl nw:List Tk}{t:Tk}{V D:Wa}{Y:Nat->Prop}
theorem TkM.keep(h:TkM t D)(Z:Chg Y D V)(h1:¬Y t.a)(h2:¬Y (t.a+1)):TkM t V:=⟨(Z.block _ (AD.1 h.1).1 h1).trans h.1,h.2.1.keep Z h2,AS h.2.2 Z.size⟩
theorem TkI.keep(h:TkI n5 tv tl D)(Z:Bt D V):TkI n5 tv tl V:=⟨DJ h.row Z,λi t X=>let⟨g1,g2⟩:=h.el i t X;⟨g1.keep (Y:=λ_=>False) (.of_same Z) id id,g2⟩,h.dj⟩
theorem TkI.nil(n5:Nat)(V:Wa):TkI n5 (T O 0 0) [] V:=⟨BN _ _ _ _,λi t Z=>by simp at Z,λi j t u Z=>by simp at Z⟩
theorem TkI.app{c:CfM}{m S Kk n0:Nat}{b q g o:Vh}(h:TkI n5 tv tl D)(hp:NpS c m S Kk n0 P b q g o tv D)(hP:P<n5)(au:n5<=D.heap.size)(hl:lc tl<=1000)(hk:lc nw<=1000)(hD:Bt D V)
  (hm:∀(i:Nat)(t:Tk),nw[i]?=E t->TkM t V/\D.heap.size<=t.a) (hj:∀(i j:Nat)(t u:Tk),nw[i]?=E t->nw[j]?=E u->i<j->t.a+2<=u.a∨u.a+2<=t.a) :
  ∃U c1 X,(Builtin.append_ #[103,103] 103 #[tv,.slice (E ⟨V.heap.size,0,O⟩) (lc nw) (lc nw)]).run ZP (V.alloc (i7 (nw.map ifV).toArray 100))=.ok (.slice U (lc tl+lc nw) c1) X/\
   NpS c m S Kk n0 P b q g o tv X/\NpS c m S Kk n0 P b q g o (T U (lc tl+lc nw) c1) (X.setCell ⟨P,15,O⟩ (T U (lc tl+lc nw) c1))/\
   TkI n5 (T U (lc tl+lc nw) c1) (tl++nw) (X.setCell ⟨P,15,O⟩ (T U (lc tl+lc nw) c1))/\
   Chg (λk=>k=P∨n5<=k) D (X.setCell ⟨P,15,O⟩ (T U (lc tl+lc nw) c1)):=by
 obtain⟨i0,hi,af,ae,ad⟩:=Ve ahM;obtain⟨A,hA⟩:∃A,A=V.alloc (i7 (nw.map ifV).toArray 100):=⟨_,rfl⟩;have B:Bt V A:=by rw[hA];exact AL _ _
 have ar:A.heap.size=V.heap.size+1:=by rw[hA];simp
 have ao:=hD.size;have ap:Bt D A:=hD.trans (B.mono ao);have hV:=h.keep hD;have a7:=hp.keep hD;have aw:=hp.plt;have ag:SlK 1 A (E ⟨V.heap.size,0,O⟩) (lc nw) (nw.map ifV):=by
  have hx:A.heap[V.heap.size]?=E (i7 (nw.map ifV).toArray 100 (0,0)):=by rw[hA];exact AT _ _
  refine⟨by simp,.inr ⟨_,0,rfl,by omega,λi u H=>?_⟩⟩;have e:A.cell? ⟨V.heap.size,0+i,O⟩=(nw.map ifV).toArray[0+i]?:=by simp only[cell?,hx];rfl
  rw[e,DD,Dy];exact H
 rw[<-hA];obtain⟨v1,X,hr,aa,C,ab⟩:=Gu (P:=ZP) A n5 103 103 100 i0 .nilIface 1 16 underlying103 hi af ae ad rfl (by decide) tv (lc tl) (tl.map ifV) (DJ hV.row B) (E ⟨V.heap.size,0,O⟩) (lc nw) (lc nw) (nw.map ifV) ag (λu H=>by obtain⟨x,_,rfl⟩:=Be.1 H;rfl) (by unfold maxLen;omega) om om;obtain⟨U,c1,rfl,_,_⟩:=SlK.own aa;have av:=C.size;have Z:∀g,tv.ownBlock=E g->n5<=g/\g<D.heap.size:=λg e=>Gw h.row g e;have I:∀k,k<V.heap.size->tv.ownBlock≠E k->X.heap[k]?=V.heap[k]?:=λk hk aj=>(C.block k om (λe=>aj e.symm)).trans (B.block k hk);have N:∀g,(Value.slice U (lc tl+lc nw) c1).ownBlock=E g->tv.ownBlock=E g∨g=A.heap.size:=λg e=>by
  rcases ab with e2|e2
  ·rw[e2]at e;exact .inl e
  ·rw[e2]at e;exact .inr (AK e).symm
 have y:tv.ownBlock≠E P:=λe=>by have:=Z P e;omega
 have a2:(T U (lc tl+lc nw) c1).ownBlock≠E P:=λe=>by
  rcases N P e with e2|e2
  ·exact y e2
  ·omega
 have a8:NpS c m S Kk n0 P b q g o tv X:=⟨(I P om y).trans a7.box,(I n0 (by have:=hp.lt;omega) (λe=>by have:=Z n0 e;have:=hp.lt;omega)).trans a7.conf,hp.lt⟩;have a6:∀k,k≠P->(X.setCell ⟨P,15,O⟩ (T U (lc tl+lc nw) c1)).heap[k]?=X.heap[k]?:=λk hk=>AQ X ⟨P,15,O⟩ _ k hk;obtain⟨W2,s⟩:∃W2,W2=X.setCell ⟨P,15,O⟩ (T U (lc tl+lc nw) c1):=⟨_,rfl⟩;have aq:X.heap.size<=W2.heap.size:=by rw[s];simp[World.setCell]
 have ac:Chg (λk=>k=P∨tv.ownBlock=E k) V W2:=by rw[s];exact((Chg.of_same B).grown C λg e _=>.inr e).set (.inl rfl)
 refine⟨U,c1,X,hr,a8,a8.set 15 _ rfl,⟨?_,λi t J=>?_,λi j t u J H al=>?_⟩,?_⟩
 ·rw[List.length_append,Aj];exact Fu aa λg am=>a6 g λe=>a2 (by rw[<-e];exact am)
 ·rw[<-s]
  by_cases v:i<lc tl
  ·rw[By v]at J;obtain⟨g1,g2,g3,g4⟩:=hV.el i t J;have ai:=(h.el i t J).1.2.2;refine⟨g1.keep ac (λe=>e.elim (λe=>by omega) g3) (λe=>e.elim (λe=>by omega) g4),g2,λe=>?_,λe=>?_⟩
   ·exact(N _ e).elim g3 λe=>by omega
   ·exact(N _ e).elim g4 λe=>by omega
  ·rw[DY om]at J;obtain⟨g1,g2⟩:=hm _ t J;have ai:=g1.2.2;have n1:tv.ownBlock≠E t.a:=λe=>by have:=Z _ e;omega
   have n2:tv.ownBlock≠E (t.a+1):=λe=>by have:=Z _ e;omega
   refine⟨g1.keep ac (λe=>e.elim (λe=>by omega) n1) (λe=>e.elim (λe=>by omega) n2),by omega,λe=>?_,λe=>?_⟩
   ·exact(N _ e).elim n1 λe=>by omega
   ·exact(N _ e).elim n2 λe=>by omega
 ·by_cases v:i<lc tl
  ·rw[By v]at J
   by_cases ak:j<lc tl
   ·rw[By ak]at H;exact h.dj i j t u J H al
   ·rw[DY om]at H;have h1:=(h.el i t J).1.2.2;have h2:=(hm _ u H).2;omega
  ·rw[DY om]at J H;exact hj _ _ t u J H om
 ·exact((Chg.of_same ap).grown C λg e _=>.inr (Z g e).1).set (.inl rfl)
end
def Mn(P a:Nat):Tk:=⟨175,245,a,csR P a (a+1),stR {Ia with R:=a}⟩
def Mm(P a:Nat):Tk:=⟨177,249,a,csW P a (a+1),stW {Ia with Wk:=λ_=>a} 0⟩
def JD(P a:Nat):Tk:=⟨179,251,a,csM P a (a+1),stM {Ia with M:=a}⟩
def IQ(P a:Nat):Tk:=⟨181,253,a,csE P a (a+1),stE {Ia with E:=a}⟩
def CY(W P j a:Nat):Tk:=if j=0 then Mn P a else if j<=W then Mm P a else if j=W+1 then JD P a else IQ P a
def Fj(W P:Nat)(tl:List Tk):Prop:=∀(j:Nat)(t:Tk),tl[j]?=E t->t=CY W P j t.a
theorem Fj.snoc{W P:Nat}{tl:List Tk}{t:Tk}(h:Fj W P tl)(X:t=CY W P (lc tl) t.a):Fj W P (tl++[t]):=λj u Z=>by
 by_cases U:j<lc tl
 ·rw[By U]at Z;exact h j u Z
 ·obtain rfl:j=lc tl:=by
   have:=(AP.1 Z).1;simp at this;omega
  rw[DY (AC _),FG]at Z
  cases AK Z
  exact X
theorem MkT.tkm{ty:TypeId}{f:Nat->Nat->Option Vh}{cs:Nat->Nat->Array Vh}{w V:Wa}{e:Ending}{t:Tk}(h:MkT ty f cs w e V)(h1:t.a=w.heap.size)(h2:t.cs=cs t.a (t.a+1))(h3:t.bty=ty)(h4:t.f=f t.a):TkM t V/\w.heap.size<=t.a:=by
 obtain⟨_,X,Z,U,_⟩:=h;refine⟨⟨?_,?_,by omega⟩,by omega⟩
 ·rw[h2,h3,h1];exact X
 ·rw[h4,h1];exact Z
theorem TkI.one{n5 P W:Nat}{tv:Vh}{tl:List Tk}{t:Tk}{D V:Wa}{c:CfM}{m S Kk n0:Nat}{b q g o:Vh}(h:TkI n5 tv tl D)(C:NpS c m S Kk n0 P b q g o tv D)(s:P<n5)(N:n5<=D.heap.size)(A:lc tl<=1000)(e:Bt D V)
  (B:TkM t V/\D.heap.size<=t.a) (H:Fj W P tl) (I:t=CY W P (lc tl) t.a) :
  ∃Z n c1 X,(Builtin.append_ #[103,103] 103 #[tv,.slice (E ⟨V.heap.size,0,O⟩) 1 1]).run ZP (V.alloc (i7 #[ifV t] 100))=.ok (.slice Z n c1) X/\
   NpS c m S Kk n0 P b q g o tv X/\NpS c m S Kk n0 P b q g o (T Z n c1) (X.setCell ⟨P,15,O⟩ (T Z n c1))/\
   TkI n5 (T Z n c1) (tl++[t]) (X.setCell ⟨P,15,O⟩ (T Z n c1))/\Fj W P (tl++[t])/\
   Chg (λk=>k=P∨n5<=k) D (X.setCell ⟨P,15,O⟩ (T Z n c1)):=by
 obtain⟨Z,c1,X,g1,g2,g3,g4,g5⟩:=h.app (nw:=[t]) C s N A sm e (λi u U=>by
  obtain rfl:i=0:=by have:=(AP.1 U).1;simp at this;omega
  cases AK U;exact B) (λi j u v U J y=>by
  have:=(AP.1 J).1;simp at this;omega)
 exact⟨Z,_,c1,X,g1,g2,g3,g4,H.snoc I,g5⟩
structure Im(c:CfM)(P n1 n2 n3 n4 n5 Bb Bu Bd Q QB G GB O OB:Nat)(V:World):Prop where
 buf:DM (λk=>n1<=k/\k<n2) Bb Bu Bd (c.K+c.wm) ((List.range c.R).reverse.map λx:Nat=>(x:Int)) (List.replicate c.R false) (List.replicate c.R []) V
 que:Ab (λk=>n2<=k/\k<n3) Q QB 0 0 false (List.replicate c.Q ⟨0,0,0,none,0,0,0⟩) V
 rng:BZ (λk=>n3<=k/\k<n4) G GB 0 (List.replicate c.R ((none,0,0),false)) V
 out:AY (λk=>n4<=k/\k<n5) O OB 0 0 false (List.replicate c.O (0,0)) V
 lt:P<n1/\n1<=n2/\n2<=n3/\n3<=n4/\n4<=n5/\n5<=V.heap.size
theorem DM.keep6{X Y:Nat->Prop}{B U D size:Nat}{fr:List Int}{us:List Bool}{ds:La}{w w':Wa}(h:DM X B U D size fr us ds w)(N:Chg Y w w')(Z:∀k,k<w.heap.size->X k->¬Y k):DM X B U D size fr us ds w':=let⟨a,b,d,g⟩:=h;⟨a,b,d,g.keep N Z⟩
theorem DM.wide6{X Y:Nat->Prop}{B U D size:Nat}{fr:List Int}{us:List Bool}{ds:La}{w:Wa}(h:DM X B U D size fr us ds w)(Z:∀k,k<w.heap.size->X k->Y k):DM Y B U D size fr us ds w:=let⟨a,b,d,g⟩:=h;⟨a,b,d,g.wide Z⟩
section
variable {c:CfM}{P n1 n2 n3 n4 n5 Bb Bu Bd Q QB Gd GB Ob OB:Nat}{V V' w6 w7 w8 w9 W6 W7 W8 W9:Wa}
theorem Im.keep(h:Im c P n1 n2 n3 n4 n5 Bb Bu Bd Q QB Gd GB Ob OB V)(Z:Chg (λk=>k=P∨n5<=k) V V'):Im c P n1 n2 n3 n4 n5 Bb Bu Bd Q QB Gd GB Ob OB V':=by have Y:=h.lt;exact⟨h.buf.keep6 Z λk _ h1 h2=>by omega,h.que.keep Z λk _ h1 h2=>by omega,h.rng.keep Z λk _ h1 h2=>by omega,h.out.keep Z λk _ h1 h2=>by omega,by have:=Z.size;omega⟩
theorem Im.mk2(X:DM (λk=>n1<=k) Bb Bu Bd (c.K+c.wm) ((List.range c.R).reverse.map λx:Nat=>(x:Int)) (List.replicate c.R M) (List.replicate c.R []) w6)(h1:P<n1)(h2:n1<=w6.heap.size)(D:Chg (λk=>k=P) w6 W6)(A:Bt W6 w7)
  (p7:Ab (λk=>W6.heap.size<=k) Q QB 0 0 M (List.replicate c.Q ⟨0,0,0,O,0,0,0⟩) w7) (J:Chg (λk=>k=P) w7 W7) (B:Bt W7 w8) (e:BZ (λk=>W7.heap.size<=k) Gd GB 0 (List.replicate c.R ((O,0,0),M)) w8) (N:Chg (λk=>k=P) w8 W8)
  (C:Bt W8 w9) (j:AY (λk=>W8.heap.size<=k) Ob OB 0 0 M (List.replicate c.O (0,0)) w9) (U:Chg (λk=>k=P) w9 W9):Im c P n1 W6.heap.size W7.heap.size W8.heap.size W9.heap.size Bb Bu Bd Q QB Gd GB Ob OB W9:=by
 have z6:=D.size;have z7:=A.size;have s:=J.size;have z8:=B.size;have v:=N.size;have z9:=C.size;have y:=U.size;have I:Chg (λk=>k=P) W8 W9:=(Chg.of_same C).then U;have H:Chg (λk=>k=P) W7 W9:=((Chg.of_same B).then N).then I;have d7:Chg (λk=>k=P) W6 W9:=((Chg.of_same A).then J).then H;refine⟨?_,?_,?_,?_,by omega⟩
 ·exact(X.wide6 (Y:=λk=>n1<=k/\k<W6.heap.size) λk hk Z=>(⟨Z,by omega⟩:n1<=k/\k<W6.heap.size)).keep6 (D.then d7) λk _ h3 h4=>by omega
 ·exact(p7.wide (Y:=λk=>W6.heap.size<=k/\k<W7.heap.size) λk hk Z=>(⟨Z,by omega⟩:W6.heap.size<=k/\k<W7.heap.size)).keep (J.then H) λk _ h3 h4=>by omega
 ·exact(e.wide (Y:=λk=>W7.heap.size<=k/\k<W8.heap.size) λk hk Z=>(⟨Z,by omega⟩:W7.heap.size<=k/\k<W8.heap.size)).keep (N.then I) λk _ h3 h4=>by omega
 ·exact(j.wide (Y:=λk=>W8.heap.size<=k/\k<W9.heap.size) λk hk Z=>(⟨Z,by omega⟩:W8.heap.size<=k/\k<W9.heap.size)).keep U λk _ h3 h4=>by omega
end
theorem TkM.below{t:Tk}{D V:Wa}(h:TkM t D)(Z:Bt D V):TkM t V:=h.keep (Y:=λ_=>False) (.of_same Z) id id
theorem TkI.two{n5 P W:Nat}{X:Vh}{tl:List Tk}{t u:Tk}{D V:Wa}{c:CfM}{m S Kk U:Nat}{b q g o:Vh}(h:TkI n5 X tl D)(e:NpS c m S Kk U P b q g o X D)(hP:P<n5)(I:n5<=D.heap.size)(hl:lc tl<=1000)(hD:Bt D V)
  (hm:TkM t V/\D.heap.size<=t.a) (B:TkM u V/\D.heap.size<=u.a) (hd:t.a+2<=u.a∨u.a+2<=t.a) (s:Fj W P tl) (A:t=CY W P (lc tl) t.a) (J:u=CY W P (lc tl+1) u.a) :
  ∃Z n c1 Y,(Builtin.append_ #[103,103] 103 #[X,.slice (E ⟨V.heap.size,0,O⟩) 2 2]).run ZP (V.alloc (i7 #[ifV t,ifV u] 100))=.ok (.slice Z n c1) Y/\
   NpS c m S Kk U P b q g o X Y/\NpS c m S Kk U P b q g o (T Z n c1) (Y.setCell ⟨P,15,O⟩ (T Z n c1))/\
   TkI n5 (T Z n c1) ((tl++[t])++[u]) (Y.setCell ⟨P,15,O⟩ (T Z n c1))/\Fj W P ((tl++[t])++[u])/\
   Chg (λk=>k=P∨n5<=k) D (Y.setCell ⟨P,15,O⟩ (T Z n c1)):=by
 obtain⟨Z,c1,Y,g1,g2,g3,g4,g5⟩:=h.app (nw:=[t,u]) e hP I hl sm hD (λi v N=>by
  have:=(AP.1 N).1;simp at this
  rcases(show i=0∨i=1 by omega)with rfl|rfl
  ·cases AK N;exact hm
  ·cases AK N;exact B) (λi j x y C H a2=>by
  have:=(AP.1 H).1;simp at this;obtain rfl:i=0:=by omega
  obtain rfl:j=1:=by omega
  cases AK C
  cases AK H
  exact hd)
 refine⟨Z,_,c1,Y,g1,g2,g3,?_,(s.snoc A).snoc (by rw[List.length_append];exact J),g5⟩;rw[CE];exact g4
structure GO(c:CfM)(m S Kk:Nat)(w:World)(P n0 n1 n2 n3 n4 n5 Bb Bu Bd Q QB G GB O OB:Nat)(tv:Value)(tl:List Tk)(V:World):Prop where
 np:NpS c m S Kk n0 P (L (some ⟨Bb,0,none⟩)) (L (some ⟨Q,0,none⟩)) (L (some ⟨G,0,none⟩)) (L (some ⟨O,0,none⟩)) tv V
 ti:TkI n5 tv tl V
 sh:Fj c.W P tl
 len:tl.length=c.W+3
 grp:Im c P n1 n2 n3 n4 n5 Bb Bu Bd Q QB G GB O OB V
 lo:w.heap.size<=n0
 below:Bt w V
theorem aoY:∀m:Nat,m<=16->madeCells (Value.agg #[R K 0,R K 0]).cells (m*2)=(CJ (List.replicate m (0,0))).toArray
 |0,_=>by kernel_rfl
 |1,_=>by kernel_rfl
 |2,_=>by kernel_rfl
 |3,_=>by kernel_rfl
 |4,_=>by kernel_rfl
 |5,_=>by kernel_rfl
 |6,_=>by kernel_rfl
 |7,_=>by kernel_rfl
 |8,_=>by kernel_rfl
 |9,_=>by kernel_rfl
 |10,_=>by kernel_rfl
 |11,_=>by kernel_rfl
 |12,_=>by kernel_rfl
 |13,_=>by kernel_rfl
 |14,_=>by kernel_rfl
 |15,_=>by kernel_rfl
 |16,_=>by kernel_rfl
 |m+17,h=>absurd h om
theorem anb:∃i,ZP.info? 116=E i/\i.zero=E (i8 #[R K 0,R K 0])/\i.size=2/\i.bytes<=100:=by
 have h:((ZP.info? 116).map λi=>(i.zero,i.size,decide (i.bytes<=100)))=E (E (i8 #[R K 0,R K 0]),2,G):=by kernel_rfl
 cases e:ZP.info? 116 with
 |none=>rw[e]at h;cases h
 |some i=>
  rw[e]at h;have h:=AK h
  injection h with h1 h2
  injection h2 with h2 h3
  exact⟨i,rfl,h1,h2,Lj h3⟩
theorem alW(m:Nat)(w:Wa)(h1:1<=m)(h2:m<=16) :Calls ZP 99 #[R K (m:Int)] w λe w'=>∃Q B,e=ra (ta #[L (E ⟨Q,0,O⟩),R K 0])/\AY (λk=>w.heap.size<=k) Q B 0 0 M (List.replicate m (0,0)) w'/\Bt w w':=by
 have a2:∀V:Wa,(Instr.makeSlice 69 (R K m) (R K m)).run ZP V=.ok (T (E ⟨V.heap.size,0,O⟩) m m) (V.alloc (i7 (CJ (List.replicate m (0,0))).toArray 116)):=λV=>by
  obtain⟨H,hi,C,N,D⟩:=anb;have a6:H.bytes*m<=100*16:=GR D h2;have s:(H.bytes:Int)*(m:Int)<=281474976710656:=by rw[<-Iy];omega
  have h:=run_makeSlice (P:=ZP) (w:=V) 69 116 H (i8 #[.int .i64 0,.int .i64 0]) underlying69 hi C .i64 .i64 (m:Int) (m:Int) om om (by rw[N];omega) s om;rw[N,Aa,aoY m h2]at h;exact h
 have d0:decide ((m:Int)<1)=M:=by simp;omega
 have d1:decide ((m:Int) > 16)=M:=by simp;omega
 have a7:decide ((16:Int)<(m:Int))=M:=by simp;omega
 have d2:decide (m<1)=M:=by simp;omega
 have d3:decide (16<m)=M:=by simp;omega
 have d4:decide (m=0)=M:=by simp;omega
 have a1:=AA (Lq h1 h2);clear h1 h2;go_enter func99,ntmps99;go_wp2;go_ret2;obtain⟨h1,h2⟩:=a1.out;have U:(List.replicate m (0,0):List AF).length=m:=CS;obtain⟨X,Z⟩:∃V,V=w.alloc (i7 (CJ (List.replicate m (0,0))).toArray 116):=⟨_,rfl⟩;obtain⟨W2,Y⟩:∃V,V=X.alloc (i7 #[T (E ⟨w.heap.size,0,O⟩) m m,R K 0,R K 0,i6 M] 205):=⟨_,rfl⟩;have y:X.heap[w.heap.size]?=E (i7 (CJ (List.replicate m (0,0))).toArray 116 (0,0)):=by rw[Z];exact AT _ _
 have v:X.heap.size=w.heap.size+1:=by rw[Z];simp
 have A:W2.heap[X.heap.size]?=E (i7 #[T (E ⟨w.heap.size,0,O⟩) m m,R K 0,R K 0,i6 M] 205 (0,0)):=by rw[Y];exact AT _ _
 have I:Bt w X:=by rw[Z];exact AL _ _
 have J:Bt X W2:=by rw[Y];exact AL _ _
 have j:AY (λk=>w.heap.size<=k) X.heap.size w.heap.size 0 0 M (List.replicate m (0,0)) W2:=⟨by rw[U];exact A,(J.block w.heap.size om).trans y,⟨by show w.heap.size<=X.heap.size;omega,AC _⟩,by omega,by rw[U];omega⟩;have hB:=I.trans (J.mono I.size);rw[v]at j;refine⟨w.heap.size+1,w.heap.size,rfl,?_,?_⟩
 ·rw[Y,Z]at j;exact j
 ·rw[Y,Z]at hB;exact hB
theorem aoV:∀m:Nat,m<=16->madeCells (Value.agg #[R K 0,R K 0,R K 0,T O 0 0,R K 0]).cells (m*5)=(EY (List.replicate m ⟨0,0,0,O,0,0,0⟩)).toArray
 |0,_=>by kernel_rfl
 |1,_=>by kernel_rfl
 |2,_=>by kernel_rfl
 |3,_=>by kernel_rfl
 |4,_=>by kernel_rfl
 |5,_=>by kernel_rfl
 |6,_=>by kernel_rfl
 |7,_=>by kernel_rfl
 |8,_=>by kernel_rfl
 |9,_=>by kernel_rfl
 |10,_=>by kernel_rfl
 |11,_=>by kernel_rfl
 |12,_=>by kernel_rfl
 |13,_=>by kernel_rfl
 |14,_=>by kernel_rfl
 |15,_=>by kernel_rfl
 |16,_=>by kernel_rfl
 |m+17,h=>absurd h om
theorem anS:∃i,ZP.info? 126=E i/\i.zero=E (i8 #[R K 0,R K 0,R K 0,T O 0 0,R K 0])/\i.size=5/\i.bytes<=100:=by
 have h:((ZP.info? 126).map λi=>(i.zero,i.size,decide (i.bytes<=100)))=E (E (i8 #[R K 0,R K 0,R K 0,T O 0 0,R K 0]),5,G):=by kernel_rfl
 cases e:ZP.info? 126 with
 |none=>rw[e]at h;cases h
 |some i=>
  rw[e]at h;have h:=AK h
  injection h with h1 h2
  injection h2 with h2 h3
  exact⟨i,rfl,h1,h2,Lj h3⟩
theorem alF(m:Nat)(w:Wa)(h1:1<=m)(h2:m<=16) :Calls ZP 97 #[R K (m:Int)] w λe w'=>∃Q B,e=ra (ta #[L (E ⟨Q,0,O⟩),R K 0])/\Ab (λk=>w.heap.size<=k) Q B 0 0 M (List.replicate m ⟨0,0,0,O,0,0,0⟩) w'/\Bt w w':=by
 have a2:∀V:Wa,(Instr.makeSlice 128 (R K m) (R K m)).run ZP V=.ok (T (E ⟨V.heap.size,0,O⟩) m m) (V.alloc (i7 (EY (List.replicate m ⟨0,0,0,O,0,0,0⟩)).toArray 126)):=λV=>by
  obtain⟨H,hi,C,N,D⟩:=anS;have a6:H.bytes*m<=100*16:=GR D h2;have s:(H.bytes:Int)*(m:Int)<=281474976710656:=by rw[<-Iy];omega
  have h:=run_makeSlice (P:=ZP) (w:=V) 128 126 H (i8 #[.int .i64 0,.int .i64 0,.int .i64 0,.slice O 0 0,.int .i64 0]) underlying128 hi C .i64 .i64 (m:Int) (m:Int) om om (by rw[N];omega) s om;rw[N,Aa,aoV m h2]at h;exact h
 have d0:decide ((m:Int)<1)=M:=by simp;omega
 have d1:decide ((m:Int) > 16)=M:=by simp;omega
 have a7:decide ((16:Int)<(m:Int))=M:=by simp;omega
 have d2:decide (m<1)=M:=by simp;omega
 have d3:decide (16<m)=M:=by simp;omega
 have d4:decide (m=0)=M:=by simp;omega
 have a1:=AA (Lq h1 h2);clear h1 h2;go_enter func97,ntmps97;go_wp2;go_ret2;obtain⟨h1,h2⟩:=a1.out;have U:(List.replicate m ⟨0,0,0,O,0,0,0⟩:List PcW).length=m:=CS;obtain⟨X,Z⟩:∃V,V=w.alloc (i7 (EY (List.replicate m ⟨0,0,0,O,0,0,0⟩)).toArray 126):=⟨_,rfl⟩;obtain⟨W2,Y⟩:∃V,V=X.alloc (i7 #[T (E ⟨w.heap.size,0,O⟩) m m,R K 0,R K 0,i6 M] 214):=⟨_,rfl⟩;have y:X.heap[w.heap.size]?=E (i7 (EY (List.replicate m ⟨0,0,0,O,0,0,0⟩)).toArray 126 (0,0)):=by rw[Z];exact AT _ _
 have v:X.heap.size=w.heap.size+1:=by rw[Z];simp
 have A:W2.heap[X.heap.size]?=E (i7 #[T (E ⟨w.heap.size,0,O⟩) m m,R K 0,R K 0,i6 M] 214 (0,0)):=by rw[Y];exact AT _ _
 have I:Bt w X:=by rw[Z];exact AL _ _
 have J:Bt X W2:=by rw[Y];exact AL _ _
 have j:Ab (λk=>w.heap.size<=k) X.heap.size w.heap.size 0 0 M (List.replicate m ⟨0,0,0,O,0,0,0⟩) W2:=⟨by rw[U];exact A,(J.block w.heap.size om).trans y,⟨by show w.heap.size<=X.heap.size;omega,AC _⟩,by omega,by rw[U];omega⟩;have hB:=I.trans (J.mono I.size);rw[v]at j;refine⟨w.heap.size+1,w.heap.size,rfl,?_,?_⟩
 ·rw[Y,Z]at j;exact j
 ·rw[Y,Z]at hB;exact hB
section
attribute[local go_sem] IW aa0
theorem aiL(c:CfM)(m S Kk qm:Nat)(Wm w:Wa)(hc:Ce c.W c.K c.R c.Q c.O c.S c.F=G)(hL:c.L<=32)(b9:∀V,Fk qm Wm V->Calls ZP 95 #[L (E ⟨m,0,O⟩)] V λe w'=>e=ra (R K (c.L:Int))/\V=w')(hk:Fk qm Wm w) :Calls ZP 54 #[L (E ⟨m,0,O⟩),i8 (Ee c.W c.K c.R c.Q c.O c.S c.F),L (E ⟨S,0,O⟩),L (E ⟨Kk,0,O⟩)] w λe w'=>∃P H n1 n2 n3 n4 n5 Bb Bu Bd Q QB Gd GB Ob OB tv tl,e=ra (ta #[L (E ⟨P,0,O⟩),R K 0])/\GO c m S Kk w P H n1 n2 n3 n4 n5 Bb Bu Bd Q QB Gd GB Ob OB tv tl w':=by
 have HR:=NG c.W c.K c.R c.Q c.O c.S c.F;rw[hc]at HR;have bH:=AA HR;have b2:=Gi.1 hc;have C:=AA b2;have bP:=AA b9;have HK:=AA hk;clear b2 HR b9 hk hc;go_enter func54,ntmps54;go_upto_region 5 with(go_at_call 26;refine(bH.out _).mono ?_;rintro e w1 ⟨rfl,aU⟩)
 obtain⟨H,aE⟩:∃n,n=w.heap.size:=⟨_,rfl⟩;have aS:w1.heap[H]?=E (i7 (cfV c) 26 (0,0)):=by rw[aE];exact(aU.block _ sm).trans (AT _ _)
 have aT:Bt w w1:=(AL w _).trans (aU.mono sm);have b0:H<w1.heap.size:=(AD.1 aS).1;rw[<-aE];obtain⟨D,hD⟩:∃D,D=w1.drew:=⟨_,rfl⟩;have U:Bt w1 D:=by rw[hD];exact AN w1 1
 have aq:Bt w D:=aT.trans (U.mono aT.size);have bi:=bP.out D (HK.out.below aq);have al:D.heap[H]?=E (i7 (cfV c) 26 (0,0)):=(U.block H b0).trans aS;have aY:IntKind.i64.wrap ((c.L:Int)-1)=(c.L:Int)-1:=by rw[BK];omega
 have bB:max (0:Int) ((c.L:Int)-1)=(c.wm:Int):=by unfold CfM.wm;omega
 have aK:=AA aq;have aN:=AA bi;have hP:(∀o:Obj,(D.alloc o).heap[H]?=E (i7 (cfV c) 26 (0,0))):=λo=>((AL D o).block H (AD.1 al).1).trans al;have HP:=AA hP;have bO:=AA aE;clear aT U aq bi aU hP aE;refine Vb ?_;refine Va (S:=λY=>Y.heap[H]?=E (i7 (cfV c) 26 (0,0))) kr (by rw[<-hD];exact al) (λhHeld=>?_);rw[<-hD]at hHeld⊢;clear hD aS;refine tkA 0 ?_;refine tkW 1 (v:=?_) ?_ ?_;rotate_left
 ·intro V hV;have q0:V.cell? ⟨H,0,O⟩=E (R K (c.W:Int)):=by simp only[cell?,hV];rfl
  have B:V.cell? ⟨H,1,O⟩=E (R K (c.K:Int)):=by simp only[cell?,hV];rfl
  have q2:V.cell? ⟨H,2,O⟩=E (R K (c.R:Int)):=by simp only[cell?,hV];rfl
  have q3:V.cell? ⟨H,3,O⟩=E (R K (c.Q:Int)):=by simp only[cell?,hV];rfl
  have q4:V.cell? ⟨H,4,O⟩=E (R K (c.O:Int)):=by simp only[cell?,hV];rfl
  have q5:V.cell? ⟨H,5,O⟩=E (R K (c.S:Int)):=by simp only[cell?,hV];rfl
  have q6:V.cell? ⟨H,6,O⟩=E (R K (c.F:Int)):=by simp only[cell?,hV];rfl
  first|(go_simp;done)|(go_simp;with_reducible rfl)
 try simp only[pq]
 refine tkA 2 ?_;refine tkA 6 ?_;refine tkA 7 ?_;refine rdy 3 (λKB Z=>?_);go_simp
 go_at_call 95;refine(aN.out).mono ?_;rintro e w5 ⟨rfl,rfl⟩
 refine Z.out _ _ (al) (λh3=>?_);clear Z KB
 try simp only[pq]
 refine tkA 4 ?_;refine rdy 5 (λKB Z=>?_);go_simp;refine Z.out _ _ hHeld (λh5=>?_);clear Z KB
 try simp only[pq]
 refine tkA 8 ?_;refine rdy 9 (λKB Z=>?_);go_simp;refine Z.out _ _ (HP.out _) (λh9=>?_);clear Z KB
 try simp only[pq]
 refine tkA 10 ?_;refine Vd kr ?_ _;refine At ?_;obtain⟨P,az⟩:∃P,P=D.heap.size:=⟨_,rfl⟩;obtain⟨W5,ay⟩:∃V,V=D.alloc (i7 (npV c m S Kk (L O) (L O) (L O) (L O) (T O 0 0)) 109):=⟨_,rfl⟩;have b8:NpS c m S Kk H P (L O) (L O) (L O) (L O) (T O 0 0) W5:=⟨by rw[ay,az];exact AT _ _,by rw[ay];exact HP.out _,by rw[az];exact(AD.1 al).1⟩;have bb:Bt w W5:=by rw[ay];exact aK.out.trans ((AL D _).mono aK.out.size)
 have b6:w.heap.size<=P:=by rw[az];exact aK.out.size
 have ae:=ay;unfold npV at ae;rw[<-ae,<-az];have bN:=AA b8;have bv:=AA bb;have be:=AA b6;clear ay az ae b8 bb h9 h5 h3 hHeld al HP aN aK b0 bB aY b6;obtain⟨D6,hD⟩:∃D6,D6=W5.drew:=⟨_,rfl⟩;have U:Bt W5 D6:=by rw[hD];exact AN W5 1
 have b7:=bN.out.keep U;have aq:=bv.out.trans (U.mono bv.out.size);have bR:c.wm<=31:=by unfold CfM.wm;omega
 obtain⟨sz,aR⟩:∃sz,sz=c.K+c.wm:=⟨_,rfl⟩;have bU:IntKind.i64.wrap ((c.K:Int)+(c.wm:Int))=(sz:Int):=by have:=C.out;rw[BK,aR];omega
 have bo:=AA (alQ c.R sz D6 (by have:=C.out;omega) (by have:=C.out;omega) (by have:=C.out;omega) (by have:=C.out;omega));have aj:=AA b7;have aO:=AA aq;have bG:=AA aR;clear U b7 aq aR;go_upto_region 6 with fail
 refine Vb ?_;refine Va (S:=λY=>Y.heap[H]?=E (i7 (cfV c) 26 (0,0))/\Y.cell? ⟨P,8,O⟩=E (R K (c.wm:Int))) kr (by rw[<-hD];exact⟨aj.out.conf,aj.out.ce 8 _ rfl⟩) (λhHeld=>?_);rw[<-hD]at hHeld⊢;clear hD;refine tkA 0 ?_;refine tkA 1 ?_;refine tkW 2 (v:=?_) ?_ ?_;rotate_left
 ·intro V hV;have q2:V.cell? ⟨H,2,O⟩=E (R K (c.R:Int)):=by simp only[cell?,hV.1];rfl
  first|(go_simp;done)|(go_simp;with_reducible rfl)
 try simp only[pq]
 refine tkA 3 ?_;refine tkW 4 (v:=?_) ?_ ?_;rotate_left
 ·intro V hV;have B:V.cell? ⟨H,1,O⟩=E (R K (c.K:Int)):=by simp only[cell?,hV.1];rfl
  first|(go_simp;done)|(go_simp;with_reducible rfl)
 try simp only[pq]
 refine tkA 5 ?_;refine tkA 6 ?_;refine tkA 7 ?_;refine tkW 8 (v:=?_) ?_ ?_;rotate_left
 ·intro V hV;have q8:=hV.2
  first|(go_simp;done)|(go_simp;with_reducible rfl)
 try simp only[pq]
 refine tkA 9 ?_;refine rdy 10 (λKB Z=>?_);go_simp
 go_at_call 96;refine bo.out.mono ?_;rintro e w6 ⟨Bb,Bu,Bd,rfl,aL,hb⟩
 have ao:=aj.out.keep hb;refine Z.out _ _ ⟨ao.conf,ao.ce 8 _ rfl⟩ (λh10=>?_);clear Z KB
 try simp only[pq]
 have j1:=ao.fr 11;have j2:=ao.ce 11 _ rfl;have bL:=AA ao;have bu:=AA (aO.out.trans (hb.mono aO.out.size));have bQ:=AA hb.size;have bp:=AA aL;clear ao hb aL bo;refine tkA 11 ?_;refine tkA 12 ?_;refine tkA 13 ?_;refine tkA 14 ?_;refine tkA 15 ?_;refine rdy 16 (λKB Z=>?_);go_simp;have aG:=bL.out.set (b':=L (E ⟨Bb,0,O⟩)) 11 (L (E ⟨Bb,0,O⟩)) rfl;refine Z.out _ _ ⟨aG.conf,aG.ce 8 _ rfl⟩ (λbF=>?_);clear Z KB
 try simp only[pq]
 have aC:=AA ((Chg.refl (λk=>k=P) w6).set (g:=P) (i:=11) (v:=L (E ⟨Bb,0,O⟩)) rfl);have aJ:=AA aG;clear aG bF h10 j1 j2;refine Vd kr ?_ _;refine At ?_;obtain⟨W6,b5⟩:∃V,V=w6.setCell ⟨P,11,O⟩ (L (E ⟨Bb,0,O⟩)):=⟨_,rfl⟩;rw[<-b5]at aC aJ⊢;clear b5;have bm:=AA (alF c.Q W6 (by have:=C.out;omega) (by have:=C.out;omega));have k7:=aJ.out.cc 3 (R K (c.Q:Int)) rfl;go_upto_region 8 with(go_at_call 97;refine bm.out.mono ?_;rintro e w7 ⟨Q,QB,rfl,ac,hb⟩;have hN:=aJ.out.keep hb;have j1:=hN.fr 12;have j2:=hN.ce 12 _ rfl;have bh:=AA hN;have bt:=AA hb;have bK:=AA ac;clear hN hb ac)
 have aI:=AA (bh.out.set (q':=L (E ⟨Q,0,O⟩)) 12 (L (E ⟨Q,0,O⟩)) rfl);have aX:=AA ((Chg.refl (λk=>k=P) w7).set (g:=P) (i:=12) (v:=L (E ⟨Q,0,O⟩)) rfl);obtain⟨W7,b4⟩:∃V,V=w7.setCell ⟨P,12,O⟩ (L (E ⟨Q,0,O⟩)):=⟨_,rfl⟩;rw[<-b4]at aX aI⊢;clear b4 j1 j2 k7 bm bh aJ;have bl:=AA (akT c.R W7 (by have:=C.out;omega) (by have:=C.out;omega));have k8:=aI.out.cc 2 (R K (c.R:Int)) rfl;go_upto_region 9 with(go_at_call 98;refine bl.out.mono ?_;rintro e w8 ⟨Gd,GB,rfl,ac,hb⟩;have hN:=aI.out.keep hb;have j1:=hN.fr 13;have j2:=hN.ce 13 _ rfl;have bg:=AA hN;have bs:=AA hb;have bJ:=AA ac;clear hN hb ac)
 have aH:=AA (bg.out.set (g':=L (E ⟨Gd,0,O⟩)) 13 (L (E ⟨Gd,0,O⟩)) rfl);have aW:=AA ((Chg.refl (λk=>k=P) w8).set (g:=P) (i:=13) (v:=L (E ⟨Gd,0,O⟩)) rfl);obtain⟨W8,am⟩:∃V,V=w8.setCell ⟨P,13,O⟩ (L (E ⟨Gd,0,O⟩)):=⟨_,rfl⟩;rw[<-am]at aW aH⊢;clear am j1 j2 k8 bl bg aI;have bk:=AA (alW c.O W8 (by have:=C.out;omega) (by have:=C.out;omega));have k9:=aH.out.cc 4 (R K (c.O:Int)) rfl;go_upto_region 10 with(go_at_call 99;refine bk.out.mono ?_;rintro e w9 ⟨Ob,OB,rfl,ac,hb⟩;have hN:=aH.out.keep hb;have j1:=hN.fr 14;have j2:=hN.ce 14 _ rfl;have bf:=AA hN;have bq:=AA hb;have bI:=AA ac;clear hN hb ac)
 have aB:=AA (bf.out.set (o':=L (E ⟨Ob,0,O⟩)) 14 (L (E ⟨Ob,0,O⟩)) rfl);have aV:=AA ((Chg.refl (λk=>k=P) w9).set (g:=P) (i:=14) (v:=L (E ⟨Ob,0,O⟩)) rfl);obtain⟨W9,b3⟩:∃V,V=w9.setCell ⟨P,14,O⟩ (L (E ⟨Ob,0,O⟩)):=⟨_,rfl⟩;rw[<-b3]at aV aB⊢;clear b3 j1 j2 k9 bk bf aH;obtain⟨n5,ax⟩:∃n,n=W9.heap.size:=⟨_,rfl⟩;obtain⟨D,hD⟩:∃D,D=W9.drew:=⟨_,rfl⟩;have U:Bt W9 D:=by rw[hD];exact AN W9 1
 have pD:=aB.out.keep U;have zD:=pD.ce 15 _ rfl;have a6:=AA (TkI.nil n5 D);have J:=AA (Lq (show P<n5 by rw[ax];exact aB.out.plt) (show n5<=D.heap.size by rw[ax];exact U.size));have a2:Hid (([]:List Tk).length<=1000):=by show 0<=1000;omega
 have a7:Hid (Fj c.W P []):=λj t ht=>by simp at ht
 have aD:Hid (Mn P D.heap.size=CY c.W P ([]:List Tk).length (Mn P D.heap.size).a):=rfl;have aa:Hid (Chg (λk=>k=P∨n5<=k) W9 D):=Chg.of_same U;have ag:=AA (aiF P D);have aM:=AA ax;have aP:=AA (bu.out.trans (((((((aC.out.then (Chg.of_same bt.out)).then aX.out).then (Chg.of_same bs.out)).then aW.out).then (Chg.of_same bq.out)).then aV.out).below bu.out.size λk hk hx=>by have:=be.out;omega));have bj:Hid (Im c P D6.heap.size W6.heap.size W7.heap.size W8.heap.size n5 Bb Bu Bd Q QB Gd GB Ob OB W9):=by rw[ax];exact Im.mk2 (by rw[<-bG.out];exact bp.out) aj.out.plt bQ.out aC.out bt.out bK.out aX.out bs.out bJ.out aW.out bq.out bI.out aV.out
 clear U ax;go_upto_region 10 with fail
 refine Vb ?_;refine Va (S:=λY=>True) kr trivial (λhHeld=>?_);rw[<-hD];clear hD;refine tkA 0 ?_;refine tkA 1 ?_;refine tkA 2 ?_;refine tkA 3 ?_;refine tkA 5 ?_;refine apE 4 6 (λKB Z=>?_) (λKB Z=>?_)
 focus
  go_simp;refine Z.out _ _ trivial (λh4=>?_);clear Z KB h4
  try simp only[pq]
  refine rdy 6 (λKB Z=>?_);go_simp
  go_at_call 100;refine ag.out.mono ?_;rintro e aQ X
  obtain rfl:=X.1;have A:=X.2.2.2.2;have pV:=pD.keep A;have zV:=(pV.ce 15 _ rfl);have zA:=pV.plt;have ab:=AA X;clear X A pV;refine Z.out _ _ trivial (λh6=>?_);clear Z KB h6
  try simp only[pq]
  refine tkA 7 ?_;refine rdy 8 (λKB Z=>?_);go_simp;refine Z.out _ _ trivial (λh8=>?_);clear Z KB h8
  try simp only[pq]
 rotate_left
 focus
  go_simp
  go_at_call 100;refine ag.out.mono ?_;rintro e aQ X
  obtain rfl:=X.1;have A:=X.2.2.2.2;have pV:=pD.keep A;have zV:=(pV.ce 15 _ rfl);have zA:=pV.plt;have ab:=AA X;clear X A pV;refine Z.out _ _ trivial (λh6=>?_);clear Z KB h6
  try simp only[pq]
  refine tkA 7 ?_;refine apE 4 8 (λKB Z=>?_) (λKB Z=>?_)
  focus
   go_simp;refine Z.out _ _ trivial (λh4=>?_);clear Z KB h4
   try simp only[pq]
   refine rdy 8 (λKB Z=>?_);go_simp;refine Z.out _ _ trivial (λh8=>?_);clear Z KB h8
   try simp only[pq]
  rotate_left
  focus
   go_simp;refine Z.out _ _ trivial (λh8=>?_);clear Z KB h8
   try simp only[pq]
   refine rdy 4 (λKB Z=>?_);go_simp;refine Z.out _ _ trivial (λh4=>?_);clear Z KB h4
   try simp only[pq]
 all_goals
  clear zV zA;have a8:=AA pD;clear pD zD;obtain⟨a1,nn,c1,W1,hr,B,q2,q3,q4,q5⟩:=a6.out.one (W:=c.W) (t:=Mn P D.heap.size) a8.out J.out.1 J.out.2 a2.out ab.out.2.2.2.2 (ab.out.tkm rfl rfl rfl rfl) a7.out aD.out;have HR:=AA hr;have j1:=B.fr 15;have j2:=B.ce 15 _ rfl;have Q2:=AA q2;have Q3:=AA q3;have Q4:=AA q4;have Q5:=AA (aa.out.trans q5 λk _ hk=>hk);clear hr B q2 q3 q4 q5;refine rdy 9 (λKB Z=>?_);refine GU (.tmp 73) (.tmp 77) 103 rfl _ _ rfl rfl rfl HR.out ?_;refine Z.out _ _ trivial (λh9=>?_);clear Z KB h9
  try simp only[pq]
  refine tkA 10 ?_;refine tkA 11 ?_;refine rdy 12 (λKB Z=>?_);go_simp;refine Z.out _ _ trivial (λy=>?_);clear Z KB y
  try simp only[pq]
  clear j1 j2;obtain⟨WN,I⟩:∃V,V=W1.setCell ⟨P,15,O⟩ (T a1 nn c1):=⟨_,rfl⟩;rw[<-I]at Q2 Q3 Q5⊢;clear I HR ab;refine Vd kr ?_ _;refine At ?_;have aA:Hid (∃tv tl,lc tl=0+1/\TkI n5 tv tl WN/\NpS c m S Kk H P (L (E ⟨Bb,0,O⟩)) (L (E ⟨Q,0,O⟩)) (L (E ⟨Gd,0,O⟩)) (L (E ⟨Ob,0,O⟩)) tv WN/\Fj c.W P tl):=⟨_,_,rfl,Q3.out,Q2.out,Q4.out⟩;clear Q2 Q3 Q4 a6 a2 a7 aD aa ag a8
 all_goals
  obtain⟨bS,bT,bC,bz,b1,bA⟩:=aA.out;have bx:=b1.cc 0 (R K (c.W:Int)) rfl;clear bz b1 bA bC;go_upto_region 12 with fail
  clear bx
  go_loopw[83] (λbw wr=>∃(i:Nat),i<=c.W/\bw=R K i/\Hid (∃tv tl,lc tl=i+1/\TkI n5 tv tl wr/\NpS c m S Kk H P (L (E ⟨Bb,0,O⟩)) (L (E ⟨Q,0,O⟩)) (L (E ⟨Gd,0,O⟩)) (L (E ⟨Ob,0,O⟩)) tv wr/\Fj c.W P tl)/\Hid (Chg (λk=>k=P∨n5<=k) W9 wr)) (λs _=>c.W-(intOf s).toNat)
  case atStart=>exact⟨0,AR _,rfl,aA,Q5⟩
  case round=>
   clear aA Q5;obtain⟨i,bW,rfl,aF,ap⟩:=hrel
   by_cases bD:i<c.W
   ·have hd:decide ((i:Int)<(c.W:Int))=G:=by simp;omega
    obtain⟨tv,tl,hl,au,aw,av⟩:=aF.out;obtain⟨D,hD⟩:∃D,D=wr.drew:=⟨_,rfl⟩;have U:Bt wr D:=by rw[hD];exact AN wr 1
    have am:=C.out.1.2;have pD:=aw.keep U;have zD:=pD.ce 15 _ rfl;have a6:=AA (au.keep U);have ad:=AA (Lq J.out.1 (show n5<=D.heap.size by have:=ap.out.size;have:=U.size;have:=aM.out;omega));have a2:Hid (lc tl<=1000):=by show lc tl<=1000;omega
    have N:=AA hl;have a7:=AA av;have aD:Hid (Mm P D.heap.size=CY c.W P (lc tl) (Mm P D.heap.size).a):=by
     show _=_;unfold CY;rw[Lb om,Lc om]
     rfl
    have aa:=AA (ap.out.then (Chg.of_same U));have ag:=AA (als P D);have i1:(0:Int)<=(i:Int):=by omega
    have i2:(i:Int)<(c.W:Int):=by omega
    have bV:IntKind.i64.wrap ((i:Int)+1)=((i+1:Nat):Int):=by rw[BK];omega
    have aZ:wrap64 ((i:Int)+1)=((i+1:Nat):Int):=aoQ (n:=c.W) om bD;clear U au aw av hl ap aF J am;have J:=ad;clear ad;go_upto_region 13 with fail
    refine Vb ?_;refine Va (S:=λY=>True) kr trivial (λhHeld=>?_);rw[<-hD];clear hD;refine tkA 0 ?_;refine tkA 1 ?_;refine tkA 2 ?_;refine tkA 3 ?_;refine tkA 5 ?_;refine apE 4 6 (λKB Z=>?_) (λKB Z=>?_)
    focus
     go_simp;refine Z.out _ _ trivial (λh4=>?_);clear Z KB h4
     try simp only[pq]
     refine rdy 6 (λKB Z=>?_);go_simp
     go_at_call 101;refine ag.out.mono ?_;rintro e aQ X
     obtain rfl:=X.1;have A:=X.2.2.2.2;have pV:=pD.keep A;have zV:=(pV.ce 15 _ rfl);have zA:=pV.plt;have ab:=AA X;clear X A pV;refine Z.out _ _ trivial (λh6=>?_);clear Z KB h6
     try simp only[pq]
     refine tkA 7 ?_;refine rdy 8 (λKB Z=>?_);go_simp;refine Z.out _ _ trivial (λh8=>?_);clear Z KB h8
     try simp only[pq]
    rotate_left
    focus
     go_simp
     go_at_call 101;refine ag.out.mono ?_;rintro e aQ X
     obtain rfl:=X.1;have A:=X.2.2.2.2;have pV:=pD.keep A;have zV:=(pV.ce 15 _ rfl);have zA:=pV.plt;have ab:=AA X;clear X A pV;refine Z.out _ _ trivial (λh6=>?_);clear Z KB h6
     try simp only[pq]
     refine tkA 7 ?_;refine apE 4 8 (λKB Z=>?_) (λKB Z=>?_)
     focus
      go_simp;refine Z.out _ _ trivial (λh4=>?_);clear Z KB h4
      try simp only[pq]
      refine rdy 8 (λKB Z=>?_);go_simp;refine Z.out _ _ trivial (λh8=>?_);clear Z KB h8
      try simp only[pq]
     rotate_left
     focus
      go_simp;refine Z.out _ _ trivial (λh8=>?_);clear Z KB h8
      try simp only[pq]
      refine rdy 4 (λKB Z=>?_);go_simp;refine Z.out _ _ trivial (λh4=>?_);clear Z KB h4
      try simp only[pq]
    all_goals
     clear zV zA;have a8:=AA pD;clear pD zD;obtain⟨a1,nn,c1,W1,hr,B,q2,q3,q4,q5⟩:=a6.out.one (W:=c.W) (t:=Mm P D.heap.size) a8.out J.out.1 J.out.2 a2.out ab.out.2.2.2.2 (ab.out.tkm rfl rfl rfl rfl) a7.out aD.out;have HR:=AA hr;have j1:=B.fr 15;have j2:=B.ce 15 _ rfl;have Q2:=AA q2;have Q3:=AA q3;have Q4:=AA q4;have Q5:=AA (aa.out.trans q5 λk _ hk=>hk);clear hr B q2 q3 q4 q5;refine rdy 9 (λKB Z=>?_);refine GU (.tmp 89) (.tmp 93) 103 rfl _ _ rfl rfl rfl HR.out ?_;refine Z.out _ _ trivial (λh9=>?_);clear Z KB h9
     try simp only[pq]
     refine tkA 10 ?_;refine tkA 11 ?_;refine rdy 12 (λKB Z=>?_);go_simp;refine Z.out _ _ trivial (λy=>?_);clear Z KB y
     try simp only[pq]
     clear j1 j2;obtain⟨WN,I⟩:∃V,V=W1.setCell ⟨P,15,O⟩ (T a1 nn c1):=⟨_,rfl⟩;rw[<-I]at Q2 Q3 Q5⊢;clear I HR ab;refine Vd kr ?_ _;refine At ?_;have bd:Hid (∃tv tl,lc tl=(i+1)+1/\TkI n5 tv tl WN/\NpS c m S Kk H P (L (E ⟨Bb,0,O⟩)) (L (E ⟨Q,0,O⟩)) (L (E ⟨Gd,0,O⟩)) (L (E ⟨Ob,0,O⟩)) tv WN/\Fj c.W P tl):=⟨_,_,by rw[List.length_append,N.out];rfl,Q3.out,Q2.out,Q4.out⟩;clear Q2 Q3 Q4 a6 a2 a7 aD aa ag a8 N;go_wp2
     go_roundw
     case rel=>exact⟨i+1,by omega,by first|rfl|simp[aZ],bd,Q5⟩
     case measure=>(try simp only[aZ]);simp[intOf];omega
   ·obtain rfl:i=c.W:=by omega
    have hd:decide ((c.W:Int)<(c.W:Int))=M:=by simp
    go_upto_region 15 with fail
    obtain⟨tv,tl,hl,au,aw,av⟩:=aF.out;obtain⟨D,hD⟩:∃D,D=wr.drew:=⟨_,rfl⟩;have U:Bt wr D:=by rw[hD];exact AN wr 1
    have am:=C.out.1.2;have pD:=aw.keep U;have zD:=pD.ce 15 _ rfl;have a8:=AA pD;have a6:=AA (au.keep U);have ad:=AA (Lq J.out.1 (show n5<=D.heap.size by have:=ap.out.size;have:=U.size;have:=aM.out;omega));have a2:Hid (lc tl<=1000):=by show lc tl<=1000;omega
    have N:=AA hl;have a7:=AA av;have aa:=AA (ap.out.then (Chg.of_same U));have ar:=AA (alo P);have ai:=AA (alb P);have ak:Hid (∀tv tl V,NpS c m S Kk H P (L (E ⟨Bb,0,O⟩)) (L (E ⟨Q,0,O⟩)) (L (E ⟨Gd,0,O⟩)) (L (E ⟨Ob,0,O⟩)) tv V->TkI n5 tv tl V->Fj c.W P tl->lc tl=c.W+3->Chg (λk=>k=P∨n5<=k) W9 V->∃P' H n1 n2 n3 n4 n5 Bb Bu Bd Q QB Gd GB Ob OB tv tl,Ending.returned (ta #[L (E ⟨P,0,O⟩),R K 0])=Ending.returned (ta #[L (E ⟨P',0,O⟩),R K 0])/\GO c m S Kk w P' H n1 n2 n3 n4 n5 Bb Bu Bd Q QB Gd GB Ob OB tv tl V):=λtv tl V r1 r2 r3 r4 r5=>⟨P,H,_,_,_,_,n5,Bb,Bu,Bd,Q,QB,Gd,GB,Ob,OB,tv,tl,rfl,r1,r2,r3,r4,bj.out.keep r5,by rw[bO.out];exact AC _,aP.out.trans (r5.below aP.out.size λk hk hx=>by have:=be.out;have:=J.out.1;omega)⟩;clear U au aw av hl ap aF J am;have J:=ad;clear ad;go_upto_region 15 with fail
    refine Vb ?_;refine Va (S:=λY=>True) kr trivial (λhHeld=>?_);rw[<-hD];clear hD;refine tkA 0 ?_;refine tkA 1 ?_;refine tkA 2 ?_;refine tkA 3 ?_;refine tkA 5 ?_;refine tkA 8 ?_;refine apE 4 6 (λKB Z=>?_) (λKB Z=>?_)
    ·go_simp;refine Z.out _ _ trivial (λh4=>?_);clear Z KB h4
     try simp only[pq]
     refine rdy 6 (λKB Z=>?_);go_simp
     go_at_call 102;refine(ar.out _).mono ?_;rintro e wa X
     obtain rfl:=X.1;have bM:=X.2.2.2.2;have kM:=AA (X.tkm (t:=JD P D.heap.size) rfl rfl rfl rfl);have sM:=AA X.2.2.2.1;clear X;have za:=((pD.keep bM).ce 15 _ rfl);have pa:=pD.keep bM;have la:=pa.plt;refine Z.out _ _ trivial (λh6=>?_);clear Z KB h6
     try simp only[pq]
     refine tkA 7 ?_;refine rdy 9 (λKB Z=>?_);go_simp
     go_at_call 103;refine(ai.out _).mono ?_;rintro e wb X
     obtain rfl:=X.1;have bE:=X.2.2.2.2;have kE:=AA (X.tkm (t:=IQ P wa.heap.size) rfl rfl rfl rfl);have sE:=AA X.2.2.2.1;clear X;have zb:=((pa.keep bE).ce 15 _ rfl);have pb:=pa.keep bE;have lb:=pb.plt;refine Z.out _ _ trivial (λh9=>?_);clear Z KB h9
     try simp only[pq]
     refine tkA 10 ?_;refine rdy 11 (λKB Z=>?_);go_simp;refine Z.out _ _ trivial (λh11=>?_);clear Z KB h11
     try simp only[pq]
     obtain⟨a1,nn,c1,W1,hr,B,q2,q3,q4,q5⟩:=a6.out.two (W:=c.W) (t:=JD P D.heap.size) (u:=IQ P wa.heap.size) a8.out J.out.1 J.out.2 a2.out (bM.trans (bE.mono bM.size)) (⟨kM.out.1.below bE,kM.out.2⟩) (⟨kE.out.1,by have:=kE.out.2;have:=bM.size;omega⟩) (.inl (by have:=sM.out;show D.heap.size+2<=wa.heap.size;omega)) a7.out (by rw[N.out];unfold CY;rw[Lb om,Lb om,Lc rfl];rfl) (by rw[N.out];unfold CY;rw[Lb om,Lb om,Lb om];rfl);have HR:=AA hr;have j1:=B.fr 15;have j2:=B.ce 15 _ rfl;have Q2:=AA q2;have Q3:=AA q3;have Q4:=AA q4;have Q5:=AA (aa.out.trans q5 λk _ hk=>hk);clear hr B q2 q3 q4 q5 kM kE bM bE sM sE pD zD ar ai;refine rdy 12 (λKB Z=>?_);refine GU (.tmp 102) (.tmp 109) 103 rfl _ _ rfl rfl rfl HR.out ?_;refine Z.out _ _ trivial (λy=>?_);clear Z KB y
     try simp only[pq]
     refine tkA 13 ?_;refine tkA 14 ?_;refine rdy 15 (λKB Z=>?_);go_simp;refine Z.out _ _ trivial (λaf=>?_);clear Z KB af
     try simp only[pq]
     clear j1 j2;obtain⟨WN,I⟩:∃V,V=W1.setCell ⟨P,15,O⟩ (T a1 nn c1):=⟨_,rfl⟩;rw[<-I]at Q2 Q3 Q5⊢;clear I HR;refine Vd kr ?_ _;refine At ?_;go_wp2;go_ret2;exact ak.out _ _ _ Q2.out Q3.out Q4.out (by simp[N.out]) Q5.out
    ·go_simp
     go_at_call 102;refine(ar.out _).mono ?_;rintro e wa X
     obtain rfl:=X.1;have bM:=X.2.2.2.2;have kM:=AA (X.tkm (t:=JD P D.heap.size) rfl rfl rfl rfl);have sM:=AA X.2.2.2.1;clear X;have za:=((pD.keep bM).ce 15 _ rfl);have pa:=pD.keep bM;have la:=pa.plt;refine Z.out _ _ trivial (λh6=>?_);clear Z KB h6
     try simp only[pq]
     refine tkA 7 ?_;refine apE 4 9 (λKB Z=>?_) (λKB Z=>?_)
     ·go_simp;refine Z.out _ _ trivial (λh4=>?_);clear Z KB h4
      try simp only[pq]
      refine rdy 9 (λKB Z=>?_);go_simp
      go_at_call 103;refine(ai.out _).mono ?_;rintro e wb X
      obtain rfl:=X.1;have bE:=X.2.2.2.2;have kE:=AA (X.tkm (t:=IQ P wa.heap.size) rfl rfl rfl rfl);have sE:=AA X.2.2.2.1;clear X;have zb:=((pa.keep bE).ce 15 _ rfl);have pb:=pa.keep bE;have lb:=pb.plt;refine Z.out _ _ trivial (λh9=>?_);clear Z KB h9
      try simp only[pq]
      refine tkA 10 ?_;refine rdy 11 (λKB Z=>?_);go_simp;refine Z.out _ _ trivial (λh11=>?_);clear Z KB h11
      try simp only[pq]
      obtain⟨a1,nn,c1,W1,hr,B,q2,q3,q4,q5⟩:=a6.out.two (W:=c.W) (t:=JD P D.heap.size) (u:=IQ P wa.heap.size) a8.out J.out.1 J.out.2 a2.out (bM.trans (bE.mono bM.size)) (⟨kM.out.1.below bE,kM.out.2⟩) (⟨kE.out.1,by have:=kE.out.2;have:=bM.size;omega⟩) (.inl (by have:=sM.out;show D.heap.size+2<=wa.heap.size;omega)) a7.out (by rw[N.out];unfold CY;rw[Lb om,Lb om,Lc rfl];rfl) (by rw[N.out];unfold CY;rw[Lb om,Lb om,Lb om];rfl);have HR:=AA hr;have j1:=B.fr 15;have j2:=B.ce 15 _ rfl;have Q2:=AA q2;have Q3:=AA q3;have Q4:=AA q4;have Q5:=AA (aa.out.trans q5 λk _ hk=>hk);clear hr B q2 q3 q4 q5 kM kE bM bE sM sE pD zD ar ai;refine rdy 12 (λKB Z=>?_);refine GU (.tmp 102) (.tmp 109) 103 rfl _ _ rfl rfl rfl HR.out ?_;refine Z.out _ _ trivial (λy=>?_);clear Z KB y
      try simp only[pq]
      refine tkA 13 ?_;refine tkA 14 ?_;refine rdy 15 (λKB Z=>?_);go_simp;refine Z.out _ _ trivial (λaf=>?_);clear Z KB af
      try simp only[pq]
      clear j1 j2;obtain⟨WN,I⟩:∃V,V=W1.setCell ⟨P,15,O⟩ (T a1 nn c1):=⟨_,rfl⟩;rw[<-I]at Q2 Q3 Q5⊢;clear I HR;refine Vd kr ?_ _;refine At ?_;go_wp2;go_ret2;exact ak.out _ _ _ Q2.out Q3.out Q4.out (by simp[N.out]) Q5.out
     ·go_simp
      go_at_call 103;refine(ai.out _).mono ?_;rintro e wb X
      obtain rfl:=X.1;have bE:=X.2.2.2.2;have kE:=AA (X.tkm (t:=IQ P wa.heap.size) rfl rfl rfl rfl);have sE:=AA X.2.2.2.1;clear X;have zb:=((pa.keep bE).ce 15 _ rfl);have pb:=pa.keep bE;have lb:=pb.plt;refine Z.out _ _ trivial (λh9=>?_);clear Z KB h9
      try simp only[pq]
      refine tkA 10 ?_;refine apE 4 11 (λKB Z=>?_) (λKB Z=>?_)
      ·go_simp;refine Z.out _ _ trivial (λh4=>?_);clear Z KB h4
       try simp only[pq]
       refine rdy 11 (λKB Z=>?_);go_simp;refine Z.out _ _ trivial (λh11=>?_);clear Z KB h11
       try simp only[pq]
       obtain⟨a1,nn,c1,W1,hr,B,q2,q3,q4,q5⟩:=a6.out.two (W:=c.W) (t:=JD P D.heap.size) (u:=IQ P wa.heap.size) a8.out J.out.1 J.out.2 a2.out (bM.trans (bE.mono bM.size)) (⟨kM.out.1.below bE,kM.out.2⟩) (⟨kE.out.1,by have:=kE.out.2;have:=bM.size;omega⟩) (.inl (by have:=sM.out;show D.heap.size+2<=wa.heap.size;omega)) a7.out (by rw[N.out];unfold CY;rw[Lb om,Lb om,Lc rfl];rfl) (by rw[N.out];unfold CY;rw[Lb om,Lb om,Lb om];rfl);have HR:=AA hr;have j1:=B.fr 15;have j2:=B.ce 15 _ rfl;have Q2:=AA q2;have Q3:=AA q3;have Q4:=AA q4;have Q5:=AA (aa.out.trans q5 λk _ hk=>hk);clear hr B q2 q3 q4 q5 kM kE bM bE sM sE pD zD ar ai;refine rdy 12 (λKB Z=>?_);refine GU (.tmp 102) (.tmp 109) 103 rfl _ _ rfl rfl rfl HR.out ?_;refine Z.out _ _ trivial (λy=>?_);clear Z KB y
       try simp only[pq]
       refine tkA 13 ?_;refine tkA 14 ?_;refine rdy 15 (λKB Z=>?_);go_simp;refine Z.out _ _ trivial (λaf=>?_);clear Z KB af
       try simp only[pq]
       clear j1 j2;obtain⟨WN,I⟩:∃V,V=W1.setCell ⟨P,15,O⟩ (T a1 nn c1):=⟨_,rfl⟩;rw[<-I]at Q2 Q3 Q5⊢;clear I HR;refine Vd kr ?_ _;refine At ?_;go_wp2;go_ret2;exact ak.out _ _ _ Q2.out Q3.out Q4.out (by simp[N.out]) Q5.out
      ·go_simp;refine Z.out _ _ trivial (λh11=>?_);clear Z KB h11
       try simp only[pq]
       refine rdy 4 (λKB Z=>?_);go_simp;refine Z.out _ _ trivial (λh4=>?_);clear Z KB h4
       try simp only[pq]
       obtain⟨a1,nn,c1,W1,hr,B,q2,q3,q4,q5⟩:=a6.out.two (W:=c.W) (t:=JD P D.heap.size) (u:=IQ P wa.heap.size) a8.out J.out.1 J.out.2 a2.out (bM.trans (bE.mono bM.size)) (⟨kM.out.1.below bE,kM.out.2⟩) (⟨kE.out.1,by have:=kE.out.2;have:=bM.size;omega⟩) (.inl (by have:=sM.out;show D.heap.size+2<=wa.heap.size;omega)) a7.out (by rw[N.out];unfold CY;rw[Lb om,Lb om,Lc rfl];rfl) (by rw[N.out];unfold CY;rw[Lb om,Lb om,Lb om];rfl);have HR:=AA hr;have j1:=B.fr 15;have j2:=B.ce 15 _ rfl;have Q2:=AA q2;have Q3:=AA q3;have Q4:=AA q4;have Q5:=AA (aa.out.trans q5 λk _ hk=>hk);clear hr B q2 q3 q4 q5 kM kE bM bE sM sE pD zD ar ai;refine rdy 12 (λKB Z=>?_);refine GU (.tmp 102) (.tmp 109) 103 rfl _ _ rfl rfl rfl HR.out ?_;refine Z.out _ _ trivial (λy=>?_);clear Z KB y
       try simp only[pq]
       refine tkA 13 ?_;refine tkA 14 ?_;refine rdy 15 (λKB Z=>?_);go_simp;refine Z.out _ _ trivial (λaf=>?_);clear Z KB af
       try simp only[pq]
       clear j1 j2;obtain⟨WN,I⟩:∃V,V=W1.setCell ⟨P,15,O⟩ (T a1 nn c1):=⟨_,rfl⟩;rw[<-I]at Q2 Q3 Q5⊢;clear I HR;refine Vd kr ?_ _;refine At ?_;go_wp2;go_ret2;exact ak.out _ _ _ Q2.out Q3.out Q4.out (by simp[N.out]) Q5.out
end
section
def CC(tl:List Tk)(j:Nat):Nat:=(tl[j]?.map Tk.a).getD 0
open Classical in
noncomputable def Cp (o0:Nat->Nat) (sz W P n1 n2 n3 n4 n5 Z:Nat) (tl:List Tk) (k:Nat):Nat:=
 if k<sz then o0 k else if Z<=k then 1000000 else if k=P then 1 else if n1<=k/\k<n2 then 4 else if n2<=k/\k<n3 then 5 else if n3<=k/\k<n4 then 6 else if n4<=k/\k<n5 then 7 else
  if k=CC tl 0 then 8 else if k=CC tl (W+1) then 9 else if k=CC tl (W+2) then 10 else if h:∃i,i<W/\CC tl (i+1)=k then 11+Classical.choose h else 0
section
variable {c:CfM}{m S Kk:Nat}{w V:Wa}{P n0 n1 n2 n3 n4 n5 Bb Bu Bd Q QB Gd GB Ob OB:Nat}{tv:Vh}{tl:List Tk}{o0:Nat->Nat}
theorem GO.get(h:GO c m S Kk w P n0 n1 n2 n3 n4 n5 Bb Bu Bd Q QB Gd GB Ob OB tv tl V){j:Nat}(Y:j<c.W+3):∃t,tl[j]?=E t/\t.a=CC tl j/\t=CY c.W P j t.a:=by
 have Z:j<lc tl:=by rw[h.len];exact Y
 have e:tl[j]?=E tl[j]:=Ar Z;exact⟨_,e,by unfold CC;rw[e];rfl,h.sh j _ e⟩
theorem GO.apart(h:GO c m S Kk w P n0 n1 n2 n3 n4 n5 Bb Bu Bd Q QB Gd GB Ob OB tv tl V){i j:Nat}(U:i<c.W+3)(X:j<c.W+3)(Y:i≠j):CC tl i+2<=CC tl j∨CC tl j+2<=CC tl i:=by
 obtain⟨t,h1,h2,_⟩:=h.get U;obtain⟨u,h3,h4,_⟩:=h.get X;rw[<-h2,<-h4]
 rcases Nat.lt_or_gt_of_ne Y with Z|Z
 ·exact h.ti.dj i j t u h1 h3 Z
 ·exact(h.ti.dj j i u t h3 h1 Z).symm
theorem GO.own(h:GO c m S Kk w P n0 n1 n2 n3 n4 n5 Bb Bu Bd Q QB Gd GB Ob OB tv tl V){j:Nat}(D:j<c.W+3):Cp o0 w.heap.size c.W P n1 n2 n3 n4 n5 V.heap.size tl (CC tl j)=(if j=0 then 8 else if j<=c.W then 10+j else if j=c.W+1 then 9 else 10)/\Cp o0 w.heap.size c.W P n1 n2 n3 n4 n5 V.heap.size tl (CC tl j+1)=0:=by
 obtain⟨t,h1,h2,_⟩:=h.get D;obtain⟨v,y,g3,g4⟩:=h.ti.el j t h1;have s:=h.grp.lt;have C:=v.2.2;have A:=h.lo;have B:=h.np.lt;rw[h2]at C y;have Y:=λi (N:i<c.W+3) (X:i≠j)=>h.apart N D X
 constructor
 ·unfold Cp;rw[Lb om,Lb om,Lb om,Lb om,Lb om,Lb om,Lb om]
  by_cases J:j=0
  ·subst J;rw[Lc rfl,Lc rfl]
  ·rw[Lb (by have:=Y 0 om (Ne.symm J);omega),Lb J]
   by_cases H:j=c.W+1
   ·subst H;rw[Lc rfl,Lb om,Lc rfl]
   ·rw[Lb (by have:=Y (c.W+1) om (Ne.symm H);omega)]
    by_cases I:j=c.W+2
    ·subst I;rw[Lc rfl,Lb om,Lb om]
    ·rw[Lb (by have:=Y (c.W+2) om (Ne.symm I);omega),Lc om];have U:∃i,i<c.W/\CC tl (i+1)=CC tl j:=⟨j-1,by omega,by rw[show j-1+1=j by omega]⟩;rw[dif_pos U];have hc:=Classical.choose_spec U;have:Classical.choose U+1=j:=Md λZ=>by
      have:=Y (Classical.choose U+1) om Z;omega
     omega
 ·unfold Cp;have Z:∀i,i<c.W+3->CC tl j+1≠CC tl i:=λi N e=>by
   by_cases X:i=j
   ·subst X;omega
   ·have:=Y i N X;omega
  rw[Lb om,Lb om,Lb om,Lb om,Lb om,Lb om,Lb om,Lb (Z 0 om),Lb (Z (c.W+1) om),Lb (Z (c.W+2) om),dif_neg λ⟨i,N,e⟩=>Z (i+1) om e.symm]
theorem GO.row(h:GO c m S Kk w P n0 n1 n2 n3 n4 n5 Bb Bu Bd Q QB Gd GB Ob OB tv tl V):∃g cap,tv=T (E ⟨g,0,O⟩) (c.W+3) cap/\c.W+3<=cap/\g<V.heap.size/\Cp o0 w.heap.size c.W P n1 n2 n3 n4 n5 V.heap.size tl g=0/\g≠P/\∀j t,tl[j]?=E t->V.cell? ⟨g,j,O⟩=E (ifV t):=by
 have s:=h.grp.lt;have H:=h.lo;have I:=h.np.lt
 rcases h.ti.row.2 with⟨_,h0⟩|⟨g,cap,B,e,v,U,X,y,A,Y⟩
 ·have:=h.len;omega
 ·rw[h.len]at e X Y;have D:=(AD.1 U).1;have Z:∀i,i<c.W+3->g≠CC tl i:=λi J C=>by
   obtain⟨t,h1,h2,_⟩:=h.get J;exact(h.ti.el i t h1).2.2.1 (by rw[e,h2,<-C];rfl)
  refine⟨g,cap,e,X,D,?_,by omega,λj t N=>?_⟩
  ·unfold Cp;rw[Lb om,Lb om,Lb om,Lb om,Lb om,Lb om,Lb om,Lb (Z 0 om),Lb (Z (c.W+1) om),Lb (Z (c.W+2) om),dif_neg λ⟨i,J,e⟩=>Z (i+1) om e.symm]
  ·have hj:j<c.W+3:=by rw[<-h.len];exact(AP.1 N).1
   have:(tl.map ifV)[j]?=E (ifV t):=by rw[BU,N];rfl
   rw[<-Y,MW om,Array.getElem?_toList]at this;simp only[cell?,U];exact this
def adN(P m S Kk Bb Bu Bd Q QB Gd GB Ob OB g cap W q:Nat)(tl:List Tk)(Wm:Wa):PAd:=
 ⟨P,m,S,Kk,Bb,Bu,Bd,Q,QB,Gd,GB,Ob,OB,g,cap,CC tl 0,λi=>CC tl (i+1),CC tl (W+1),CC tl (W+2),CC tl 0+1,λi=>CC tl (i+1)+1,CC tl (W+1)+1,CC tl (W+2)+1,q,Wm⟩
theorem ao8(h:GO c m S Kk w P n0 n1 n2 n3 n4 n5 Bb Bu Bd Q QB Gd GB Ob OB tv tl V){q:Nat}{Wm:Wa}{rs:La}{s:List TVw}{sa ka:Option Addr}{D sc kn kc:Nat}(ho:∀k,w.heap.size<=k->o0 k=1000000)(hs:BY (λk=>o0 k=2) S sa D sc s rs c.br 0 w)(B:D<=1000000)
  (hk:CN (λk=>o0 k=3) Kk ka kn kc (T O 0 0) c.ans [] 0 w) (hm:∀V,Fk q Wm V->Nz m c V) (J:Fk q Wm w) (hz:∀k,q<=k->k<Wm.heap.size->o0 k=0) (hr:1<=c.R) (hq:1<=c.Q) (a1:1<=c.O) :
  ∃g cap,AI (adN P m S Kk Bb Bu Bd Q QB Gd GB Ob OB g cap c.W q tl Wm) c (Cp o0 w.heap.size c.W P n1 n2 n3 n4 n5 V.heap.size tl) (Bn c rs) V:=by
 obtain⟨g,cap,v,r2,r3,r4,r5,r6⟩:=h.row (o0:=o0);subst v;have hl:=h.grp.lt;have a6:=h.lo;have a2:=h.np.lt;have a7:=h.below.size;obtain⟨A,hA⟩:∃A,adN P m S Kk Bb Bu Bd Q QB Gd GB Ob OB g cap c.W q tl Wm=A:=⟨_,rfl⟩;have X:∀k,k<w.heap.size->Cp o0 w.heap.size c.W P n1 n2 n3 n4 n5 V.heap.size tl k=o0 k:=λk hk=>Lc hk;have hcw:Chg (λ_=>False) w V:=.of_same h.below;refine⟨g,cap,λt C=>?_,λk hk=>?_⟩
 ·match t,C with
  |0,_=>
   have mk:∀j,j<c.W+3->∀f:Nat->Option Vh,(∀t,t=CY c.W P j t.a->t.a=CC tl j->t.f=f)->ES V (CC tl j+1) f/\Cp o0 w.heap.size c.W P n1 n2 n3 n4 n5 V.heap.size tl (CC tl j+1)=0:=λj hj f hf=>by obtain⟨t,h1,h2,h3⟩:=h.get hj;have:=(h.ti.el j t h1).1.2.1;rw[hf t h3 h2,h2]at this;exact⟨this,(h.own hj).2⟩
   refine⟨λt C=>?_,⟨r4,r3⟩,mk 0 om _ λt h1 h2=>?_,λi U=>mk (i+1) om _ λt h1 h2=>?_,mk (c.W+1) om _ λt h1 h2=>?_,mk (c.W+2) om _ λt h1 h2=>?_,⟨hm,J.below h.below,λk h1 h2=>by rw[X k (Af h2 J.1)];exact hz k h1 h2⟩,r2⟩
   ·obtain⟨u,h1,h2,h3⟩:=h.get C;refine(r6 t u h1).trans ?_;rw[h3,h2];unfold CY Mo adN
    by_cases t0:t=0
    ·subst t0;rfl
    ·rw[Lb t0,Lb t0]
     by_cases I:t<=c.W
     ·rw[Lc I,Lc I];show E (Value.iface _ (L (E ⟨CC tl t,0,O⟩)))=E (Value.iface _ (L (E ⟨CC tl (t-1+1),0,O⟩)));rw[show t-1+1=t by omega]
      rfl
     ·rw[Lb I,Lb I]
      by_cases H:t=c.W+1
      ·subst H;rw[Lc rfl,Lc rfl];rfl
      ·rw[Lb H,Lb H];obtain rfl:t=c.W+2:=by omega
       rfl
   ·rw[h1];unfold CY;rw[Lc rfl,h2];rfl
   ·rw[h1];unfold CY;rw[Lb om,Lc om,h2];rfl
   ·rw[h1];unfold CY;rw[Lb om,Lb om,Lc rfl,h2];rfl
   ·rw[h1];unfold CY;rw[Lb om,Lb om,Lb om,h2];rfl
  |1,_=>
   refine⟨T O 0 0,h.np.box,?_,CO.nil _ _ _ _,by simp[Value.ownBlock]⟩;show Cp o0 w.heap.size c.W P n1 n2 n3 n4 n5 V.heap.size tl P=1;unfold Cp;rw[Lb om,Lb om,Lc rfl]
  |2,_=>exact⟨sa,D,sc,s,(hs.keep hcw λ_ _ _ h=>h).wide λk hk Z=>by
    have N:k<w.heap.size:=Nat.lt_of_not_le λy=>by have:=ho k y;have Z:o0 k=2:=Z;omega
    exact(X k N).trans Z,B⟩
  |3,_=>exact⟨ka,kn,kc,T O 0 0,(hk.keep hcw λ_ _ _ h=>h).wide λk hk Z=>by
    have N:k<w.heap.size:=Nat.lt_of_not_le λy=>by have:=ho k y;have Z:o0 k=3:=Z;omega
    exact(X k N).trans Z⟩
  |4,_=>
   refine h.grp.buf.wide6 λk hk Z=>?_;show Cp o0 w.heap.size c.W P n1 n2 n3 n4 n5 V.heap.size tl k=4;unfold Cp;rw[Lb om,Lb om,Lb om,Lc Z]
  |5,_=>
   refine⟨0,_,h.grp.que.wide λk hk Z=>?_,CS,λi b U=>by simp[Bn]at U⟩;show Cp o0 w.heap.size c.W P n1 n2 n3 n4 n5 V.heap.size tl k=5;unfold Cp;rw[Lb om,Lb om,Lb om,Lb om,Lc Z]
  |6,_=>
   refine⟨_,h.grp.rng.wide λk hk Z=>?_,CS,CS,λi x U=>?_⟩
   ·show Cp o0 w.heap.size c.W P n1 n2 n3 n4 n5 V.heap.size tl k=6;unfold Cp;rw[Lb om,Lb om,Lb om,Lb om,Lb om,Lc Z]
   ·have Z:=Ho (List.mem_of_getElem? (show(List.replicate c.R (O:Option (List AF)))[i]?=E x from U));subst Z;exact⟨((O,0,0),M),List.getElem?_replicate_of_lt (Ek _ om),rfl⟩
  |7,_=>
   refine⟨0,_,h.grp.out.wide λk hk Z=>?_,CS,λi b U=>by simp[Bn]at U⟩;show Cp o0 w.heap.size c.W P n1 n2 n3 n4 n5 V.heap.size tl k=7;unfold Cp;rw[Lb om,Lb om,Lb om,Lb om,Lb om,Lb om,Lc Z]
  |8,_=>
   obtain⟨t,h1,h2,h3⟩:=h.get (j:=0) om;have Y:=(h.ti.el 0 t h1).1.1;rw[h3,h2]at Y;refine⟨T O 0 0,Y,?_,Cv.nil _ _,by simp[Value.ownBlock]⟩;exact(h.own (o0:=o0) (j:=0) om).1.trans (Lc rfl)
  |9,_=>
   obtain⟨t,h1,h2,h3⟩:=h.get (j:=c.W+1) om;have Y:=(h.ti.el _ t h1).1.1;rw[h3,h2]at Y;unfold CY at Y;rw[Lb om,Lb om,Lc rfl]at Y;refine⟨O,0,0,Y,?_,⟨⟨rfl,.inl rfl⟩,λh=>absurd rfl h⟩,AC _⟩;exact(h.own (o0:=o0) (j:=c.W+1) om).1.trans (by rw[Lb om,Lb om,Lc rfl])
  |10,_=>
   obtain⟨t,h1,h2,h3⟩:=h.get (j:=c.W+2) om;have Y:=(h.ti.el _ t h1).1.1;rw[h3,h2]at Y;unfold CY at Y;rw[Lb om,Lb om,Lb om]at Y;refine⟨Y,?_⟩;exact(h.own (o0:=o0) (j:=c.W+2) om).1.trans (by rw[Lb om,Lb om,Lb om])
  |i+11,_=>
   show CP (adN P m S Kk Bb Bu Bd Q QB Gd GB Ob OB g cap c.W q tl Wm) (Bn c rs) (λk=>Cp o0 w.heap.size c.W P n1 n2 n3 n4 n5 V.heap.size tl k=i+11) (λk=>Cp o0 w.heap.size c.W P n1 n2 n3 n4 n5 V.heap.size tl k=0) V i;unfold CP
   by_cases U:i<c.W
   ·have e:(Bn c rs).wk[i]?=E (wk0 1):=List.getElem?_replicate_of_lt U;rw[e];obtain⟨t,h1,h2,h3⟩:=h.get (j:=i+1) om;have Y:=(h.ti.el _ t h1).1.1;rw[h3,h2]at Y;unfold CY at Y;rw[Lb om,Lc om]at Y;refine⟨⟨0,0,0,O,0,0,0⟩,T O 0 0,Y,?_,⟨rfl,rfl,rfl,rfl,⟨⟨⟨rfl,.inl rfl⟩,λx Z=>by cases Z⟩,λh=>absurd rfl h⟩⟩,CO.nil _ _ _ _,by simp[Value.ownBlock],λ_ g hg=>by simp[Value.ownBlock]at hg⟩;exact(h.own (o0:=o0) (j:=i+1) om).1.trans (by rw[Lb om,Lc om];omega)
   ·have e:(Bn c rs).wk[i]?=O:=by show(List.replicate c.W (wk0 1))[i]?=O;simp;omega
    rw[e]
    trivial
 ·unfold Cp;rw[Lb om,Lc hk]
end
end
theorem ajG(a:Option Addr)(n c:Nat)(ans:List Bool)(w:Wa)(h:Sl1 i6 w a n ans)(A:n<=1000000) :Calls ZP 53 #[T a n c] w λe w'=>∃KB j s,e=ra (L (E ⟨KB,0,O⟩))/\CN (λk=>w.heap.size<=k) KB j n s (T O 0 0) ans [] 0 w'/\Bt w w':=by
 have HC:=AA (ahR a n c (ans.map i6) w (Jz h) (λu C=>by obtain⟨x,_,rfl⟩:=Be.1 C;rfl) A);have HL:=AA h.1;clear h;go_enter func53,ntmps53
 go_wp2_with (go_at_call 94;refine HC.out.mono ?_;rintro e Y ⟨v1,rfl,ho,H⟩;obtain⟨N,c1,V,_,X⟩:=SlK.own ho;subst V;have HO:=AA ho;have HS:=AA X;have J:=AA H;clear ho X H)
 go_ret;obtain⟨W,hW⟩:∃U,U=Y.alloc (i7 #[T N n c1,T O 0 0,R K 0] 113):=⟨_,rfl⟩;have Z:Bt Y W:=by rw[hW];exact AL _ _
 have D:W.heap[Y.heap.size]?=E (i7 #[T N n c1,T O 0 0,R K 0] 113 (0,0)):=by rw[hW];exact AT _ _
 refine⟨Y.heap.size,N,c1,rfl,⟨by rw[<-hW];exact D,J.out.size,?_,λh0 q B=>?_,CO.nil _ _ _ _,by simp[Value.ownBlock]⟩,by rw[<-hW];exact J.out.trans (Z.mono J.out.size)⟩
 ·refine⟨HL.out,?_⟩
  rcases HS.out.2 with h|⟨b,off,e,I,v⟩
  ·exact .inl h
  ·refine .inr ⟨b,off,e,by rw[<-hW];exact Af I Z.size,λi x y=>?_⟩;rw[<-hW,Z.cell (p:=⟨b,off+i,O⟩) I];exact v i _ (by rw[BU,y];rfl)
 ·subst B;have:=Gw HO.out q.block rfl;refine⟨this.1,by omega,by simp[Value.ownBlock]⟩
theorem Wds.rds{w:Wa}{a:Option Addr}{n:Nat}{Z:La}(h:Wds w a n Z):∃Y,aph w a n Y Z:=by obtain⟨Y,h1,h2,h3⟩:=h;exact⟨Y,h1,h2,λi v xs V X=>(h3 i v xs V X).1⟩
theorem amg{wk bl rg Y X Z fr:Int}(h:Ce wk bl rg Y X Z fr=G):∃W KB Ra Q Ob S F:Nat,wk=W/\bl=KB/\rg=Ra/\Y=Q/\X=Ob/\Z=S/\fr=F:=by have h:=Gi.1 h;exact⟨wk.toNat,bl.toNat,rg.toNat,Y.toNat,X.toNat,Z.toNat,fr.toNat,by omega,by omega,by omega,by omega,by omega,by omega,by omega⟩
theorem aok{c:CfM}(h:Ce c.W c.K c.R c.Q c.O c.S c.F=G)(Z:c.L<=32):OkC c:=by have h:=Gi.1 h;exact⟨by omega,by omega,by omega,by omega,by omega,by omega,by omega,by unfold CfM.wm;omega⟩
section
attribute[local go_sem] Oper.semAt_some
attribute[local simp] Ak Al
attribute[local go_sem] Ak Al
theorem aqv:(ZP.info? 126).map (λi=>(i.zero,i.size,i.bytes))=E (E (i8 #[R K 0,R K 0,R K 0,T O 0 0,R K 0]),5,56):=by kernel_rfl
theorem aqe(l m:List PcW):EY (l++m)=EY l++EY m:=by simp[EY]
def PF(w:Wa)(base:Nat)(v:Vh)(l:List PcW):Prop:=w.ownsRow base 126 5 v (lc l) (EY l)
def ar5(b base:Nat)(l:List PcW)(W:Wa):Prop:=∃v,Boxed W b 128 v/\PF W base v l
theorem aqg{α:Type}{B b base:Nat}{Pb:Nat->Wa->Wa->Prop}(D:base<=b)(N:∀r W J,Pb r W J->r<base)(f:α->List PcW):BT B Pb (λs W=>ar5 b base (f s) W):=by
 rintro s W J row ⟨v,Z,ho⟩ U V;have X:∀{k:Nat}{cs:Array Vh}{t:TypeId},W.heap[k]?=E (i7 cs t (0,0))->base<=k->row≠E k:=λ{k cs t} hk I e=>by
  rcases V k e with⟨_,o,h1,h2⟩|h
  ·rw[hk]at h1;cases h1;cases h2
  ·have:=N k _ _ h;omega
 refine⟨v,(U.block b Z.lt (λe=>X Z D e.symm)).trans Z,ho.kept U ?_⟩
 rcases ho.2 with⟨rfl,_⟩|⟨g,cap,A,rfl,H,Y,_⟩
 ·exact .inl rfl
 ·refine .inr λe=>?_;have C:row=E g:=by rw[<-e];rfl
  rcases V g C with⟨_,o,h1,h2⟩|h
  ·rw[Y]at h1;cases h1;cases h2
  ·have:=N g _ _ h;omega
theorem arf(V:Wa)(x:PcW):SlK 5 (V.alloc (i7 #[R K x.num,R K x.start,R K x.warm,T x.a x.m x.c,R K x.buf] 126)) (E ⟨V.heap.size,0,O⟩) 1 [R K x.num,R K x.start,R K x.warm,T x.a x.m x.c,R K x.buf]:=by
 refine⟨rfl,.inr ⟨V.heap.size,0,rfl,by simp,λi u Z=>?_⟩⟩;have:=GI (w:=V) #[R K x.num,R K x.start,R K x.warm,T x.a x.m x.c,R K x.buf] 126 rfl i u (by simpa using Z)
 rwa[Cf]at this
def pcA(x:PcW):Array Vh:=#[i8 #[R K x.num,R K x.start,R K x.warm,T x.a x.m x.c,R K x.buf]]
theorem aq0{gf:Nat}{lb:Array Vh}{B:Nat}{Pb:Nat->Wa->Wa->Prop}{S:List PcW->Wa->Prop}{Sp:List PcW->Prop}{N n₀:Nat}(w:Wa)
  (eg:∀args w,(callFunc gf args).run ZP w=.ok (.enter gf args) w)
  (a7:Hi Fence.wide 8 ZP gf lb pcA (KpB B) Pb S Sp N w) (hB:B<=w.heap.size) (y:∀r W W',Pb r W W'->r<w.heap.size) (hSk:∀(xs:List PcW)(W:Wa)(l:Nat)(o o':Obj),w.heap.size<=l->W.heap[l]?=E o->o.isCells=M->S xs W->S xs (W.putObj l o'))
  (a8:n₀<=w.heap.size) (ak:∀r W W',Pb r W W'->n₀<=r) (hN:N<=1000000000) (aj:∀xs W,S xs W->lc xs<=1000000000) :
  Calls ZP 172 #[T O 0 0,.func (.func gf) #[] lb] w λe w'=>∃v xs W,e=ra v/\S xs W/\(∃D,w.heap.size<=D/\w'=W.putObj D (.deferred O))/\PF w' w.heap.size v xs/\Below n₀ w w':=by
 obtain⟨i0,hi,ad,ac,ab⟩:=Ve aqv;obtain⟨W1,hW⟩:∃W,W=w.alloc (i7 #[T O 0 0] 128):=⟨_,rfl⟩;have U:Below w.heap.size w W1:=by rw[hW];exact AL _ _
 have bS:Boxed W1 w.heap.size 128 (T O 0 0):=by rw[hW];exact Boxed.new _ _ _
 have ag:W1.heap.size=w.heap.size+1:=by rw[hW];simp
 have a6:Hi Fence.wide 8 ZP gf lb pcA (KpB B) Pb S Sp N W1:=λl J Jx W hb=>a7 l J Jx W (U.trans (hb.mono U.size));refine Hc func172 rfl ?_;simp only[ntmps172,Cw,Ao,Bw,Nat.reduceAdd,Nat.reduceSub,Dd,Dc,DX,Da,Av,CT];go_upto_region 1 with fail
 rw[<-hW];clear hW a7;go_wp2;obtain⟨g,hg⟩:∃g,w.heap.size=g:=⟨_,rfl⟩;rw[hg]at bS ag U hB y hSk a8⊢;have HG:=AA hg
 apply NL rfl eg a6 (λr W W' hr=>by have:=y r W W' hr;omega) (λxs W l o o' hl=>hSk xs W l o o' om) KpB.t ?hKb (λ_=>rfl)
  (λH V=>ar5 g g H V/\Below n₀ w V/\W1.heap.size<=V.heap.size)
  (λ_ _ _=>False)
 case hKb=>exact λW l o o' hl _ _ _=>⟨by simp[World.putObj],λk h1 _=>Cm om⟩
 case wA=>exact λx W=>W.alloc (i7 #[R K x.num,R K x.start,R K x.warm,T x.a x.m x.c,R K x.buf] 126)
 case hwA=>exact λx W=>AL _ _
 case hKg=>exact λx W hW=>KpB.of_below ((AL _ _).mono om)
 case hI=>exact BT.and (aqg (AC _) y id) (BT.and (BT.below om om ak) (BT.size _ _ _))
 case hIx=>exact λ_ _ _ _ _ hs _ _=>hs
 case h0=>exact⟨⟨_,bS,BN _ _ _ _⟩,U.mono a8,AC _⟩
 case hassign=>
  intro l x W KB hK;unfold pcA
  gi_wp2
  exact hK
 case hbody=>
  rintro l H x I V al ⟨⟨v,hv,Z⟩,s,a1⟩ am
  try dsimp only
  have Y:=al.2 I.heap.size _ _ _ (AT I (i7 #[R K x.num,R K x.start,R K x.warm,T x.a x.m x.c,R K x.buf] 126));have aw:V.cell? ⟨I.heap.size,0,O⟩=E (R K x.num):=by simp[cell?,Y]
  have au:V.cell? ⟨I.heap.size,1,O⟩=E (R K x.start):=by simp[cell?,Y]
  have ar:V.cell? ⟨I.heap.size,2,O⟩=E (R K x.warm):=by simp[cell?,Y]
  have aq:V.cell? ⟨I.heap.size,3,O⟩=E (T x.a x.m x.c):=by simp[cell?,Y]
  have ap:V.cell? ⟨I.heap.size,4,O⟩=E (R K x.buf):=by simp[cell?,Y]
  have k2:I.heap.size<V.heap.size:=(AD.1 Y).1;obtain⟨m,C⟩:∃m,lc H=m:=⟨_,rfl⟩;have ax:m<=1000000001:=by omega
  unfold PF at Z;rw[C]at Z;have j:=AA C;clear C;obtain⟨av,cv,rfl,ai,af⟩:=SlK.own Z;have c2:=hv.cell;have ay:=hv.lt;clear Y
  gi_wp2_with (gi_at_builtin;refine aa2 _ rfl _ _ 128 rfl g 126 i0 (i8 #[.int .i64 0,.int .i64 0,.int .i64 0,.slice O 0 0,.int .i64 0]) 5 56 underlying128 hi ad ac ab rfl (by decide) _ _ _ rfl (Z.alloc _) (E ⟨V.heap.size,0,O⟩) 1 1 [.int .i64 x.num,.int .i64 x.start,.int .i64 x.warm,.slice x.a x.m x.c,.int .i64 x.buf] rfl (arf V x) (by simp[Value.oneCell']) (by unfold maxLen;omega) om (by simp;omega) ?_;intro v' w5 X A az;obtain⟨g',ao,rfl⟩:=ownsRow_succ X;obtain⟨b1,b2,b3,b4,b5⟩:=hv.appended (Lj kr) Z om (AC _) X A;have d1:=b1.cell;have d2:=b1.frozen;have d3:=b1.lt)
  refine⟨b4.from _,?_,⟨_,b2,?_⟩,s.trans (b5.mono om),AS a1 (by have:=b5.size;simpa using this)⟩
  ·exact KpB.of_below (b5.mono om)
  ·unfold PF;rw[List.length_append,j.out,aqe];exact b3
 case hstop=>exact λ_ _ _ _ _ _ h _=>h.elim
 case hdone=>
  rintro D xs V hD hS ⟨⟨v,hv,Z⟩,s,a1⟩ aa;have ae:=aj xs V hS;obtain⟨m,C⟩:∃m,lc xs=m:=⟨_,rfl⟩;unfold PF at Z;rw[C]at Z ae;have j:=AA C;clear C;obtain⟨av,cv,rfl,ai,af⟩:=SlK.own Z;have c2:=hv.cell;have a2:=ownsRow_putObj Z (.deferred O) aa rfl;have HS:=AA hS;clear Z hS;go_wp2;refine Gg rfl aa (results_tmp rfl _ _ _) ⟨_,xs,V,rfl,HS.out,⟨D,by omega,rfl⟩,?_,FZ s om om _⟩;unfold PF;rw[j.out,HG.out];exact a2
theorem aqa{U:Nat}{C:Array Vh}{B:Nat}{Pb:Nat->Wa->Wa->Prop}{S:List PcW->Wa->Prop}{Sp:List PcW->Prop}{N J:Nat}(w:Wa)
  (eg:∀args w,(callFunc U args).run ZP w=.ok (.enter U args) w)
  (Z:Hi Fence.wide 8 ZP U C pcA (KpB B) Pb S Sp N w) (hB:B<=w.heap.size) (V:∀r W H,Pb r W H->r<w.heap.size) (hSk:∀(xs:List PcW)(W:Wa)(l:Nat)(o o':Obj),w.heap.size<=l->W.heap[l]?=E o->o.isCells=M->S xs W->S xs (W.putObj l o'))
  (I:J<=w.heap.size) (X:∀r W H,Pb r W H->J<=r) (j:N<=1000000000) (Y:∀xs W,S xs W->lc xs<=1000000000) :
  Calls ZP 120 #[.func (.func U) #[] C] w λe w'=>∃v xs W,e=ra v/\S xs W/\(∃D,w.heap.size<=D/\w'=W.putObj D (.deferred O))/\PF w' w.heap.size v xs/\Below J w w':=by
 have HC:=AA (aq0 w eg Z hB V hSk I X j Y);clear Z V hSk X Y;go_enter func120,ntmps120
 go_wp2_with fail
 refine HC.out.mono ?_;rintro e w1 ⟨v,xs,W,rfl,s,hD,A,y⟩;go_wp2;go_ret;exact⟨v,xs,W,rfl,s,hD,A,y⟩
end
section
attribute[local go_sem] Oper.semAt_some
attribute[local simp] Ak Al
attribute[local go_sem] Ak Al
def qlP(Z:List PcW)(first many:Nat):List PcW:=(List.range many).map λi=>Z.getD ((first+i) % lc Z) ⟨0,0,0,O,0,0,0⟩
theorem aqW{Z:List PcW}{first many j:Nat}(h:j<many):(qlP Z first many).take (j+1)=(qlP Z first many).take j++[Z.getD ((first+j) % lc Z) ⟨0,0,0,O,0,0,0⟩]:=by
 have Y:(qlP Z first many)[j]?=E (Z.getD ((first+j) % lc Z) ⟨0,0,0,O,0,0,0⟩):=by
  unfold qlP;rw[BU,It h]
  rfl
 exact As Y
theorem aqb{X:Nat->Prop}(p Q B first many:Nat)(closed:Bool)(C:List PcW)(I m:Nat)(w:Wa)(hp:w.heap[p]?=E (i7 #[L (E ⟨Q,0,O⟩)] 269 (0,0)))(y:Ab X Q B first many closed C w)(ac:p<I)(af:Q<I)(ag:B<I)(hB:I<=w.heap.size) :Hi Fence.wide m ZP 173 #[L (E ⟨p,0,O⟩)] pcA (KpB I) (λ_ _ _=>False) (λxs _=>xs=qlP C first many) (λ_=>True) 1000001 w:=by
 intro lo J Jx W hW hJ am hY h0;have base:Hid (∀V,(w.heap.size<=V.heap.size/\∀k,k<I->V.heap[k]?=w.heap[k]?)->V.cell? ⟨p,0,O⟩=E (L (E ⟨Q,0,O⟩))/\Ab X Q B first many closed C V):=λV hV=>by have e1:=(hV.2 p ac).trans hp;exact⟨by simp[cell?,e1],(hV.2 Q af).trans y.box,(hV.2 B ag).trans y.places,y.inX,y.ne,y.room⟩
 have a2:Hid (w.heap.size<=W.heap.size/\∀k,k<I->W.heap[k]?=w.heap[k]?):=⟨hW.size,λk hk=>hW.block k om⟩;have aa:=AA hB;obtain⟨r1,r2,r3,r4⟩:=y.room;obtain⟨LO,hL⟩:∃LO,lc C=LO:=⟨_,rfl⟩;have HL:=AA hL;rw[hL]at r1 r2 r3 r4;clear hp y hL;obtain⟨c1,Z⟩:=base.out W a2.out;have c2:W.cell? ⟨Q,2,O⟩=E (R K (many:Int)):=by simp[cell?,Z.box]
 clear Z;refine callsIn_of_wp func173 rfl trivial ?_ rfl;simp only[ntmps173,Cw,Ao,Bw,Nat.reduceAdd,Nat.reduceSub,Dd,Dc,DX,Da,Av,CT]
 gi_wp2
 clear c1 c2
 gi_loopw[8] (λi wr=>∃(j:Nat)(pre:List PcW),j<=many/\i=R K j/\Hid (pre=(qlP C first many).take j)/\J pre wr/\Hid (w.heap.size<=wr.heap.size/\∀k,k<I->wr.heap[k]?=w.heap[k]?)) (λi _=>many-(intOf i).toNat)
 case atStart=>exact⟨0,[],AR _,rfl,rfl,h0,a2⟩
 case round=>
  obtain⟨j,pre,hk,rfl,HP,hj,D⟩:=hrel
  by_cases H:j<many
  ·have ad:decide ((j:Int)<(many:Int))=G:=by simp;omega
   have al:decide (j<many)=G:=by simp;omega
   obtain⟨b1,Z⟩:=base.out wr D.out;have hl:=HL.out;have b2:wr.cell? ⟨Q,0,O⟩=E (T (E ⟨B,0,O⟩) LO LO):=by simp[cell?,Z.box,hl]
   have b3:wr.cell? ⟨Q,1,O⟩=E (R K (first:Int)):=by simp[cell?,Z.box]
   have e1:IntKind.i64.wrap ((first:Int)+(j:Int))=((first+j:Nat):Int):=by rw[BK];omega
   have e2:((first+j:Nat):Int).tmod (LO:Int)=(((first+j) % LO:Nat):Int):=by rw[Jq om];simp
   have A:(first+j) % LO<LO:=Ek _ om;obtain⟨x,hx⟩:∃x,C[(first+j) % LO]?=E x:=⟨_,Ar om⟩;obtain⟨y0,y1,y2,y3,y4⟩:=ag4 hx;have HS:Hid (pre++[x]=(qlP C first many).take (j+1)):=by rw[Hid,HP.out,aqW H,hl,DZ,hx];rfl
   have Y:lc pre<1000001:=by rw[HP.out,Ag];omega
   obtain⟨s,hs⟩:∃s,first+j=s:=⟨_,rfl⟩;rw[hs]at e1 e2 A y0 y1 y2 y3 y4;obtain⟨i,hi⟩:∃i,s % LO=i:=⟨_,rfl⟩;rw[hi]at e2 A y0 y1 y2 y3 y4;have x0:wr.cell? ⟨B,i*5,O⟩=E (R K x.num):=by simp[cell?,Z.places];exact y0
   have x1:wr.cell? ⟨B,i*5+1,O⟩=E (R K x.start):=by simp[cell?,Z.places];exact y1
   have x2:wr.cell? ⟨B,i*5+2,O⟩=E (R K x.warm):=by simp[cell?,Z.places];exact y2
   have x3:wr.cell? ⟨B,i*5+3,O⟩=E (T x.a x.m x.c):=by simp[cell?,Z.places];exact y3
   have x4:wr.cell? ⟨B,i*5+4,O⟩=E (R K x.buf):=by simp[cell?,Z.places];exact y4
   have i1:(0:Int)<=(i:Int):=by omega
   have i2:(i:Int)<(LO:Int):=by omega
   have z0:¬(LO:Int)=0:=by omega
   have z1:¬LO=0:=by omega
   have aj:=AA hj;have ai:=AA Y;have a8:=AA H;clear hx y0 y1 y2 y3 y4 Z hl hs hi hj Y H
   gi_wp2
   refine Ld (FL _ _) 19 mixed kr kr ?_;dsimp only[List.take_succ_cons,List.take_zero,List.drop_succ_cons,List.drop_zero]
   repeat (go_big_quiet_step (fail))
   refine wpQuiet_nil ?_;rintro _ ⟨v,rfl⟩;have N:Bt wr (wr.drewN v):=⟨rfl,rfl,rfl,AC _,λ_ _=>rfl⟩;obtain⟨W4,a7⟩:∃X,X=wr.drewN v:=⟨_,rfl⟩;rw[<-a7]at N⊢;clear a7;have a6:=Jf hJ aj.out N;have U:Hid (w.heap.size<=W4.heap.size/\∀k,k<I->W4.heap[k]?=w.heap[k]?):=
    ⟨AS D.out.1 N.size,λk hk=>(N.block k (by have:=D.out.1;have:=aa.out;omega)).trans (D.out.2 k hk)⟩
   obtain⟨fn,tmps,assign,body,ab,ae⟩:=hY pre x W4 a6 ai.out;dsimp only[pcA]at ab;clear b1 b2 b3 x0 x1 x2 x3 x4 N a6
   gi_wp2
   refine ae.mono ?_;rintro e W5 (⟨rfl,hJ4,hk4⟩|⟨rfl,hJx4⟩)
   ·have a1:Hid (w.heap.size<=W5.heap.size/\∀k,k<I->W5.heap[k]?=w.heap[k]?):=⟨AS U.out.1 hk4.1,λk hk=>(hk4.2 k hk (by have:=U.out.1;have:=aa.out;omega)).trans (U.out.2 k hk)⟩;have ak:=AA hJ4;clear hk4 hJ4
    gi_wp2
    go_roundw
    case rel=>exact⟨j+1,_,a8.out,by go_num,HS,ak.out,a1⟩
    case measure=>
     have:=a8.out;simp[intOf];omega
   ·gi_wp2
    refine Vf (results_none rfl _ _ _) rfl ?_;exact⟨⟨_,rfl⟩,.inr ⟨_,trivial,hJx4⟩⟩
  ·obtain rfl:j=many:=by omega
   have ad:decide ((j:Int)<(j:Int))=M:=by simp
   have HF:Hid (pre=qlP C first j):=by
    have h:=HP.out
    rwa[Ap (by unfold qlP;simp)]at h
   clear H
   gi_wp2
   go_end0
   exact⟨⟨_,rfl⟩,.inl ⟨pre,HF.out,hj⟩⟩
theorem aqC(Q:Nat)(w:Wa) :Calls ZP 121 #[L (E ⟨Q,0,O⟩)] w λe w'=>e=ra (.func (.func 173) #[] #[L (E ⟨w.heap.size,0,O⟩)])/\w'=w.alloc (i7 #[L (E ⟨Q,0,O⟩)] 269):=by go_enter func121,ntmps121;go_wp2;go_ret;exact⟨rfl,rfl⟩
theorem aqK{X:Nat->Prop}{Q B first many:Nat}{closed:Bool}{U:List PcW}(w:Wa)(h:Ab X Q B first many closed U w) :Calls ZP 73 #[L (E ⟨Q,0,O⟩)] w λe w'=>∃v,e=ra v/\PF w' w.heap.size v (qlP U first many)/\Bt w w':=by
 have D:=AA (aqC Q w);obtain⟨W,hW⟩:∃W,W=w.alloc (i7 #[L (E ⟨Q,0,O⟩)] 269):=⟨_,rfl⟩;rw[<-hW]at D;have hB:Bt w W:=by rw[hW];exact AL _ _
 have N:W.heap[w.heap.size]?=E (i7 #[L (E ⟨Q,0,O⟩)] 269 (0,0)):=by rw[hW];exact AT _ _
 have Y:=h.below hB;have Z:=aqb (X:=X) w.heap.size Q B first many closed U W.heap.size 8 W N Y (AD.1 N).1 (AD.1 Y.box).1 (AD.1 Y.places).1 (AC _);have C:=h.room;have y:=AA (aqa W (Vg func173 kr rfl) Z (AC _) (λ_ _ _ h=>h.elim) (λ_ _ _ _ _ _ _ _ h=>h) (AC _) (λ_ _ _ h=>h.elim) om (λxs V h=>by rw[h];unfold qlP;simp;omega));have I:=AA hB;clear h hW hB N Y Z C;go_enter func73,ntmps73
 go_wp2_with fail
 refine D.out.mono ?_;rintro e j ⟨rfl,rfl⟩
 go_wp2_with fail
 refine y.out.mono ?_;rintro e s ⟨v,xs,V,rfl,rfl,_,ho,H⟩;have A:=AA ho;have J:=AA H;clear ho H;go_wp2;go_ret;exact⟨v,rfl,NC A.out I.out.size,I.out.trans (J.out.mono I.out.size)⟩
end
theorem PS(Ta:Nat)(a:Int)(w:Wa)(h:w.cell? ⟨Ta,1,O⟩=E (.int .u8 a)) :Calls ZP 320 #[L (E ⟨Ta,0,O⟩)] w λe w'=>e=ra (.int .u8 a)/\Bt w w':=by have Z:=AA (AH w.heap.size w);go_enter func320,ntmps320;go_wp2;go_ret;exact⟨rfl,Z.out⟩
def phT(c:CfM)(s:PlM)(t:Nat):Nat:=if t=0 then s.rd.ph else if t<=c.W then phW s (t-1) else if t=c.W+1 then s.mph else s.eph
theorem aqx{A:PAd}{c:CfM}{s:PlM}{o:Nat->Nat}(w:Wa)(h:AI A c o s w)(Y:OkC c)(V:lc s.wk=c.W)(t:Nat)(X:t<c.W+3):Calls ZP 320 #[L (E ⟨adT A c t,0,O⟩)] w λe w'=>e=ra (.int .u8 (phT c s t:Nat))/\Bt w w':=by
 unfold phT adT
 split
 ·exact PS _ _ w h.tcR.c1
 ·split
  ·have Z:t-1<lc s.wk:=by omega
   rw[IZ (Ar Z)];exact PS _ _ w (h.tcW (Ar Z) (by have:=Y.W;omega)).c1
  ·split
   ·exact PS _ _ w h.tcM.c1
   ·exact PS _ _ w h.tcE.c1
def phF(c:CfM)(s:PlM)(i:Nat):List Int:=(List.range i).map λt=>(phT c s t:Int)
theorem aqX(c:CfM)(s:PlM)(i:Nat):phF c s (i+1)=phF c s i++[(phT c s i:Int)]:=by unfold phF;rw[El,Aj];rfl
theorem aqN(c:CfM)(s:PlM)(i:Nat):(phF c s i).length=i:=by simp[phF]
theorem aqP{w:Wa}{base n size:Nat}{e:TypeId}{v:Vh}{xs:List Vh}(h:w.ownsRow base e size v n xs):∃a Z,v=T a n Z:=by
 rcases h.2 with⟨rfl,rfl⟩|⟨g,cap,Y,rfl,_⟩
 ·exact⟨_,_,rfl⟩
 ·exact⟨_,_,rfl⟩
theorem ara{Z:Nat->Prop}{w:Wa}{X:List PcW}{first n:Nat}{q:List Bc}(V:lc X=n)(h:∀i b,q[i]?=E b->∃p,X[(first+i) % n]?=E p/\PcD Z w p b):(qlP X first (lc q)).map (λp=>p.num)=q.map λb=>(b.num:Int):=by
 refine Hn λi=>?_;unfold qlP;rw[List.map_map,BU,BU]
 by_cases Y:i<lc q
 ·rw[It Y,Ar Y];obtain⟨p,h1,h2⟩:=h i _ (Ar Y);simp only[Dw,Function.comp,DZ,V,h1,CG,h2.1]
 ·rw[GT (by simpa using Y),GT (by simpa using Y)]
  rfl
structure VwL(X1:World)(p f:Nat)(C:Array Value)(e:TypeId)(v:Value)(n:Nat)(xs:List Value)(w:World):Prop where
 c:Chg (λk=>k=p) X1 w
 b:w.heap[p]?=some (.cells (C.setIfInBounds f v) 63 (0,0))
 r:w.ownsRow X1.heap.size e 1 v n xs
theorem VwL.bel{X Y U:Wa}{p f n:Nat}{C:Array Vh}{e:TypeId}{v:Vh}{xs:List Vh}(h:VwL X p f C e v n xs Y)(Z:Bt Y U):VwL X p f C e v n xs U:=⟨h.c.same Z,(Z.block p (AD.1 h.b).1).trans h.b,Fu h.r λk hk=>Z.block k (Gw h.r k hk).2⟩
theorem VwL.cell{X Z:Wa}{p f n:Nat}{C:Array Vh}{e:TypeId}{v:Vh}{xs:List Vh}(h:VwL X p f C e v n xs Z)(Y:f<C.size):Z.cell? ⟨p,f,O⟩=E v:=by simp[cell?,h.b,Y]
theorem VwL.app{V U0 U:Wa}{p f q n bytes:Nat}{C:Array Vh}{e t ty:TypeId}{i:TypeInfo}{z v x:Vh}{xs:List Vh}(h:VwL V p f C e v n xs U0)(hp:p<V.heap.size)(hf:f<C.size)(D:Bt U0 U)(hq:U.heap[q]?=E (i7 #[x] e (0,0)))(hx:x.oneCell'=G)(hn:n<=1000000)(ht:ZP.underlying t=E (.slice e))(hi:ZP.info? e=E i)(hz:i.zero=E z)(hs:i.size=1)(a6:i.bytes=bytes)(hB:bytes<=8)(A:z.cells.size=1) :∃J c1 Z,(Builtin.append_ #[t,t] ty #[v,T (E ⟨q,0,O⟩) 1 1]).run ZP U=.ok (T J (n+1) c1) Z/\Chg (λk=>k=p) V Z/\Z.frozen? ⟨p,f,O⟩=M/\Z.cell? ⟨p,f,O⟩=E v/\VwL V p f C e (T J (n+1) c1) (n+1) (xs++[x]) (Z.setCell ⟨p,f,O⟩ (T J (n+1) c1)):=by
 have a8:=D.size;have h0:=h.c.size;have a2:=(D.block p om).trans h.b;have Y:U.ownsRow V.heap.size e 1 v n xs:=Fu h.r λk hk=>D.block k (Gw h.r k hk).2;have s:SlK 1 U (E ⟨q,0,O⟩) 1 [x]:=⟨rfl,.inr ⟨q,0,rfl,(AD.1 hq).1,λj u N=>by
  match j,N with
  |0,N=>cases N;simp[cell?,hq]⟩⟩
 obtain⟨v',Z,hr,ho,hg,a7⟩:=Gu (P:=ZP) U V.heap.size t ty e i z 1 bytes ht hi hz hs a6 A (by decide) v n xs Y (E ⟨q,0,O⟩) 1 1 [x] s (λu N=>by simp at N;subst N;exact hx) (by unfold maxLen;omega) (AS (Nat.mul_le_mul_left _ hB) om) om;obtain⟨J,c1,y,_,_⟩:=SlK.own ho;subst y;have I:v.ownBlock≠E p:=λe2=>by have:=(Gw Y p e2).1;omega
 have X:=(hg.block p om λe2=>I e2.symm).trans a2;have H:Chg (λk=>k=p) V Z:=(h.c.same D).grown hg λg e2 hl=>by have:=(Gw Y g e2).1;omega
 refine⟨J,c1,Z,hr,H,by simp[frozen?,X],by simp[cell?,X,hf],H.set rfl,?_,?_⟩
 ·have:=AJ (i:=f) X (T J (n+1) c1)
  simpa using this
 ·refine Fu ho λk hk=>AQ Z ⟨p,f,O⟩ _ k λe2=>?_;have e2:k=p:=e2
  rcases a7 with B|B
  ·exact I (by rw[<-B,hk,e2])
  ·rw[hk]at B;have:=AK B;omega
theorem aqU:(ZP.info? 5).map (λi=>(i.zero,i.size,i.bytes))=E (E (.int .u8 0),1,1):=by kernel_rfl
theorem aqM:(ZP.info? 3).map (λi=>(i.zero,i.size,i.bytes))=E (E (R K 0),1,8):=by kernel_rfl
theorem Pa{w:Wa}{base n size p:Nat}{e t:TypeId}{v:Vh}{xs:List Vh}{C:Array Vh}(h:w.ownsRow base e size v n xs)(Y:w.heap[p]?=E (i7 C t (0,0)))(X:e≠t):v.ownBlock≠E p:=λe2=>by
 rcases h.2 with⟨rfl,_⟩|⟨g,cap,V,rfl,U,Z,_⟩
 ·cases e2
 ·cases e2
  rw[Y]at Z
  cases Z
  exact X rfl
theorem PI{w w':Wa}{base n size p:Nat}{e:TypeId}{v:Vh}{xs:List Vh}(h:w.ownsRow base e size v n xs)(Y:Chg (λk=>k=p) w w')(Z:v.ownBlock≠E p):w'.ownsRow base e size v n xs:=Fu h λk hk=>Y.block k (Gw h k hk).2 λe=>Z (by rw[hk,e])
theorem arg(N U V X Z:Int)(a4 B:Option Addr)(I c4 J H:Nat)(C D Y:Bool):ZP.built 63 [(1,R K N),(2,R K U),(4,T a4 I c4),(5,R K V),(6,T B J H),(7,R K X),(8,i6 C),(9,i6 D),(10,i6 Y),(11,R K Z)]=E #[T O 0 0,R K N,R K U,T O 0 0,T a4 I c4,R K V,T B J H,R K X,i6 C,i6 D,i6 Y,R K Z]:=by kernel_rfl
section
attribute[local go_sem] Oper.semAt_some
attribute[local simp] Ak Al
attribute[local go_sem] Ak Al
def Oy(us:List Bool):Nat->List Int
 |0=>[]
 |j+1=>Oy us j++(if us.getD j M then [(j:Int)] else [])
theorem PN(us:List Bool):∀j,(Oy us j).length<=j
 |0=>AC _
 |j+1=>by
  have:=PN us j;unfold Oy;rw[List.length_append]
  split<;>simp<;>omega
theorem aq6(p B U:Nat)(fv sv dv:Vh)(us:List Bool)(H m:Nat)(w:Wa)(hp:w.heap[p]?=E (i7 #[L (E ⟨B,0,O⟩)] 104 (0,0)))(D:w.heap[B]?=E (i7 #[fv,sv,T (E ⟨U,0,O⟩) (lc us) (lc us),dv] 210 (0,0)))(hu:w.heap[U]?=E (i7 (us.map i6).toArray 4 (0,0)))(ab:lc us<=1000000)(a6:p<H)(ac:B<H)(a8:U<H)(hB:H<=w.heap.size) :Hi Fence.wide m ZP 171 #[L (E ⟨p,0,O⟩)] Kg (KpB H) (λ_ _ _=>False) (λxs _=>xs=Oy us (lc us)) (λ_=>True) 1000001 w:=by
 intro lo J Jx W hW hJ ai hY h0;obtain⟨LO,hL⟩:∃LO,lc us=LO:=⟨_,rfl⟩;rw[hL]at D ab⊢;have base:Hid (∀V:Wa,(w.heap.size<=V.heap.size/\∀k,k<H->V.heap[k]?=w.heap[k]?)->V.cell? ⟨p,0,O⟩=E (L (E ⟨B,0,O⟩))/\V.cell? ⟨B,2,O⟩=E (T (E ⟨U,0,O⟩) LO LO)/\∀i y,us[i]?=E y->V.cell? ⟨U,i,O⟩=E (i6 y)):=λV hV=>by have e1:=(hV.2 p a6).trans hp;have e2:=(hV.2 B ac).trans D;have e3:=(hV.2 U a8).trans hu;exact⟨by simp[cell?,e1],by simp[cell?,e2],λi y C=>by simp[cell?,e3,C]⟩
 have v:Hid (w.heap.size<=W.heap.size/\∀k,k<H->W.heap[k]?=w.heap[k]?):=⟨hW.size,λk hk=>hW.block k om⟩;have af:=AA hB;have HL:=AA hL;clear hp D hu hL;obtain⟨c1,c2,_⟩:=base.out W v.out;refine callsIn_of_wp func171 rfl trivial ?_ rfl;simp only[ntmps171,Cw,Ao,Bw,Nat.reduceAdd,Nat.reduceSub,Dd,Dc,DX,Da,Av,CT]
 gi_wp2
 clear c1 c2
 gi_loopw[10] (λi wr=>∃(j:Nat)(pre:List Int),j<=LO/\i=R K j/\Hid (pre=Oy us j)/\J pre wr/\Hid (w.heap.size<=wr.heap.size/\∀k,k<H->wr.heap[k]?=w.heap[k]?)) (λi _=>LO-(intOf i).toNat)
 case atStart=>exact⟨0,[],AR _,rfl,rfl,h0,v⟩
 case round=>
  obtain⟨j,pre,hk,rfl,HP,hj,X⟩:=hrel
  by_cases N:j<LO
  ·have a7:decide ((j:Int)<(LO:Int))=G:=by simp;omega
   have ag:decide (j<LO)=G:=by simp;omega
   obtain⟨_,_,b3⟩:=base.out wr X.out;obtain⟨y,C⟩:∃y,us[j]?=E y:=⟨_,Ar (by rw[HL.out];exact N)⟩;have x0:=b3 j y C;have Z:Oy us (j+1)=Oy us j++(if y then [(j:Int)] else []):=by
    show Oy us j++_=_;rw[DZ,C]
    rfl
   have Y:lc pre<1000001:=by rw[HP.out];have:=PN us j;omega
   have i1:(0:Int)<=(j:Int):=by omega
   have i2:(j:Int)<(LO:Int):=by omega
   have s:=AA Z;have I:=AA N;have ad:=AA Y;have a1:=AA hj;clear b3 C Z Y N hj
   cases y with
   |false=>
    gi_wp2
    go_roundw
    case rel=>exact⟨j+1,pre,I.out,by go_num,by rw[Hid,s.out,HP.out];simp,a1.out,X⟩
    case measure=>
     have:=I.out;simp[intOf];omega
   |true=>
    obtain⟨fn,tmps,assign,body,a2,aa⟩:=hY pre (j:Int) wr a1.out ad.out;dsimp only[Kg]at a2
    gi_wp2
    refine aa.mono ?_;rintro e W5 (⟨rfl,hJ4,hk4⟩|⟨rfl,hJx4⟩)
    ·have A:Hid (w.heap.size<=W5.heap.size/\∀k,k<H->W5.heap[k]?=w.heap[k]?):=⟨AS X.out.1 hk4.1,λk hk=>(hk4.2 k hk (by have:=X.out.1;have:=af.out;omega)).trans (X.out.2 k hk)⟩;have ae:=AA hJ4;clear hk4 hJ4
     gi_wp2
     go_roundw
     case rel=>exact⟨j+1,_,I.out,by go_num,by rw[Hid,s.out,HP.out];simp,ae.out,A⟩
     case measure=>
      have:=I.out;simp[intOf];omega
    ·gi_wp2
     refine Vf (results_none rfl _ _ _) rfl ?_;exact⟨⟨_,rfl⟩,.inr ⟨_,trivial,hJx4⟩⟩
  ·obtain rfl:j=LO:=by omega
   have a7:decide ((j:Int)<(j:Int))=M:=by simp
   clear N
   gi_wp2
   go_end0
   exact⟨⟨_,rfl⟩,.inl ⟨pre,HP.out,hj⟩⟩
theorem aqi(B:Nat)(w:Wa) :Calls ZP 118 #[L (E ⟨B,0,O⟩)] w λe w'=>e=ra (.func (.func 171) #[] #[L (E ⟨w.heap.size,0,O⟩)])/\w'=w.alloc (i7 #[L (E ⟨B,0,O⟩)] 104):=by go_enter func118,ntmps118;go_wp2;go_ret;exact⟨rfl,rfl⟩
theorem aqz{X:Nat->Prop}{B U D size:Nat}{fr:List Int}{us:List Bool}{ds:La}(w:Wa)(h:DM X B U D size fr us ds w)(s:lc us<=1000000) :Calls ZP 69 #[L (E ⟨B,0,O⟩)] w λe w'=>∃v,e=ra v/\FR w' w.heap.size v (Oy us (lc us))/\Bt w w':=by
 obtain⟨y,fv,dv,h⟩:=h;have A:=AA (aqi B w);obtain⟨W,hW⟩:∃W,W=w.alloc (i7 #[L (E ⟨B,0,O⟩)] 104):=⟨_,rfl⟩;rw[<-hW]at A;have hB:Bt w W:=by rw[hW];exact AL _ _
 have J:W.heap[w.heap.size]?=E (i7 #[L (E ⟨B,0,O⟩)] 104 (0,0)):=by rw[hW];exact AT _ _
 have N:=h.keep (Y:=λ_=>False) (.of_same hB) λ_ _ _ h=>h;have Z:=aq6 w.heap.size B U _ _ _ us W.heap.size 8 W J N.box N.used s (AD.1 J).1 (AD.1 N.box).1 (AD.1 N.used).1 (AC _);have HC:=AA (aex W (Vg func171 kr rfl) Z (AC _) (λ_ _ _ h=>h.elim) (λ_ _ _ _ _ _ _ _ h=>h) (AC _) (λ_ _ _ h=>h.elim) om (λxs V h=>by rw[h];have:=PN us (lc us);omega));have H:=AA hB;clear h hW hB J N Z;go_enter func69,ntmps69
 go_wp2_with fail
 refine A.out.mono ?_;rintro e w1 ⟨rfl,rfl⟩
 go_wp2_with fail
 refine HC.out.mono ?_;rintro e w2 ⟨v,xs,V,rfl,rfl,_,ho,C⟩;have j:=AA ho;have I:=AA C;clear ho C;go_wp2;go_ret;exact⟨v,rfl,NC j.out H.out.size,H.out.trans (I.out.mono H.out.size)⟩
end
theorem aqy{A:PAd}{c:CfM}{s:PlM}{o:Nat->Nat}(w W:Wa)(h:AE A c o s w W)(ax:OkC c)(hl:lc s.wk=c.W)(hx:s.next<=1000000000)(hu:lc s.us<=1000000)(hq:lc s.q<=1000000) :Calls ZP 34 #[.pointer (E ⟨A.P,0,O⟩)] W λe w'=>∃v0 v3 v4 v6,e=ra (i8 #[v0,.int .i64 (s.next:Int),.int .i64 (s.number:Int),v3,v4,.int .i64 (lc s.out:Int),v6,.int .i64 (lc s.fr:Int),.bool s.shut,.bool s.ended,.bool s.cancelled,.int .i64 (s.read:Int)])/\
   w'.ownsRow W.heap.size 5 1 v0 (c.W+3) ((phF c s (c.W+3)).map (Value.int .u8))/\FR w' W.heap.size v3 (s.q.map λb=>(b.num:Int))/\FR w' W.heap.size v4 ((Ga s.next s.rg c.R).map λx:Nat=>(x:Int))/\FR w' W.heap.size v6 (Oy s.us (lc s.us))/\Bt W w':=by
 obtain⟨D,hD⟩:∃D,D=W.alloc (i7 #[T O 0 0,R K 0,R K 0,T O 0 0,T O 0 0,R K 0,T O 0 0,R K 0,i6 M,i6 M,i6 M,R K 0] 63):=⟨_,rfl⟩;have ag:Bt W D:=by rw[hD];exact AL _ _
 have hG:=h.bel ag;have J:Hid (∀U,Bt D U->U.cell? ⟨A.P,11,O⟩=E (L (E ⟨A.Bb,0,O⟩))/\U.cell? ⟨A.P,12,O⟩=E (L (E ⟨A.Q,0,O⟩))/\U.cell? ⟨A.P,13,O⟩=E (L (E ⟨A.G,0,O⟩))/\U.cell? ⟨A.P,14,O⟩=E (L (E ⟨A.O,0,O⟩))/\U.cell? ⟨A.P,16,O⟩=E (R K (s.number:Int))/\U.cell? ⟨A.P,17,O⟩=E (R K (s.read:Int))/\U.cell? ⟨A.P,19,O⟩=E (i6 s.cancelled)):=λU hU=>by have hu:=hG.bel hU;exact⟨hu.ceP 11 _ λ_=>rfl,hu.ceP 12 _ λ_=>rfl,hu.ceP 13 _ λ_=>rfl,hu.ceP 14 _ λ_=>rfl,hu.ceP 16 _ λ_=>rfl,hu.ceP 17 _ λ_=>rfl,hu.ceP 19 _ λ_=>rfl⟩
 have bt:Hid (∀U,Bt D U->Calls ZP 66 #[L (E ⟨A.G,0,O⟩)] U λe w'=>e=ra (R K (s.next:Int))/\w'=U):=λU hU=>(hG.bel hU).low λo1 h1=>aoh h1;have bs:Hid (∀U,Bt D U->Calls ZP 67 #[L (E ⟨A.G,0,O⟩)] U λe w'=>∃v,e=ra v/\FR w' U.heap.size v ((Ga s.next s.rg c.R).map λx:Nat=>(x:Int))/\Bt U w'):=λU hU=>(hG.bel hU).low λo1 h1=>ap0 h1 hx;have bq:Hid (∀U,Bt D U->Calls ZP 68 #[L (E ⟨A.O,0,O⟩)] U λe w'=>e=ra (R K (lc s.out:Int))/\Bt U w'):=λU hU=>(hG.bel hU).low λo1 h1=>ap6 h1;have bp:Hid (∀U,Bt D U->Calls ZP 69 #[L (E ⟨A.Bb,0,O⟩)] U λe w'=>∃v,e=ra v/\FR w' U.heap.size v (Oy s.us (lc s.us))/\Bt U w'):=λU hU=>(hG.bel hU).low λo1 h1=>aqz U (h1.part 4 om) hu;have bo:Hid (∀U,Bt D U->Calls ZP 70 #[L (E ⟨A.Bb,0,O⟩)] U λe w'=>e=ra (R K (lc s.fr:Int))/\w'=U):=λU hU=>(hG.bel hU).low λo1 h1=>by
  have:=aqs U (h1.part 4 om)
  rwa[BP]at this
 have bm:Hid (∀U,Bt D U->Calls ZP 71 #[L (E ⟨A.Q,0,O⟩)] U λe w'=>e=ra (i6 s.shut)/\Bt U w'):=λU hU=>(hG.bel hU).low λo1 h1=>alC h1;have bl:Hid (∀U,Bt D U->Calls ZP 72 #[L (E ⟨A.O,0,O⟩)] U λe w'=>e=ra (i6 s.ended)/\Bt U w'):=λU hU=>(hG.bel hU).low λo1 h1=>akY h1;have bk:Hid (∀U,Bt D U->∃l:List PcW,l.map (λp=>p.num)=s.q.map (λb=>(b.num:Int))/\Calls ZP 73 #[L (E ⟨A.Q,0,O⟩)] U λe w'=>∃v,e=ra v/\PF w' U.heap.size v l/\Bt U w'):=λU hU=>(hG.bel hU).low λo1 h1=>by obtain⟨first,ps,g1,g2,g3⟩:Gm A c s (λk=>o1 k=5) (λk=>o1 k=0) U:=h1.part 5 om;exact⟨_,ara g2 g3,aqK U g1⟩
 have HT:Hid (∀U,Bt D U->U.cell? ⟨A.P,15,O⟩=E (T (E ⟨A.TT,0,O⟩) (c.W+3) A.tc)/\∀t,t<c.W+3->U.cell? ⟨A.TT,t,O⟩=E (.iface (tyT c t) (L (E ⟨adT A c t,0,O⟩)))/\Calls ZP 320 #[L (E ⟨adT A c t,0,O⟩)] U λe w'=>e=ra (.int .u8 (phT c s t:Nat))/\Bt U w'):=λU hU=>by have hu:=hG.bel hU;exact⟨hu.ceP 15 _ λ_=>rfl,λt ht=>hu.low λo1 h1=>⟨h1.task t ht,aqx U h1 ax hl t ht⟩⟩
 obtain⟨N,hN⟩:∃N,c.W+3=N:=⟨_,rfl⟩;have bZ:N<=100:=by have:=ax.W;omega
 rw[hN]at HT⊢;have bG:=AA hq;clear h hG hl hx hu hN ax hq;go_enter func34,ntmps34;go_upto_region 1 with fail
 rw[<-hD];have ad:Hid (W.heap.size<D.heap.size/\D.heap[W.heap.size]?=E (i7 #[T O 0 0,R K 0,R K 0,T O 0 0,T O 0 0,R K 0,T O 0 0,R K 0,i6 M,i6 M,i6 M,R K 0] 63 (0,0))):=by rw[hD];exact⟨by simp,AT _ _⟩
 have bj:=AA ag;obtain⟨R0,am⟩:∃Ra,W.heap.size=Ra:=⟨_,rfl⟩;have bF:=AA am;rw[am]at ad⊢;clear hD ag;go_upto_region 3 with fail
 refine Vb ?_;refine Va (S:=Bt D) kr (AN D 1) (λhHeld=>?_);obtain⟨w8,aU⟩:∃X,X=D.drew:=⟨_,rfl⟩;rw[<-aU]at hHeld⊢;clear aU;refine tkB 0 J.out ?_;refine tkB 1 J.out ?_;refine tkB 2 J.out ?_;refine tkB 3 J.out ?_;refine tkB 5 J.out ?_;refine tkB 6 J.out ?_;refine tkB 7 J.out ?_;refine tkB 8 J.out ?_;refine tkB 9 J.out ?_;refine tkB 10 J.out ?_;refine tkB 11 J.out ?_;refine tkB 12 J.out ?_;refine tkB 14 J.out ?_;refine tkB 15 J.out ?_;refine tkB 16 J.out ?_;refine tkB 17 J.out ?_;refine tkB 19 J.out ?_;refine tkB 20 J.out ?_;refine tkB 21 J.out ?_;refine tkB 22 J.out ?_;refine tkB 24 J.out ?_;refine tkB 25 J.out ?_;refine tkB 26 J.out ?_;refine tkB 27 J.out ?_;refine tkB 29 J.out ?_;refine tkB 30 J.out ?_;refine tkB 31 J.out ?_;refine tkB 32 J.out ?_;refine tkB 34 J.out ?_;refine tkB 35 J.out ?_;refine tkB 36 J.out ?_;refine tkB 37 J.out ?_;refine tkB 39 J.out ?_;refine tkB 40 J.out ?_;refine tkB 41 J.out ?_;refine tkB 42 J.out ?_;refine tkB 43 J.out ?_;refine tkB 44 J.out ?_;refine tkB 45 J.out ?_;refine tkB 46 J.out ?_;refine apJ 48 (λv V=>∃p,v=L (E ⟨p,0,O⟩)/\V.heap[p]?=E (i7 #[T O 0 0,R K 0,R K 0,T O 0 0,T O 0 0,R K 0,T O 0 0,R K 0,i6 M,i6 M,i6 M,R K 0] 63 (0,0))/\D.heap.size<=p) ?_ ?_ (λF=>?_)
 ·rintro _ V V' ⟨p,rfl,b,h⟩ C;exact⟨p,rfl,(C.block _ (AD.1 b).1).trans b,h⟩
 ·intro f V Z _ KB I;go_simp;exact I _ _ (Z.alloc Z.size _) ⟨_,rfl,AT _ _,Z.size⟩ (AL _ _)
 refine Oo F 4 (λv _=>v=R K (s.next:Int)) ?_ ?_
 ·rintro f (rfl|⟨vk,rfl⟩) V Z-KB I<;>(try simp only[pq]at I⊢)<;>go_simp<;>(go_at_call 66;refine(bt.out V Z).mono ?_;rintro e V2 ⟨rfl,rfl⟩;exact I _ _ Z rfl (AH _ _))
 rintro _ w1 hHeld-rfl
 try simp only[pq]
 refine Oo F 13 (λv V=>(∃a n cc,v=T a n cc)/\FR V D.heap.size v ((Ga s.next s.rg c.R).map λx:Nat=>(x:Int))) ?_ ?_
 ·rintro f (rfl|⟨vk,rfl⟩) V Z-KB I<;>(try simp only[pq]at I⊢)<;>go_simp<;>(go_at_call 67;refine(bs.out V Z).mono ?_;rintro e V2 ⟨v,rfl,ho,Y⟩;exact I _ _ (Z.trans (Y.mono Z.size)) ⟨by obtain⟨a,cc,h⟩:=aqP ho;exact⟨_,_,_,h⟩,NC ho Z.size⟩ Y)
 rintro _ w2 hHeld-⟨⟨a4,n4,c4,rfl⟩,H⟩
 try simp only[pq]
 refine Oo F 18 (λv _=>v=R K (lc s.out:Int)) ?_ ?_
 ·rintro f (rfl|⟨vk,rfl⟩) V Z-KB I<;>(try simp only[pq]at I⊢)<;>go_simp<;>(go_at_call 68;refine(bq.out V Z).mono ?_;rintro e V2 ⟨rfl,Y⟩;exact I _ _ (Z.trans (Y.mono Z.size)) rfl Y)
 rintro _ w3 hHeld C rfl
 replace H:=DJ H C
 clear C
 try simp only[pq]
 refine Oo F 23 (λv V=>(∃a n cc,v=T a n cc)/\FR V D.heap.size v (Oy s.us (lc s.us))) ?_ ?_
 ·rintro f (rfl|⟨vk,rfl⟩) V Z-KB I<;>(try simp only[pq]at I⊢)<;>go_simp<;>(go_at_call 69;refine(bp.out V Z).mono ?_;rintro e V2 ⟨v,rfl,ho,Y⟩;exact I _ _ (Z.trans (Y.mono Z.size)) ⟨by obtain⟨a,cc,h⟩:=aqP ho;exact⟨_,_,_,h⟩,NC ho Z.size⟩ Y)
 rintro _ w4 hHeld C ⟨⟨a6,n6,c6,rfl⟩,y⟩
 replace H:=DJ H C
 clear C
 try simp only[pq]
 refine Oo F 28 (λv _=>v=R K (lc s.fr:Int)) ?_ ?_
 ·rintro f (rfl|⟨vk,rfl⟩) V Z-KB I<;>(try simp only[pq]at I⊢)<;>go_simp<;>(go_at_call 70;refine(bo.out V Z).mono ?_;rintro e V2 ⟨rfl,rfl⟩;exact I _ _ Z rfl (AH _ _))
 rintro _ w5 hHeld C rfl
 replace H:=DJ H C
 replace y:=DJ y C
 clear C
 try simp only[pq]
 refine Oo F 33 (λv _=>v=i6 s.shut) ?_ ?_
 ·rintro f (rfl|⟨vk,rfl⟩) V Z-KB I<;>(try simp only[pq]at I⊢)<;>go_simp<;>(go_at_call 71;refine(bm.out V Z).mono ?_;rintro e V2 ⟨rfl,Y⟩;exact I _ _ (Z.trans (Y.mono Z.size)) rfl Y)
 rintro _ w6 hHeld C rfl
 replace H:=DJ H C
 replace y:=DJ y C
 clear C
 try simp only[pq]
 refine Oo F 38 (λv _=>v=i6 s.ended) ?_ ?_
 ·rintro f (rfl|⟨vk,rfl⟩) V Z-KB I<;>(try simp only[pq]at I⊢)<;>go_simp<;>(go_at_call 72;refine(bl.out V Z).mono ?_;rintro e V2 ⟨rfl,Y⟩;exact I _ _ (Z.trans (Y.mono Z.size)) rfl Y)
 rintro _ w7 hHeld C rfl
 replace H:=DJ H C
 replace y:=DJ y C
 clear C
 try simp only[pq]
 obtain⟨B,a2⟩:∃X:Array Vh,#[T O 0 0,R K (s.next:Int),R K (s.number:Int),T O 0 0,T a4 n4 c4,R K (lc s.out:Int),T a6 n6 c6,R K (lc s.fr:Int),i6 s.shut,i6 s.ended,i6 s.cancelled,R K (s.read:Int)]=X:=⟨_,rfl⟩;have bi:Hid (ZP.built 63 [(1,R K (s.next:Int)),(2,R K (s.number:Int)),(4,T a4 n4 c4),(5,R K (lc s.out:Int)),(6,T a6 n6 c6),(7,R K (lc s.fr:Int)),(8,i6 s.shut),(9,i6 s.ended),(10,i6 s.cancelled),(11,R K (s.read:Int))]=E B):=by rw[Hid,<-a2];exact arg _ _ _ _ _ _ _ _ _ _ _ _ _ _
 have aN:=AA a2;have ar:Hid (B.size=12):=by rw[Hid,<-a2];rfl
 have bb:Hid (B.all (·.oneCell')=G):=by rw[Hid,<-a2];simp[Value.oneCell']
 have b8:Hid ((ZP.info? 63).map (·.size)=E B.size):=by rw[Hid,ar.out];kernel_rfl
 clear a2;refine apH F 47 (v:=i8 B) ?_ ?_
 ·rintro f (rfl|⟨vk,rfl⟩)<;>(try simp only[pq])<;>exact Iz (by rfl) _ _ rfl B (by go_simp;exact bi.out)
 try simp only[pq]
 refine apI F ?_;rintro _ w9 hHeld C-⟨p,rfl,bP,hp⟩
 replace H:=DJ H C
 replace y:=DJ y C
 clear C F
 try simp only[pq]
 refine rdy 49 (λKB I=>?_);rw[Lc (by rfl)];refine wp_store_row 63 _ _ rfl p B (by rfl) (by rfl) 63 _ bP b8.out (by rw[ar.out];rfl) bb.out ?_;refine I.out _ _ (MF hHeld hp _) (λa8=>?_);clear I KB
 try simp only[pq]
 refine Vd kr ?_ _;refine At ?_;obtain⟨X1,aj⟩:∃X,X=w9.setRow p B:=⟨_,rfl⟩;have bX:X1.heap[p]?=E (i7 B 63 (0,0)):=by rw[aj];exact setRow_heap w9 p _ _ _ _ bP
 have cX:Chg (λk=>k=p) w9 X1:=by rw[aj];exact⟨rfl,rfl,rfl,by simp,λk _ hk=>setRow_other w9 p k _ hk⟩
 have az:(T a4 n4 c4).ownBlock≠E p:=Pa H bP (by decide);have ay:(T a6 n6 c6).ownBlock≠E p:=Pa y bP (by decide);have b4:Hid (FR X1 D.heap.size (T a4 n4 c4) ((Ga s.next s.rg c.R).map λx:Nat=>(x:Int))):=PI H cX az;have b3:Hid (FR X1 D.heap.size (T a6 n6 c6) (Oy s.us (lc s.us))):=PI y cX ay;rw[<-aj]at a8⊢;have aW:p<X1.heap.size:=(AD.1 bX).1;have au:Hid ((T a4 n4 c4).ownBlock≠E p/\(T a6 n6 c6).ownBlock≠E p):=⟨az,ay⟩;have bh:=AA bX;have a7:=AA a8;have ac:Hid (D.heap.size<=p/\p<X1.heap.size):=⟨hp,aW⟩;clear aj cX H y bP hHeld az ay bt bs bq bp bo bm bl bi bb b8 bX aW hp;obtain⟨f15,_⟩:=HT.out X1 a8;go_upto_region 5 with fail
 clear f15 a8
 go_loopw[64] (λaw wr=>∃(i:Nat)(v0:Vh),i<=N/\aw=R K i/\Hid (VwL X1 p 0 B 5 v0 i ((phF c s i).map (Value.int .u8)) wr)) (λaw _=>N-(intOf aw).toNat)
 case atStart=>
  refine⟨0,T O 0 0,AR _,rfl,.refl _ _,?_,BN _ _ _ _⟩;rw[bh.out,<-aN.out]
  rfl
 case round=>
  obtain⟨i,v0,bS,rfl,HV⟩:=hrel;have HD:Hid (Bt D wr):=a7.out.trans (HV.out.c.below a7.out.size λk hk=>by have:=ac.out.1;omega)
  by_cases aZ:i<N
  ·have hd:decide ((i:Int)<N)=G:=by simp;omega
   obtain⟨-,hk⟩:=HT.out wr HD.out;obtain⟨aV,-⟩:=hk i aZ;obtain⟨ty,aE⟩:∃ty,tyT c i=ty:=⟨_,rfl⟩;have bO:∀n Ta w,Sem.run ZP (method (n+1) ty (L (E ⟨Ta,0,O⟩)) "teasel/pool.phase") w=.ok (320,L (E ⟨Ta,0,O⟩)) w:=λn Ta w=>by rw[<-aE];exact ar2 _ (Jv c i) n Ta w
   obtain⟨Ta,aK⟩:∃Ta,adT A c i=Ta:=⟨_,rfl⟩;obtain⟨ph,aG⟩:∃x,phT c s i=x:=⟨_,rfl⟩;have HQ:Hid (∀V,Bt D V->Calls ZP 320 #[L (E ⟨Ta,0,O⟩)] V λe w'=>e=ra (.int .u8 (ph:Nat))/\Bt V w'):=λV Z=>by have:=((HT.out V Z).2 i aZ).2;rw[aK,aG]at this;exact this
   have aM:Hid ((phF c s (i+1)).map (Value.int .u8)=(phF c s i).map (Value.int .u8)++[.int .u8 (ph:Nat)]):=by rw[Hid,aqX,aG,Aj];rfl
   rw[aE,aK]at aV;obtain⟨a0,c0,rfl,_,_,_⟩:=Gy HV.out.r;have i1:(0:Int)<=(i:Int):=by omega
   have i2:(i:Int)<(N:Int):=by omega
   clear hk aE aK aG;go_upto_region 7 with fail
   obtain⟨U0,al⟩:∃X,X=wr.drew:=⟨_,rfl⟩;have aJ:Bt wr U0:=by rw[al];exact AN wr 1
   have b5:=AA (HV.out.bel aJ);have bf:=AA (HD.out.trans (aJ.mono HD.out.size));have bH:Hid (∀V,Bt U0 V->V.cell? ⟨p,0,O⟩=E (T a0 i c0)):=λV Z=>(b5.out.bel Z).cell (by rw[ar.out];decide);clear aV aJ HV HD;refine Vb ?_;refine Va (S:=Bt D) kr (by rw[<-al];exact bf.out) (λao=>?_);rw[<-al];clear al ao;have bY:=bf.out;refine tkA 0 ?_;refine tkA 2 ?_;refine arh 1 (λv _=>v=T a0 i c0) (λf=>f.tmps[68]?.getD undef=L (E ⟨p,0,O⟩)) (λ_ _ _ h _=>h) ?_ (λF=>?_)
   ·intro f V hG Z h0 KB I;have q0:=bH.out V h0;go_simp;exact I _ _ Z rfl (AH _ _)
   refine Oo F 3 (λv _=>v=.int .u8 (ph:Nat)) ?_ ?_
   ·rintro f (rfl|⟨vk,rfl⟩) V Z-KB I<;>(try simp only[pq]at I⊢)<;>go_simp<;>(go_at_call 320;refine(HQ.out V Z).mono ?_;rintro e V2 ⟨rfl,Y⟩;exact I _ _ (Z.trans (Y.mono Z.size)) rfl Y)
   rintro _ u1 bW-rfl
   try simp only[pq]
   refine Oo F 4 (λv V=>∃q,v=T (E ⟨q,0,O⟩) 1 1/\V.heap[q]?=E (i7 #[.int .u8 (ph:Nat)] 5 (0,0))) ?_ ?_
   ·rintro f (rfl|⟨vk,rfl⟩) V Z-KB I<;>(try simp only[pq]at I⊢)<;>go_simp<;>exact I _ _ (Z.alloc Z.size _) ⟨_,rfl,AT _ _⟩ (AL _ _)
   rintro _ u2 bV-⟨q,rfl,hq⟩
   try simp only[pq]
   refine apI F ?_;rintro _ u3 bU ab ag rfl
   try simp only[pq]
   obtain⟨i0,hi,aC,aB,aA⟩:=Ve aqU;obtain⟨a1,c1,W1,hr,aI,bw,bz,ae⟩:=b5.out.app (ty:=32) ac.out.2 (by rw[ar.out];decide) ag ((ab.block q (AD.1 hq).1).trans hq) rfl om underlying32 hi aC aB aA (by decide) rfl;have HR:=AA hr;have aL:=AA ae;have ad:Hid (Bt D W1):=a7.out.trans (aI.below a7.out.size λk hk=>by have:=ac.out.1;omega);have bK:Hid (Bt D (W1.setCell ⟨p,0,O⟩ (.slice a1 (i+1) c1))):=a7.out.trans (ae.c.below a7.out.size λk hk=>by have:=ac.out.1;omega);refine rdy 5 (λKB I=>?_);refine GU (.tmp 69) (.tmp 72) 32 rfl _ _ rfl rfl rfl HR.out ?_;refine I.out _ _ ad.out (λh5=>?_);clear I KB
   try simp only[pq]
   refine tkA 6 ?_;refine rdy 7 (λKB I=>?_);go_simp;refine I.out _ _ bK.out (λh7=>?_);clear I KB
   try simp only[pq]
   refine Vd kr ?_ _;refine At ?_;go_wp2
   go_roundw
   case rel=>exact⟨i+1,_,by omega,by go_num,by rw[aM.out];exact aL⟩
   case measure=>simp[intOf];omega
  ·obtain rfl:i=N:=by omega
   have hd:decide ((i:Int)<i)=M:=by simp
   obtain⟨a0,c0,rfl,_,_,_⟩:=Gy HV.out.r;have aT:(T a0 i c0).ownBlock≠E p:=λe=>by have:=(Gw HV.out.r p e).1;have:=ac.out.2;omega
   obtain⟨l,hl,af⟩:=bk.out wr HD.out;have HL:=AA hl;have bg:=AA af;obtain⟨_,bu,_,_,_,_,_⟩:=J.out wr HD.out;clear hl af HT bk;go_upto_region 10 with(go_at_call 73;refine bg.out.mono ?_;rintro e w3 ⟨vp,rfl,hP,ab⟩;obtain⟨ap,cp,rfl,_,aF⟩:=SlK.own hP)
   have aR:Hid (Bt D w3):=HD.out.trans (ab.mono HD.out.size);have cW:Chg (λk=>k=p) X1 w3:=HV.out.c.same ab;have ai:=AA (HV.out.bel ab);have aX:=(AD.1 ai.out.b).1;have bD:Hid (w3.ownsRow D.heap.size 5 1 (T a0 i c0) i ((phF c s i).map (Value.int .u8))):=NC ai.out.r a7.out.size;have bC:Hid (FR w3 D.heap.size (T a4 n4 c4) ((Ga s.next s.rg c.R).map λx:Nat=>(x:Int))):=PI b4.out cW au.out.1;have bB:Hid (FR w3 D.heap.size (T a6 n6 c6) (Oy s.us (lc s.us))):=PI b3.out cW au.out.2;have aH:=Pa hP ai.out.b (by decide);obtain⟨n,hn⟩:∃n,lc l=n:=⟨_,rfl⟩;rw[hn]at aF aH⊢;have b9:Hid ((T ap n cp).ownBlock≠E p/\(T a0 i c0).ownBlock≠E p):=⟨aH,aT⟩;have bE:=AA aF;have bN:n<=1000000:=by have h1:=congrArg List.length HL.out;rw[BP,BP,hn]at h1;rw[h1];exact bG.out
   have aO:=AA hn;have b7:=AA aX;obtain⟨C2,aq⟩:∃X:Array Vh,B.setIfInBounds 0 (T a0 i c0)=X:=⟨_,rfl⟩;have aS:Hid (C2.setIfInBounds 3 (T O 0 0)=C2/\C2.size=12):=by rw[Hid,<-aq,<-aN.out];exact⟨rfl,rfl⟩
   have Y:=ai.out.b;rw[aq]at Y;have bM:=AA Y;have bL:=AA aq;clear ab hP aF hn aq Y aH aT cW bu J b4 b3 HV HD ai bh bg aX
   go_loopw[82] (λav wr=>∃(j:Nat)(v3:Vh),j<=n/\av=R K j/\Hid (VwL w3 p 3 C2 3 v3 j ((l.take j).map λq=>R K q.num) wr)) (λav _=>n-(intOf av).toNat)
   case atStart=>exact⟨0,T O 0 0,AR _,rfl,.refl _ _,by rw[aS.out.1];exact bM.out,BN _ _ _ _⟩
   case round=>
    obtain⟨j,v3,bQ,rfl,HV⟩:=hrel;have HD:Hid (Bt D wr):=aR.out.trans (HV.out.c.below aR.out.size λk hk=>by have:=ac.out.1;omega)
    by_cases bR:j<n
    ·have bx:decide ((j:Int)<n)=G:=by simp;omega
     obtain⟨x,hx⟩:∃x,l[j]?=E x:=⟨_,Ar (by have:=aO.out;omega)⟩;obtain⟨y0,y1,y2,y3,y4⟩:=ag4 hx;obtain⟨b,o,e,aY,hc⟩:=bE.out.2.resolve_left om;subst e;have aa:wr.heap[b]?=w3.heap[b]?:=HV.out.c.block b aY λe=>b9.out.1 (by rw[e];rfl);have z0:wr.cell? ⟨b,o+j*5,O⟩=E (R K x.num):=(BC (a:=⟨b,o+j*5,O⟩) aa).trans (hc _ _ y0);have z1:wr.cell? ⟨b,o+j*5+1,O⟩=E (R K x.start):=(BC (a:=⟨b,o+j*5+1,O⟩) aa).trans (hc _ _ y1);have z2:wr.cell? ⟨b,o+j*5+2,O⟩=E (R K x.warm):=(BC (a:=⟨b,o+j*5+2,O⟩) aa).trans (hc _ _ y2);have z3:wr.cell? ⟨b,o+j*5+3,O⟩=E (T x.a x.m x.c):=(BC (a:=⟨b,o+j*5+3,O⟩) aa).trans (hc _ _ y3);have z4:wr.cell? ⟨b,o+j*5+4,O⟩=E (R K x.buf):=(BC (a:=⟨b,o+j*5+4,O⟩) aa).trans (hc _ _ y4);have i1:(0:Int)<=(j:Int):=by omega
     have i2:(j:Int)<(n:Int):=by omega
     clear y0 y1 y2 y3 y4 hc aa aY;go_upto_region 12 with fail
     obtain⟨a3,c3,rfl,_,_,_⟩:=Gy HV.out.r;obtain⟨V1,ak⟩:∃X,X=wr.alloc (i7 #[R K x.num,R K x.start,R K x.warm,T x.a x.m x.c,R K x.buf] 126):=⟨_,rfl⟩;have b1:Bt wr V1:=by rw[ak];exact AL _ _
     have hg:V1.heap[wr.heap.size]?=E (i7 #[R K x.num,R K x.start,R K x.warm,T x.a x.m x.c,R K x.buf] 126 (0,0)):=by rw[ak];exact AT _ _
     have bv:wr.heap.size≠p:=by have:=b7.out;have:=HV.out.c.size;omega
     rw[<-ak];obtain⟨g,b0⟩:∃g,wr.heap.size=g:=⟨_,rfl⟩;have aD:=HV.out.bel b1;have b2:=AL V1 (i7 #[.int .i64 x.num] 3);obtain⟨i0,hi,aC,aB,aA⟩:=Ve aqM;obtain⟨a1,c1,W1,hr,aI,bw,bz,ae⟩:=aD.app (ty:=30) b7.out (by rw[aS.out.2];decide) b2 (AT V1 (i7 #[.int .i64 x.num] 3)) rfl om underlying30 hi aC aB aA (by decide) rfl;have HR:=AA hr;have aM:Hid (((l.take (j+1)).map λq=>Value.int .i64 q.num)=((l.take j).map λq=>Value.int .i64 q.num)++[.int .i64 x.num]):=by rw[Hid,LH,hx,Aj];rfl
     have aL:Hid (VwL w3 p 3 C2 3 (T a1 (j+1) c1) (j+1) ((l.take (j+1)).map λq=>R K q.num) (W1.setCell ⟨p,3,O⟩ (T a1 (j+1) c1))):=by rw[Hid,aM.out];exact ae
     have q0:=aD.cell (show 3<C2.size by rw[aS.out.2];decide);rw[b0]at hg⊢;have q1:V1.cell? ⟨g,0,O⟩=E (R K x.num):=by simp[cell?,hg]
     clear z0 z1 z2 z3 z4 HV HD ak b1 hg bv b0 hx aD b2 hr aI ae
     go_wp2_with (at_builtin;refine aaf rfl (.tmp 87) (.tmp 91) 30 rfl rfl rfl HR.out ?_)
     go_roundw
     case rel=>exact⟨j+1,_,by omega,by go_num,aL⟩
     case measure=>simp[intOf];omega
    ·obtain rfl:j=n:=by omega
     have bx:decide ((j:Int)<j)=M:=by simp
     obtain⟨a3,c3,rfl,_,_,_⟩:=Gy HV.out.r;obtain⟨F,hF⟩:∃X:Array Vh,C2.setIfInBounds 3 (T a3 j c3)=X:=⟨_,rfl⟩;have C:=HV.out.b;rw[hF]at C;have bI:=AA C;have aQ:Hid (F=#[T a0 i c0,R K (s.next:Int),R K (s.number:Int),T a3 j c3,T a4 n4 c4,R K (lc s.out:Int),T a6 n6 c6,R K (lc s.fr:Int),i6 s.shut,i6 s.ended,i6 s.cancelled,R K (s.read:Int)]):=by
      rw[Hid,<-hF,<-bL.out,<-aN.out]
      rfl
     have be:Hid (F.size=12):=by rw[Hid,aQ.out];rfl
     have aP:Hid ((ZP.info? 63).map (·.size)=E F.size):=by rw[Hid,be.out];kernel_rfl
     have bJ:Hid (F.all (·.oneCell')=G):=by rw[Hid,aQ.out];simp[Value.oneCell']
     have b6:Hid (wr.heap[R0]?=E (i7 #[T O 0 0,R K 0,R K 0,T O 0 0,T O 0 0,R K 0,T O 0 0,R K 0,i6 M,i6 M,i6 M,R K 0] 63 (0,0))):=(HD.out.block _ ad.out.1).trans ad.out.2;have HE:=AA am;have bd:Hid ((l.take j).map (λq=>R K q.num)=(s.q.map λb=>(b.num:Int)).map (R K)/\j=(s.q.map λb=>(b.num:Int)).length):=by
      have h1:=HL.out;refine⟨?_,?_⟩
      ·rw[Ap (by have:=aO.out;omega),<-h1,List.map_map]
       rfl
      ·rw[<-h1,BP];exact aO.out.symm
     clear hF C am;go_upto_region 14 with fail
     go_wp2_with (first
      |(refine wpList_load_row rfl 63 _ rfl p rfl 63 F (0,0) _ bI.out underlying63 rfl aP.out ?_)
      |(refine wpList_store_row rfl 63 _ _ rfl R0 F rfl rfl 63 _ b6.out aP.out (by rw[be.out];rfl) bJ.out ?_))
     refine Vf (results_cell_row rfl _ _ R0 63 F (0,0) _ (by rfl) (setRow_heap wr R0 _ _ _ _ b6.out) underlying63 rfl aP.out) rfl ?_;have bA:W.heap.size<=D.heap.size:=bj.out.size;have rs:∀{e:TypeId}{m base:Nat}{v:Vh}{xs:List Vh},D.heap.size<=base->wr.ownsRow base e 1 v m xs->(wr.setRow R0 F).ownsRow W.heap.size e 1 v m xs:=λbT h=>NC (Fu h λk hk=>setRow_other wr R0 k F (by have:=(Gw h k hk).1;have:=ad.out.1;omega)) om;have r3:=rs aR.out.size HV.out.r;rw[bd.out.1]at r3;refine⟨.slice a0 i c0,.slice a3 j c3,.slice a4 n4 c4,.slice a6 n6 c6,by rw[aQ.out],rs (AC _) (PI bD.out HV.out.c b9.out.2),?_,rs (AC _) (PI bC.out HV.out.c au.out.1),rs (AC _) (PI bB.out HV.out.c au.out.2),MF (bj.out.trans (HD.out.mono bA)) (by have:=bF.out;omega) F⟩;unfold FR;rw[<-bd.out.2];exact r3
structure VwX where
 ph:List Int
 next:Int
 number:Int
 q:List Int
 rg:List Int
 out:Int
 live:List Int
 free:Int
 shut:Bool
 ended:Bool
 canc:Bool
 read:Int
def Br(c:CfM)(s:PlM):VwX:=⟨phF c s (c.W+3),s.next,s.number,s.q.map λb=>(b.num:Int),(Ga s.next s.rg c.R).map λx:Nat=>(x:Int),lc s.out,Oy s.us (lc s.us),lc s.fr,s.shut,s.ended,s.cancelled,s.read⟩
structure VwS(w:World)(m:Nat)(v0 v3 v4 v6:Value)(x:VwX):Prop where
 r0:w.ownsRow m 5 1 v0 x.ph.length (x.ph.map (Value.int .u8))
 r3:FR w m v3 x.q
 r4:FR w m v4 x.rg
 r6:FR w m v6 x.live
 by_:∀a∈x.ph,0<=a/\a<=255
 ln:x.q.length<=1000000/\x.rg.length<=1000000/\x.live.length<=1000000/\x.ph.length<=1000000
abbrev vwC(v0 v3 v4 Z:Vh)(x:VwX):Array Vh:=#[v0,R K x.next,R K x.number,v3,v4,R K x.out,Z,R K x.free,i6 x.shut,i6 x.ended,i6 x.canc,R K x.read]
theorem VwS.keep{Y:Nat->Prop}{w w':Wa}{m:Nat}{v0 v3 v4 Z:Vh}{x:VwX}(h:VwS w m v0 v3 v4 Z x)(V:Chg Y w w')(X:∀k,m<=k->k<w.heap.size->¬Y k):VwS w' m v0 v3 v4 Z x:=
 have rs:∀{e:TypeId}{n:Nat}{v:Vh}{xs:List Vh},w.ownsRow m e 1 v n xs->w'.ownsRow m e 1 v n xs:=λh=>Fu h λk hk=>V.block k (Gw h k hk).2 (X k (Gw h k hk).1 (Gw h k hk).2)
 ⟨rs h.r0,rs h.r3,rs h.r4,rs h.r6,h.by_,h.ln⟩
theorem VwS.below{w w':Wa}{m:Nat}{v0 v3 v4 Z:Vh}{x:VwX}(h:VwS w m v0 v3 v4 Z x)(X:Bt w w'):VwS w' m v0 v3 v4 Z x:=h.keep (Y:=λ_=>False) (.of_same X) λ_ _ _ h=>h
theorem aqn(n:Nat)(rg:List (Option (List AF))):∀j,(Ga n rg j).length<=j
 |0=>AC _
 |j+1=>by
  have:=aqn n rg j;unfold Ga;rw[List.length_append]
  split<;>simp<;>omega
theorem aqY{A:PAd}{c:CfM}{s:PlM}{o:Nat->Nat}(W:Wa)(h:AI A c o s W)(Z:OkC c)(ok:OkM c s)(V:EE c s) :Calls ZP 34 #[L (E ⟨A.P,0,O⟩)] W λe w'=>∃v0 v3 v4 Y,e=ra (i8 (vwC v0 v3 v4 Y (Br c s)))/\VwS w' W.heap.size v0 v3 v4 Y (Br c s)/\Bt W w':=by
 have h1:=V.b.ul;have h2:=Z.R;have h3:=V.a.f.ql;have h4:=Z.Q;refine(aqy W W h.g Z ok.wl ok.nxt om om).mono ?_;rintro e w' ⟨v0,v3,v4,Y,rfl,r0,r3,r4,r6,N⟩;refine⟨v0,v3,v4,Y,rfl,⟨?_,r3,r4,r6,λa ha=>?_,?_,?_,?_,?_⟩,N⟩
 ·have e:(Br c s).ph.length=c.W+3:=aqN _ _ _;rw[e];exact r0
 ·have ha:a∈phF c s (c.W+3):=ha;unfold phF at ha;obtain⟨t,_,rfl⟩:=Be.1 ha;have X:=V.a.r;unfold phT
  split
  ·have:=X.ph;omega
  ·split
   ·unfold phW
    split
    ·omega
    ·rename_i x U
     have:=X.wp _ x U;omega
   ·split
    ·have:=X.mp;omega
    ·have:=X.ep;omega
 ·show(s.q.map λb=>(b.num:Int)).length<=1000000;rw[BP];omega
 ·show((Ga s.next s.rg c.R).map λx:Nat=>(x:Int)).length<=1000000;rw[BP];have:=aqn s.next s.rg c.R;omega
 ·show(Oy s.us (lc s.us)).length<=1000000;have:=PN s.us (lc s.us);omega
 ·show(phF c s (c.W+3)).length<=1000000;rw[aqN];have:=Z.W;omega
theorem aqQ(v0 v3 v4 v6 u0 u3 u4 u6:Vh)(x:VwX)(w:Wa){m m':Nat}(h:VwS w m v0 v3 v4 v6 x)(k:VwS w m' u0 u3 u4 u6 x) :Calls ZP 33 #[i8 (vwC v0 v3 v4 v6 x),i8 (vwC u0 u3 u4 u6 x)] w λe w'=>e=ra (i6 G)/\Bt w w':=by
 obtain⟨xs,nx,j,q,rg,s,lv,fr,sh,en,ca,v⟩:=x;obtain⟨r0,r3,r4,r6,a1,l3,l4,l6,l0⟩:=h;obtain⟨k0,k3,k4,k6,_,_⟩:=k;dsimp only[vwC]at *;obtain⟨a0,c0,rfl,_,s0⟩:=Co r0;obtain⟨a3,c3,rfl,_,s3⟩:=Co r3;obtain⟨a4,c4,rfl,_,s4⟩:=Co r4;obtain⟨a6,c6,rfl,_,s6⟩:=Co r6;obtain⟨b0,d0,rfl,_,t0⟩:=Co k0;obtain⟨b3,d3,rfl,_,t3⟩:=Co k3;obtain⟨b4,d4,rfl,_,t4⟩:=Co k4;obtain⟨b6,d6,rfl,_,t6⟩:=Co k6;obtain⟨A,ab⟩:∃n,lc xs=n:=⟨_,rfl⟩;obtain⟨C,aa⟩:∃n,lc q=n:=⟨_,rfl⟩;obtain⟨D,a8⟩:∃n,lc rg=n:=⟨_,rfl⟩;obtain⟨H,a7⟩:∃n,lc lv=n:=⟨_,rfl⟩;rw[ab]at s0 t0⊢;rw[aa]at s3 t3 l3⊢;rw[a8]at s4 t4 l4⊢;rw[a7]at s6 t6 l6⊢;obtain⟨W,hW⟩:∃W,W=(w.alloc (i7 #[T a0 A c0,R K nx,R K j,T a3 C c3,T a4 D c4,R K s,T a6 H c6,R K fr,i6 sh,i6 en,i6 ca,R K v] 63)).alloc (i7 #[T b0 A d0,R K nx,R K j,T b3 C d3,T b4 D d4,R K s,T b6 H d6,R K fr,i6 sh,i6 en,i6 ca,R K v] 63):=⟨_,rfl⟩;have hO:Bx w.heap.size [i7 #[T a0 A c0,R K nx,R K j,T a3 C c3,T a4 D c4,R K s,T a6 H c6,R K fr,i6 sh,i6 en,i6 ca,R K v] 63,i7 #[T b0 A d0,R K nx,R K j,T b3 C d3,T b4 D d4,R K s,T b6 H d6,R K fr,i6 sh,i6 en,i6 ca,R K v] 63] W:=by rw[hW];exact((Bx.nil _ w).snoc _ rfl).snoc _ sm
 have Z:Bt w W:=by rw[hW];exact(AL w _).alloc (AL w _).size _
 obtain⟨Y,ag⟩:∃y,(w.alloc (i7 #[T a0 A c0,R K nx,R K j,T a3 C c3,T a4 D c4,R K s,T a6 H c6,R K fr,i6 sh,i6 en,i6 ca,R K v] 63)).heap.size=y:=⟨_,rfl⟩;have af:Y=w.heap.size+1:=by rw[<-ag];simp
 obtain⟨X,a2⟩:∃y,w.heap.size=y:=⟨_,rfl⟩;have HC:Hid (∀V,Bt W V->(V.cell? ⟨X,0,O⟩=E (T a0 A c0)/\V.cell? ⟨X,1,O⟩=E (R K nx)/\V.cell? ⟨X,2,O⟩=E (R K j)/\V.cell? ⟨X,3,O⟩=E (T a3 C c3)/\V.cell? ⟨X,4,O⟩=E (T a4 D c4)/\V.cell? ⟨X,5,O⟩=E (R K s)/\V.cell? ⟨X,6,O⟩=E (T a6 H c6)/\V.cell? ⟨X,7,O⟩=E (R K fr)/\V.cell? ⟨X,8,O⟩=E (i6 sh)/\V.cell? ⟨X,9,O⟩=E (i6 en)/\V.cell? ⟨X,10,O⟩=E (i6 ca)/\V.cell? ⟨X,11,O⟩=E (R K v))/\V.cell? ⟨Y,0,O⟩=E (T b0 A d0)/\V.cell? ⟨Y,1,O⟩=E (R K nx)/\V.cell? ⟨Y,2,O⟩=E (R K j)/\V.cell? ⟨Y,3,O⟩=E (T b3 C d3)/\V.cell? ⟨Y,4,O⟩=E (T b4 D d4)/\V.cell? ⟨Y,5,O⟩=E (R K s)/\V.cell? ⟨Y,6,O⟩=E (T b6 H d6)/\V.cell? ⟨Y,7,O⟩=E (R K fr)/\V.cell? ⟨Y,8,O⟩=E (i6 sh)/\V.cell? ⟨Y,9,O⟩=E (i6 en)/\V.cell? ⟨Y,10,O⟩=E (i6 ca)/\V.cell? ⟨Y,11,O⟩=E (R K v)):=λV B=>by have h:=hO.below B;rw[a2]at h;rw[af,a2];exact⟨⟨h.cell (i:=0) rfl rfl,h.cell (i:=0) rfl rfl,h.cell (i:=0) rfl rfl,h.cell (i:=0) rfl rfl,h.cell (i:=0) rfl rfl,h.cell (i:=0) rfl rfl,h.cell (i:=0) rfl rfl,h.cell (i:=0) rfl rfl,h.cell (i:=0) rfl rfl,h.cell (i:=0) rfl rfl,h.cell (i:=0) rfl rfl,h.cell (i:=0) rfl rfl⟩,h.cell (i:=1) rfl rfl,h.cell (i:=1) rfl rfl,h.cell (i:=1) rfl rfl,h.cell (i:=1) rfl rfl,h.cell (i:=1) rfl rfl,h.cell (i:=1) rfl rfl,h.cell (i:=1) rfl rfl,h.cell (i:=1) rfl rfl,h.cell (i:=1) rfl rfl,h.cell (i:=1) rfl rfl,h.cell (i:=1) rfl rfl,h.cell (i:=1) rfl rfl⟩
 have aj:=Gh (xs:=xs) (⟨s0.below Z,a1⟩:Bys W a0 A xs) c0;have ai:=Gh (xs:=xs) (⟨t0.below Z,a1⟩:Bys W b0 A xs) d0;have I3:Hid (∀V,Bt W V->Calls ZP 28 #[T a3 C c3,T b3 C d3] V λe w'=>e=ra (i6 G)/\Bt V w'):=λV B=>by
  have:=Pc a3 b3 C c3 C d3 q q V ((s3.below Z).below B) ((t3.below Z).below B) om
  rwa[Lz rfl]at this
 have I4:Hid (∀V,Bt W V->Calls ZP 28 #[T a4 D c4,T b4 D d4] V λe w'=>e=ra (i6 G)/\Bt V w'):=λV B=>by
  have:=Pc a4 b4 D c4 D d4 rg rg V ((s4.below Z).below B) ((t4.below Z).below B) om
  rwa[Lz rfl]at this
 have I6:Hid (∀V,Bt W V->Calls ZP 28 #[T a6 H c6,T b6 H d6] V λe w'=>e=ra (i6 G)/\Bt V w'):=λV B=>by
  have:=Pc a6 b6 H c6 H d6 lv lv V ((s6.below Z).below B) ((t6.below Z).below B) om
  rwa[Lz rfl]at this
 have HB:=AA Z;have ak:=AA a2;obtain⟨⟨q0,q1,q2,q3,q4,q5,q6,q7,q8,q9,N,U⟩,p0,p1,p2,p3,p4,p5,p6,p7,p8,p9,I,J⟩:=HC.out W (AH _ _);clear r0 r3 r4 r6 a1 l3 l4 l6 l0 k0 k3 k4 k6 s0 s3 s4 s6 t0 t3 t4 t6 hO Z af ab aa a8 a7;go_enter func33,ntmps33;go_upto_region 1 with fail
 rw[<-hW];clear hW ag;go_upto_region 3 with fail
 go_wp2_with fail
 refine(I3.out W (AH _ _)).mono ?_;rintro e w1 ⟨rfl,ae⟩;have X1:=AA ae;clear q0 q1 q2 q3 q4 q5 q6 q7 q8 q9 N U p0 p1 p2 p3 p4 p5 p6 p7 p8 p9 I J ae aj ai I3;obtain⟨⟨q0,q1,q2,q3,q4,q5,q6,q7,q8,q9,N,U⟩,p0,p1,p2,p3,p4,p5,p6,p7,p8,p9,I,J⟩:=HC.out w1 X1.out
 go_wp2_with fail
 refine(I4.out w1 X1.out).mono ?_;rintro e w2 ⟨rfl,ad⟩;have X2:=AA (X1.out.trans (ad.mono X1.out.size));clear q0 q1 q2 q3 q4 q5 q6 q7 q8 q9 N U p0 p1 p2 p3 p4 p5 p6 p7 p8 p9 I J ad I4;obtain⟨⟨q0,q1,q2,q3,q4,q5,q6,q7,q8,q9,N,U⟩,p0,p1,p2,p3,p4,p5,p6,p7,p8,p9,I,J⟩:=HC.out w2 X2.out
 go_wp2_with fail
 refine(I6.out w2 X2.out).mono ?_;rintro e w3 ⟨rfl,ac⟩;have X3:=AA (X2.out.trans (ac.mono X2.out.size));clear q0 q1 q2 q3 q4 q5 q6 q7 q8 q9 N U p0 p1 p2 p3 p4 p5 p6 p7 p8 p9 I J ac I6;go_wp2;go_ret;exact⟨rfl,HB.out.trans (X3.out.mono HB.out.size)⟩
theorem aqr{A:PAd}{c:CfM}{s:PlM}{o:Nat->Nat}(w W:Wa)(h:AE A c o s w W)(ht:lc s.took<=1000000) :Calls ZP 41 #[L (E ⟨A.P,0,O⟩)] W λe w'=>∃v,e=ra v/\Ax w' W.heap.size v s.took/\Bt W w':=by
 obtain⟨a,n,Z,X,U,Y⟩:∃a n Z,lc s.took=n/\W.cell? ⟨A.P,18,O⟩=E (T a n Z)/\SlK 2 W a n (AV s.took):=h.low λo1 h1=>by obtain⟨j,I,g2,J,g4⟩:=h1.part 1 om;obtain⟨a,Z,rfl,_,Y⟩:=SlK.own J.1;exact⟨a,_,Z,rfl,by simp only[cell?,I];rfl,Y⟩
 have C:=AA (aqB a n Z (AV s.took) W Y (λu N=>MC _ u N) om);have D:=AA X;clear h Y X;go_enter func41,ntmps41
 go_wp2_with (go_at_call 77;refine C.out.mono ?_;rintro e y ⟨v,rfl,ho,V⟩;have H:=AA ho;have B:=AA V;clear ho V)
 go_ret;refine⟨_,rfl,?_,B.out⟩;have:=H.out;rw[<-D.out]at this;exact this
def Ow(c:CfM)(s:PlM):Int×Int:=if Fd s=G then(if s.cancelled then(3,0) else if c.br then(4,s.read) else(2,0)) else(1,0)
theorem PQ{fn:Func}{p:Tmp}{tmps:Array Vh}{W:Wa}{B:Nat}{x y:Vh}(h:fn.results=#[.cell p 66])(Y:tmps.getD p undef=L (E ⟨B,0,O⟩))(hB:W.heap[B]?=E (i7 #[x,y] 66 (0,0))) :(results fn tmps).run ZP W=.ok (i8 #[x,y]) W:=by
 have X:(loadVar 66 ⟨B,0,O⟩).run ZP W=.ok (i8 #[x,y]) W:=run_loadVar_row W B 66 66 #[x,y] (0,0) _ hB underlying66 rfl kr;have Z:tmps[p]?.getD undef=.pointer (E ⟨B,0,O⟩):=by simpa using Y
 simp[results,h,Z,asAddr,X,Result.andThen]
def Ou(c:CfM)(s:PlM)(z:Int):Bool:=decide (0<=z)&&decide (z<(c.W+3:Nat))&&Bj c s z.toNat
def PA(c:CfM)(s:PlM)(z:Int):PlM:=if Ou c s z=G then Bi c s z.toNat else s
theorem aqG{A:PAd}{c:CfM}{s:PlM}{o:Nat->Nat}(w W:Wa)(h:AE A c o s w W)(X:OkC c)(ok:OkM c s)(t:Nat)(U:t<c.W+3)(J:Bj c s t=M) :Calls ZP 44 #[L (E ⟨A.P,0,O⟩),R K (t:Int)] W λe w'=>e=ra (i6 M)/\AE A c o s w w':=by
 obtain⟨N,I⟩:∃N,c.W+3=N:=⟨_,rfl⟩;have B:W.cell? ⟨A.P,15,O⟩=E (T (E ⟨A.TT,0,O⟩) N A.tc):=h.ceP 15 _ λ_=>by rw[<-I];rfl
 have C:W.cell? ⟨A.TT,t,O⟩=E (.iface (tyT c t) (L (E ⟨adT A c t,0,O⟩))):=h.low λD h1=>h1.task t U;have H:Hid (Calls ZP 321 #[L (E ⟨adT A c t,0,O⟩)] W λe w'=>e=ra (i6 M)/\Bt W w'):=h.low λD h1=>by
  have:=acu W h1 X ok t U
  rwa[J]at this
 obtain⟨ty,Z⟩:∃ty,tyT c t=ty:=⟨_,rfl⟩;have y:∀n Ta w,Sem.run ZP (method (n+1) ty (L (E ⟨Ta,0,O⟩)) "teasel/pool.ready") w=.ok (321,L (E ⟨Ta,0,O⟩)) w:=λn Ta w=>by rw[<-Z];exact agX _ (Jv c t) n Ta w
 obtain⟨Ta,Y⟩:∃Ta,adT A c t=Ta:=⟨_,rfl⟩;rw[Y]at H;rw[Z,Y]at C;have v:=AA h;have d0:decide ((t:Int)<0)=M:=by simp
 have d1:decide ((t:Int)>=(N:Int))=M:=by simp;omega
 have d2:decide ((N:Int)<=(t:Int))=M:=by simp;omega
 have d3:decide (N<=t)=M:=by simp;omega
 have i1:(0:Int)<=(t:Int):=by omega
 have i2:(t:Int)<(N:Int):=by omega
 clear h X ok U J I Y Z;go_enter func44,ntmps44
 go_wp2_with (go_at_call 321;refine H.out.mono ?_;rintro e w1 ⟨rfl,V⟩;have j:=AA V;clear V)
 go_ret;exact⟨rfl,v.out.bel j.out⟩
theorem aqo{A:PAd}{c:CfM}{s:PlM}{o:Nat->Nat}(w W:Wa)(h:AE A c o s w W)(z:Int)(Y:z<0∨(c.W+3:Nat)<=z) :Calls ZP 44 #[L (E ⟨A.P,0,O⟩),R K z] W λe w'=>e=ra (i6 M)/\AE A c o s w w':=by
 obtain⟨N,X⟩:∃N,c.W+3=N:=⟨_,rfl⟩;have U:W.cell? ⟨A.P,15,O⟩=E (T (E ⟨A.TT,0,O⟩) N A.tc):=h.ceP 15 _ λ_=>by rw[<-X];rfl
 rw[X]at Y;have V:=AA h;clear h X
 by_cases h0:z<0
 ·have J:decide (z<0)=G:=Lz h0;clear Y;go_enter func44,ntmps44;go_wp2;go_ret;exact⟨rfl,V.out⟩
 ·have J:decide (z<0)=M:=decide_eq_false h0;have Z:(N:Int)<=z:=by omega
  have I:decide ((N:Int)<=z)=G:=Lz Z;clear Y;go_enter func44,ntmps44;go_wp2;go_ret;exact⟨rfl,V.out⟩
theorem aq2{A:PAd}{c:CfM}{s:PlM}{o:Nat->Nat}(w W:Wa)(h:AE A c o s w W)(Z:OkC c)(ok:OkM c s)(z:Int) :Calls ZP 44 #[L (E ⟨A.P,0,O⟩),R K z] W λe w'=>e=ra (i6 (Ou c s z))/\AE A c o (PA c s z) w w':=by
 unfold PA
 by_cases Y:z<0∨(c.W+3:Nat)<=z
 ·have e:Ou c s z=M:=by
   unfold Ou
   rcases Y with h1|h1
   ·rw[decide_eq_false (by omega:¬0<=z)];rfl
   ·rw[decide_eq_false (by omega:¬z<(c.W+3:Nat)),Bool.and_false];rfl
  rw[e,Lb (by decide)];exact aqo w W h z Y
 ·obtain⟨t,rfl⟩:∃t:Nat,z=t:=⟨z.toNat,by omega⟩;have X:t<c.W+3:=by omega
  have e:Ou c s (t:Int)=Bj c s t:=by
   unfold Ou;rw[Lz (by omega:(0:Int)<=t),Lz (by omega:(t:Int)<(c.W+3:Nat)),Aa]
   rfl
  rw[e,Aa]
  cases V:Bj c s t with
  |true=>rw[Lc rfl];exact ahX w W h Z ok t X V
  |false=>rw[Lb (by decide)];exact aqG w W h Z ok t X V
theorem aq9{A:PAd}{c:CfM}{s:PlM}{o:Nat->Nat}(w W:Wa)(h:AE A c o s w W)(v:OkC c)(hl:lc s.wk=c.W) :Calls ZP 37 #[L (E ⟨A.P,0,O⟩)] W λe w'=>e=ra (i8 #[.int .u8 (Ow c s).1,R K (Ow c s).2])/\Bt W w':=by
 obtain⟨V,hV⟩:∃V,V=W.alloc (i7 #[.int .u8 0,R K 0] 66):=⟨_,rfl⟩;have I:Bt W V:=by rw[hV];exact AL _ _
 have hG:=h.bel I;have HO:Hid (Calls ZP 16 #[L (E ⟨A.P,0,O⟩)] V λe w'=>e=ra (i6 (Fd s))/\Bt V w'):=hG.low λo1 h1=>ahx V h1 v hl;have y:Hid (∀U,Bt V U->U.cell? ⟨A.P,19,O⟩=E (i6 s.cancelled)/\U.cell? ⟨A.P,9,O⟩=E (L (E ⟨A.S,0,O⟩))/\U.cell? ⟨A.P,17,O⟩=E (R K (s.read:Int))/\U.heap[W.heap.size]?=E (i7 #[.int .u8 0,R K 0] 66 (0,0))/\Calls ZP 76 #[L (E ⟨A.S,0,O⟩)] U λe w'=>e=ra (i6 c.br)/\Bt U w'):=λU D=>by
  have hu:=hG.bel D;have N:V.heap[W.heap.size]?=E (i7 #[.int .u8 0,R K 0] 66 (0,0)):=by rw[hV];exact AT _ _
  refine⟨hu.ceP 19 _ λ_=>rfl,hu.ceP 9 _ λ_=>rfl,hu.ceP 17 _ λ_=>rfl,(D.block _ (AD.1 N).1).trans N,hu.low λo1 h1=>?_⟩;obtain⟨a,n,cc,vs,g1,g2⟩:MM A c s (λk=>o1 k=2) U:=h1.part 2 om;exact aqc U g1
 have HB:=AA I;have a7:A.P≠W.heap.size:=h.low λo1 h1 e=>by obtain⟨tv,g1⟩:=h1.cP;have:=(AD.1 g1).1;omega
 obtain⟨Ob,hO⟩:∃b,Fd s=b:=⟨_,rfl⟩;obtain⟨C,hC⟩:∃b,s.cancelled=b:=⟨_,rfl⟩;obtain⟨B,hB⟩:∃b,c.br=b:=⟨_,rfl⟩;unfold Ow;rw[hO]at HO⊢;rw[hC,hB]at y⊢;obtain⟨S,hS⟩:∃S,W.heap.size=S:=⟨_,rfl⟩;rw[hS]at y a7;clear h hG v hl I hO hC hB
 cases Ob<;>cases C<;>cases B
 all_goals
  go_enter func37,ntmps37;go_upto_region 1 with fail
  rw[<-hV];have Z:=AA hS;clear hV hS;go_upto_region 3 with fail
  go_wp2_with fail
  refine HO.out.mono ?_;rintro e J ⟨rfl,X⟩;obtain⟨ac,k9,ad,N,j⟩:=y.out J X;have aa:=AA j;have HZ:=AA N;have z0:J.cell? ⟨S,0,O⟩=E (.int .u8 0):=by simp[cell?,N]
  have z1:J.cell? ⟨S,1,O⟩=E (R K 0):=by simp[cell?,N]
  have y0:J.frozen? ⟨S,0,O⟩=M:=by simp[frozen?,N]
  have y1:J.frozen? ⟨S,1,O⟩=M:=by simp[frozen?,N]
  have yl:S<J.heap.size:=(AD.1 N).1;have X1:Hid (Bt W J):=by rw[Hid];exact HB.out.trans (X.mono HB.out.size)
  have a8:Hid (∀U,Bt J U->U.cell? ⟨A.P,17,O⟩=E (R K (s.read:Int))/\U.heap[S]?=E (i7 #[.int .u8 0,R K 0] 66 (0,0))/\Bt W U):=λU D=>⟨(y.out U (X.trans (D.mono X.size))).2.2.1,(y.out U (X.trans (D.mono X.size))).2.2.2.1,X1.out.trans (D.mono X1.out.size)⟩;clear j N X HO y HB
  go_wp2_with (go_at_call 76;refine aa.out.mono ?_;rintro e H ⟨rfl,a2⟩;obtain⟨ae,Y,a1⟩:=a8.out H a2;have a6:=AA Y;have z2:H.cell? ⟨S,0,O⟩=E (.int .u8 0):=(by simp[cell?,Y]);have z3:H.cell? ⟨S,1,O⟩=E (R K 0):=(by simp[cell?,Y]);have y2:H.frozen? ⟨S,0,O⟩=M:=(by simp[frozen?,Y]);have y3:H.frozen? ⟨S,1,O⟩=M:=(by simp[frozen?,Y]);have ab:S<H.heap.size:=(AD.1 Y).1;have X2:=AA a1;clear Y a2 a1)
  first
   |exact Vf (PQ rfl rfl (by simpa using AJ (i:=1) (AJ (i:=0) HZ.out (.int .u8 1)) (R K 0))) rfl ⟨rfl,(X1.out.setCell (by rw[Z.out];exact AC _) _).setCell (by rw[Z.out];exact AC _) _⟩
   |exact Vf (PQ rfl rfl (by simpa using AJ (i:=1) (AJ (i:=0) HZ.out (.int .u8 3)) (R K 0))) rfl ⟨rfl,(X1.out.setCell (by rw[Z.out];exact AC _) _).setCell (by rw[Z.out];exact AC _) _⟩
   |exact Vf (PQ rfl rfl (by simpa using AJ (i:=1) (AJ (i:=0) a6.out (.int .u8 4)) (R K (s.read:Int)))) rfl ⟨rfl,(X2.out.setCell (by rw[Z.out];exact AC _) _).setCell (by rw[Z.out];exact AC _) _⟩
   |exact Vf (PQ rfl rfl (by simpa using AJ (i:=1) (AJ (i:=0) a6.out (.int .u8 2)) (R K 0))) rfl ⟨rfl,(X2.out.setCell (by rw[Z.out];exact AC _) _).setCell (by rw[Z.out];exact AC _) _⟩
def cW(br:Bool)(ans:List Bool):CfM:=⟨2,3,2,1,1,2,0,3,scF M heW 2,br,ans⟩
def rW:La:=[[117,115,104],[],[101,114,115]]
def nW(n:Nat):List Int:=(List.range n).map λk:Nat=>(k:Int)
theorem aqL(n:Nat):nW (n+1)=nW n++[(n:Int)]:=by unfold nW;rw[El,Aj];rfl
theorem PR{c:CfM}(n:Int):∀(l:List Int)(s:PlM),PJ c s (l++[n])=Fi c (PJ c s l) n
 |[],s=>rfl
 |m::l,s=>PR n l (Fi c s m)
def sP(n:Nat):PlM:=PJ (cW M []) (Bn (cW M []) rW) (nW n)
def sQ(n:Nat):PlM:=PJ (cW G [M]) (Bn (cW G [M]) rW) (nW n)
def sE(n:Nat):PlM:=PJ (cW G [M]) (LN (sQ 200)) (List.replicate n 0)
theorem ard(n:Nat):sP (n+1)=Fi (cW M []) (sP n) n:=by unfold sP;rw[aqL,PR]
theorem arb(n:Nat):sQ (n+1)=Fi (cW G [M]) (sQ n) n:=by unfold sQ;rw[aqL,PR]
theorem ar7(n:Nat):sE (n+1)=Fi (cW G [M]) (sE n) 0:=by unfold sE;rw[List.replicate_succ',PR]
theorem PH:Fd (sP 200)=G/\(sP 200).took=[(4,1),(4,0),(5,2)]/\(sP 200).cancelled=M/\Bj (cW M []) (sP 200) 0=M:=by decide+kernel
theorem PK:Fd (sQ 200)=M/\(sQ 200).took=[]/\(II (cW G [M]) (sQ 200)).length=1/\(sQ 200).cancelled=M:=by decide+kernel
theorem PZ:Fd (sE 60)=G/\(sE 60).cancelled=G/\(II (cW G [M]) (sE 60)).length=0:=by decide+kernel
theorem ar8:(Br (cW G [M]) (sE 60)).ph=[5,4,4,3,2]/\(Br (cW G [M]) (sE 60)).next=2/\(Br (cW G [M]) (sE 60)).number=2/\(Br (cW G [M]) (sE 60)).q=[]/\(Br (cW G [M]) (sE 60)).rg=[]/\(Br (cW G [M]) (sE 60)).out=0/\(Br (cW G [M]) (sE 60)).live=[]/\(Br (cW G [M]) (sE 60)).free=2/\(Br (cW G [M]) (sE 60)).shut=G/\(Br (cW G [M]) (sE 60)).ended=G/\(Br (cW G [M]) (sE 60)).canc=G/\(Br (cW G [M]) (sE 60)).read=6:=by decide+kernel
theorem are:(Br (cW M []) (sP 200)).ph=[5,4,4,3,2]/\(Br (cW M []) (sP 200)).next=2/\(Br (cW M []) (sP 200)).number=2/\(Br (cW M []) (sP 200)).q=[]/\(Br (cW M []) (sP 200)).rg=[]/\(Br (cW M []) (sP 200)).out=0/\(Br (cW M []) (sP 200)).live=[]/\(Br (cW M []) (sP 200)).free=2/\(Br (cW M []) (sP 200)).shut=G/\(Br (cW M []) (sP 200)).ended=G/\(Br (cW M []) (sP 200)).canc=M/\(Br (cW M []) (sP 200)).read=6:=by decide+kernel
def vwE(b:Bool):VwX:=⟨[5,4,4,3,2],2,2,[],[],0,[],2,G,G,b,6⟩
theorem VwX.ext'{x y:VwX}(h1:x.ph=y.ph)(h2:x.next=y.next)(h3:x.number=y.number)(h4:x.q=y.q)(h5:x.rg=y.rg)(h6:x.out=y.out)(h7:x.live=y.live)(h8:x.free=y.free)(h9:x.shut=y.shut)(h10:x.ended=y.ended)(h11:x.canc=y.canc)(Z:x.read=y.read):x=y:=by
 cases x
 cases y
 simp_all
theorem ark:Br (cW G [M]) (sE 60)=vwE G:=by obtain⟨h1,h2,h3,h4,h5,h6,h7,h8,h9,h10,h11,Z⟩:=ar8;exact VwX.ext' h1 h2 h3 h4 h5 h6 h7 h8 h9 h10 h11 Z
theorem arj:Br (cW M []) (sP 200)=vwE M:=by obtain⟨h1,h2,h3,h4,h5,h6,h7,h8,h9,h10,h11,Z⟩:=are;exact VwX.ext' h1 h2 h3 h4 h5 h6 h7 h8 h9 h10 h11 Z
section
variable {br:Bool}{ans:List Bool}
theorem Ov:OkC (cW br ans):=aok (c:=cW br ans) (by show Ce 2 3 2 1 1 2 0=G;decide) (by show 3<=32;decide)
theorem ar3:ML (cW br ans) 400 5:=ao2 (c:=cW br ans) rfl (by decide+kernel)
theorem aqm:FC (cW br ans) 400 5 120 0 (Bn (cW br ans) rW):=FC.new (by show 1<=2;decide) _ (by unfold FS;decide)
theorem PT{s:PlM}:∀(l:List Int)(s:PlM)(n:Nat),FC (cW br ans) 400 5 120 n s->FC (cW br ans) 400 5 120 (n+lc l) (PJ (cW br ans) s l)
 |[],s,n,h=>h
 |m::l,s,n,h=>by
  have:=PT (s:=s) l _ _ (h.pick (by show 3<=256;decide) ar3 m)
  rwa[show n+1+lc l=n+(m::l).length by rw[Ao];omega]at this
theorem okW{s:PlM}{n:Nat}(h:FC (cW br ans) 400 5 120 n s)(Z:n<=3900):OkM (cW br ans) s:=h.ok Ov Z (by decide) (by decide) ar3
end
theorem ar6(n:Nat):(nW n).length=n:=by simp[nW]
theorem PG(n:Nat):FC (cW M []) 400 5 120 n (sP n):=by have:=PT (s:=sP 0) (nW n) _ _ (aqm (br:=M) (ans:=[]));rwa[ar6,DD]at this
theorem PC(n:Nat):FC (cW G [M]) 400 5 120 n (sQ n):=by have:=PT (s:=sP 0) (nW n) _ _ (aqm (br:=G) (ans:=[M]));rwa[ar6,DD]at this
theorem PL(n:Nat):FC (cW G [M]) 400 5 120 (200+n) (sE n):=by have:=PT (s:=sP 0) (List.replicate n 0) _ _ (PC 200).cancel;rwa[CS]at this
end Go.Proofs.YtaamacoicojhnaaGreat
