/- Proofs over the given program, part 20. -/
import Derived.Test.YtaamacoicojhnaaGreatZB19
set_option linter.unusedVariables false
set_option linter.unusedSimpArgs false
set_option maxRecDepth 100000
set_option maxHeartbeats 16000000
open Go.Proofs.Tryz
open Go.Proofs.Tryz renaming prog→ZP
namespace Go.Proofs.YtaamacoicojhnaaGreat
open Go.RowKit Go.Sort
def npV (c:CfM)(m S Kk:Nat)(b q g o tv:Value):Array Value:=
 #[.pointer (some ⟨m,0,none⟩),.int .i64 (c.W:Int),.int .i64 (c.K:Int),.int .i64 (c.R:Int),.int .i64 (c.Q:Int),.int .i64 (c.O:Int),.int .i64 (c.S:Int),.int .i64 (c.F:Int),.int .i64 (c.wm:Int),.pointer (some ⟨S,0,none⟩),.pointer (some ⟨Kk,0,none⟩),b,q,g,o,tv,.int .i64 0,.int .i64 0,.slice none 0 0,.bool false]
theorem afj.below {q:Nat}{W V V':World}(h:afj q W V)(Z:Below V.heap.size V V'):afj q W V':=
 ⟨awT h.1 Z.size,fun k h1 h2 h3=>(Z.block k (ax6 h2 h.1)).trans (h.2 k h1 h2 h3)⟩
def cfV (c:CfM):Array Value:=#[.int .i64 (c.W:Int),.int .i64 (c.K:Int),.int .i64 (c.R:Int),.int .i64 (c.Q:Int),.int .i64 (c.O:Int),.int .i64 (c.S:Int),.int .i64 (c.F:Int)]
structure NpS (c:CfM)(m S Kk n0 P:Nat)(b q g o tv:Value)(V:World):Prop where
 box:V.heap[P]?=some (.cells (npV c m S Kk b q g o tv) 109 (0,0))
 conf:V.heap[n0]?=some (.cells (cfV c) 26 (0,0))
 lt:n0<P
section
variable {c:CfM}{m S Kk n0 P:Nat}{b q g o tv:Value}{V V':World}
theorem NpS.keep (h:NpS c m S Kk n0 P b q g o tv V)(Z:Below V.heap.size V V'):NpS c m S Kk n0 P b q g o tv V':=
 ⟨(Z.block _ (awU.1 h.box).1).trans h.box,(Z.block _ (awU.1 h.conf).1).trans h.conf,h.lt⟩
theorem NpS.ce (h:NpS c m S Kk n0 P b q g o tv V)(i:Nat)(v:Value)(e:(npV c m S Kk b q g o tv)[i]?=some v):V.cell? ⟨P,i,none⟩=some v:=by simp only [World.cell?,h.box];exact e
theorem NpS.fr (h:NpS c m S Kk n0 P b q g o tv V)(i:Nat):V.frozen? ⟨P,i,none⟩=false:=by simp [World.frozen?,h.box]
theorem NpS.cc (h:NpS c m S Kk n0 P b q g o tv V)(i:Nat)(v:Value)(e:(cfV c)[i]?=some v):V.cell? ⟨n0,i,none⟩=some v:=by simp only [World.cell?,h.conf];exact e
theorem NpS.plt (h:NpS c m S Kk n0 P b q g o tv V):P<V.heap.size:=(awU.1 h.box).1
theorem NpS.set (h:NpS c m S Kk n0 P b q g o tv V)(i:Nat)(v:Value){b' q' g' o' Z:Value}(e:(npV c m S Kk b q g o tv).setIfInBounds i v=npV c m S Kk b' q' g' o' Z):NpS c m S Kk n0 P b' q' g' o' Z (V.setCell ⟨P,i,none⟩ v):=
 ⟨by rw [<-e];exact aa4 (i:=i) h.box v,(axn V ⟨P,i,none⟩ v n0 (Nat.ne_of_lt h.lt)).trans h.conf,h.lt⟩
end
theorem anP:(ZP.info? 100).map (fun i=>(i.zero,i.size,i.bytes))=some (some .nilIface,1,16):=by kernel_rfl
structure Tk where
 ity:TypeId
 bty:TypeId
 a:Nat
 cs:Array Value
 f:Nat->Option Value
def ifV (t:Tk):Value:=.iface t.ity (.pointer (some ⟨t.a,0,none⟩))
def TkM (t:Tk)(V:World):Prop:=V.heap[t.a]?=some (.cells t.cs t.bty (0,0))/\akJ V (t.a+1) t.f/\t.a+2<=V.heap.size
structure TkI (n5:Nat)(tv:Value)(tl:List Tk)(V:World):Prop where
 row:V.ownsRow n5 100 1 tv tl.length (tl.map ifV)
 el:∀(i:Nat) (t:Tk),tl[i]?=some t->TkM t V/\n5<=t.a/\tv.ownBlock≠some t.a/\tv.ownBlock≠some (t.a+1)
 dj:∀(i j:Nat) (t u:Tk),tl[i]?=some t->tl[j]?=some u->i<j->t.a+2<=u.a∨u.a+2<=t.a
section
variable {n5 P:Nat}{tv:Value}{tl nw:List Tk}{t:Tk}{V D:World}{Y:Nat->Prop}
theorem TkM.keep (h:TkM t D)(Z:Chg Y D V)(h1:¬Y t.a)(h2:¬Y (t.a+1)):TkM t V:=
 ⟨(Z.block _ (awU.1 h.1).1 h1).trans h.1,h.2.1.keep Z h2,awT h.2.2 Z.size⟩
theorem TkI.keep (h:TkI n5 tv tl D)(Z:Below D.heap.size D V):TkI n5 tv tl V:=
 ⟨aag h.row Z,fun i t X=>let ⟨g1,g2⟩:=h.el i t X;⟨g1.keep (Y:=fun _=>False) (.of_same Z) id id,g2⟩,h.dj⟩
theorem TkI.nil (n5:Nat)(V:World):TkI n5 (.slice none 0 0) [] V:=⟨ayy _ _ _ _,fun i t Z=>by simp at Z,fun i j t u Z=>by simp at Z⟩
theorem TkI.app {c:CfM}{m S Kk n0:Nat}{b q g o:Value}(h:TkI n5 tv tl D)(hp:NpS c m S Kk n0 P b q g o tv D)(hP:P<n5)(ar:n5<=D.heap.size)(hl:tl.length<=1000)(hk:nw.length<=1000)(hD:Below D.heap.size D V)
  (hm:∀(i:Nat) (t:Tk),nw[i]?=some t->TkM t V/\D.heap.size<=t.a) (hj:∀(i j:Nat) (t u:Tk),nw[i]?=some t->nw[j]?=some u->i<j->t.a+2<=u.a∨u.a+2<=t.a) :
  ∃U c1 X,(Builtin.append_ #[103,103] 103 #[tv,.slice (some ⟨V.heap.size,0,none⟩) nw.length nw.length]).run ZP (V.alloc (.cells (nw.map ifV).toArray 100))=.ok (.slice U (tl.length+nw.length) c1) X/\
   NpS c m S Kk n0 P b q g o tv X/\NpS c m S Kk n0 P b q g o (.slice U (tl.length+nw.length) c1) (X.setCell ⟨P,15,none⟩ (.slice U (tl.length+nw.length) c1))/\
   TkI n5 (.slice U (tl.length+nw.length) c1) (tl++nw) (X.setCell ⟨P,15,none⟩ (.slice U (tl.length+nw.length) c1))/\
   Chg (fun k=>k=P∨n5<=k) D (X.setCell ⟨P,15,none⟩ (.slice U (tl.length+nw.length) c1)):=by
 obtain⟨i0,hi,af,ae,ad⟩:=info_parts anP;obtain⟨A,hA⟩:∃A,A=V.alloc (.cells (nw.map ifV).toArray 100):=⟨_,rfl⟩;have B:Below V.heap.size V A:=by rw [hA];exact aa1 _ _
 have aq:A.heap.size=V.heap.size+1:=by rw [hA];simp
 have am:=hD.size;have ao:Below D.heap.size D A:=hD.trans (B.mono am);have hV:=h.keep hD;have a7:=hp.keep hD;have av:=hp.plt;have ag:SlK 1 A (some ⟨V.heap.size,0,none⟩) nw.length (nw.map ifV):=by
  have hx:A.heap[V.heap.size]?=some (.cells (nw.map ifV).toArray 100 (0,0)):=by rw [hA];exact axg _ _
  refine⟨by simp,.inr ⟨_,0,rfl,by omega,fun i u H=>?_⟩⟩;have e:A.cell? ⟨V.heap.size,0+i,none⟩=(nw.map ifV).toArray[0+i]?:=by simp only [World.cell?,hx];rfl
  rw [e,axz,ax9];exact H
 rw [<-hA];obtain⟨v1,X,hr,aa,C,ab⟩:=aaq (P:=ZP) A n5 103 103 100 i0 .nilIface 1 16 underlying103 hi af ae ad rfl (by decide) tv tl.length (tl.map ifV) (aag hV.row B) (some ⟨V.heap.size,0,none⟩) nw.length nw.length (nw.map ifV) ag (fun u H=>by obtain⟨x,_,rfl⟩:=axE.1 H;rfl) (by unfold maxLen;omega) (by omega) (by omega);obtain⟨U,c1,rfl,_,_⟩:=SlK.own aa;have au:=C.size;have Z:∀g,tv.ownBlock=some g->n5<=g/\g<D.heap.size:=fun g e=>acx h.row g e;have I:∀k,k<V.heap.size->tv.ownBlock≠some k->X.heap[k]?=V.heap[k]?:=fun k hk ai=>(C.block k (by omega) (fun e=>ai e.symm)).trans (B.block k hk);have N:∀g,(Value.slice U (tl.length+nw.length) c1).ownBlock=some g->tv.ownBlock=some g∨g=A.heap.size:=fun g e=>by
  rcases ab with s | s
  · rw [s] at e;exact .inl e
  · rw [s] at e;exact .inr (awV e).symm
 have z:tv.ownBlock≠some P:=fun e=>by have:=Z P e;omega
 have a2:(Value.slice U (tl.length+nw.length) c1).ownBlock≠some P:=fun e=>by
  rcases N P e with s | s
  · exact z s
  · omega
 have a8:NpS c m S Kk n0 P b q g o tv X:=⟨(I P (by omega) z).trans a7.box,(I n0 (by have:=hp.lt;omega) (fun e=>by have:=Z n0 e;have:=hp.lt;omega)).trans a7.conf,hp.lt⟩;have a6:∀k,k≠P->(X.setCell ⟨P,15,none⟩ (.slice U (tl.length+nw.length) c1)).heap[k]?=X.heap[k]?:=fun k hk=>axn X ⟨P,15,none⟩ _ k hk;obtain⟨W2,v⟩:∃W2,W2=X.setCell ⟨P,15,none⟩ (.slice U (tl.length+nw.length) c1):=⟨_,rfl⟩;have ap:X.heap.size<=W2.heap.size:=by rw [v];simp [World.setCell]
 have ac:Chg (fun k=>k=P∨tv.ownBlock=some k) V W2:=by rw [v];exact ((Chg.of_same B).grown C fun g e _=>.inr e).set (.inl rfl)
 refine⟨U,c1,X,hr,a8,a8.set 15 _ rfl,⟨?_,fun i t J=>?_,fun i j t u J H ak=>?_⟩,?_⟩
 · rw [List.length_append,ay7];exact aaX aa fun g al=>a6 g fun e=>a2 (by rw [<-e];exact al)
 ·
  rw [<-v]
  by_cases y:i<tl.length
  ·
   rw [ax8 y] at J;obtain⟨g1,g2,g3,g4⟩:=hV.el i t J;have ah:=(h.el i t J).1.2.2;refine⟨g1.keep ac (fun e=>e.elim (fun e=>by omega) g3) (fun e=>e.elim (fun e=>by omega) g4),g2,fun e=>?_,fun e=>?_⟩
   · exact (N _ e).elim g3 fun e=>by omega
   · exact (N _ e).elim g4 fun e=>by omega
  ·
   rw [az9 (by omega)] at J;obtain⟨g1,g2⟩:=hm _ t J;have ah:=g1.2.2;have n1:tv.ownBlock≠some t.a:=fun e=>by have:=Z _ e;omega
   have n2:tv.ownBlock≠some (t.a+1):=fun e=>by have:=Z _ e;omega
   refine⟨g1.keep ac (fun e=>e.elim (fun e=>by omega) n1) (fun e=>e.elim (fun e=>by omega) n2),by omega,fun e=>?_,fun e=>?_⟩
   · exact (N _ e).elim n1 fun e=>by omega
   · exact (N _ e).elim n2 fun e=>by omega
 ·
  by_cases y:i<tl.length
  ·
   rw [ax8 y] at J
   by_cases aj:j<tl.length
   · rw [ax8 aj] at H;exact h.dj i j t u J H ak
   · rw [az9 (by omega)] at H;have h1:=(h.el i t J).1.2.2;have h2:=(hm _ u H).2;omega
  · rw [az9 (by omega)] at J H;exact hj _ _ t u J H (by omega)
 · exact ((Chg.of_same ao).grown C fun g e _=>.inr (Z g e).1).set (.inl rfl)
end
def aw3 (P a:Nat):Tk:=⟨175,245,a,csR P a (a+1),stR { atM with R:=a }⟩
def aw2 (P a:Nat):Tk:=⟨177,249,a,csW P a (a+1),stW { atM with Wk:=fun _=>a } 0⟩
def av4 (P a:Nat):Tk:=⟨179,251,a,csM P a (a+1),stM { atM with M:=a }⟩
def atS (P a:Nat):Tk:=⟨181,253,a,csE P a (a+1),stE { atM with E:=a }⟩
def afP (W P j a:Nat):Tk:=if j=0 then aw3 P a else if j<=W then aw2 P a else if j=W+1 then av4 P a else atS P a
def aoI (W P:Nat)(tl:List Tk):Prop:=∀(j:Nat) (t:Tk),tl[j]?=some t->t=afP W P j t.a
theorem aoI.snoc {W P:Nat}{tl:List Tk}{t:Tk}(h:aoI W P tl)(X:t=afP W P tl.length t.a):aoI W P (tl++[t]):=fun j u Z=>by
 by_cases U:j<tl.length
 · rw [ax8 U] at Z;exact h j u Z
 ·
  obtain rfl:j=tl.length:=by
   have:=(awR.1 Z).1;simp at this;omega
  rw [az9 (axe _),ayh] at Z
  cases awV Z
  exact X
theorem MkT.tkm {Z:TypeId}{f:Nat->Nat->Option Value}{cs:Nat->Nat->Array Value}{w V:World}{e:Ending}{t:Tk}(h:MkT Z f cs w e V)(h1:t.a=w.heap.size)(h2:t.cs=cs t.a (t.a+1))(h3:t.bty=Z)(h4:t.f=f t.a):TkM t V/\w.heap.size<=t.a:=by
 obtain⟨_,U,X,N,_⟩:=h;refine⟨⟨?_,?_,by omega⟩,by omega⟩
 · rw [h2,h3,h1];exact U
 · rw [h4,h1];exact X
theorem TkI.one {n5 P W:Nat}{tv:Value}{tl:List Tk}{t:Tk}{D V:World}{c:CfM}{m S Kk n0:Nat}{b q g o:Value}(h:TkI n5 tv tl D)(C:NpS c m S Kk n0 P b q g o tv D)(y:P<n5)(N:n5<=D.heap.size)(A:tl.length<=1000)(x:Below D.heap.size D V)
  (B:TkM t V/\D.heap.size<=t.a) (H:aoI W P tl) (I:t=afP W P tl.length t.a) :
  ∃Z n c1 X,(Builtin.append_ #[103,103] 103 #[tv,.slice (some ⟨V.heap.size,0,none⟩) 1 1]).run ZP (V.alloc (.cells #[ifV t] 100))=.ok (.slice Z n c1) X/\
   NpS c m S Kk n0 P b q g o tv X/\NpS c m S Kk n0 P b q g o (.slice Z n c1) (X.setCell ⟨P,15,none⟩ (.slice Z n c1))/\
   TkI n5 (.slice Z n c1) (tl++[t]) (X.setCell ⟨P,15,none⟩ (.slice Z n c1))/\aoI W P (tl++[t])/\
   Chg (fun k=>k=P∨n5<=k) D (X.setCell ⟨P,15,none⟩ (.slice Z n c1)):=by
 obtain⟨Z,c1,X,g1,g2,g3,e,s⟩:=h.app (nw:=[t]) C y N A (by simp) x (fun i u U=>by
  obtain rfl:i=0:=by have:=(awR.1 U).1;simp at this;omega
  cases awV U;exact B) (fun i j u v U J z=>by
  have:=(awR.1 J).1;simp at this;omega)
 exact⟨Z,_,c1,X,g1,g2,g3,e,H.snoc I,s⟩
structure atR (c:CfM)(P n1 n2 n3 n4 n5 Bb Bu Bd Q QB G GB O OB:Nat)(V:World):Prop where
 buf:ahM (fun k=>n1<=k/\k<n2) Bb Bu Bd (c.K+c.wm) ((List.range c.R).reverse.map fun x:Nat=>(x:Int)) (List.replicate c.R false) (List.replicate c.R []) V
 que:abd (fun k=>n2<=k/\k<n3) Q QB 0 0 false (List.replicate c.Q ⟨0,0,0,none,0,0,0⟩) V
 rng:adQ (fun k=>n3<=k/\k<n4) G GB 0 (List.replicate c.R ((none,0,0),false)) V
 out:ab9 (fun k=>n4<=k/\k<n5) O OB 0 0 false (List.replicate c.O (0,0)) V
 lt:P<n1/\n1<=n2/\n2<=n3/\n3<=n4/\n4<=n5/\n5<=V.heap.size
theorem ahM.keep6 {X Y:Nat->Prop}{B U D size:Nat}{fr:List Int}{us:List Bool}{ds:List (List Int)}{w w':World}(h:ahM X B U D size fr us ds w)(N:Chg Y w w')(Z:∀k,k<w.heap.size->X k->¬Y k):ahM X B U D size fr us ds w':=let ⟨a,b,d,g⟩:=h;⟨a,b,d,g.keep N Z⟩
theorem ahM.wide6 {X Y:Nat->Prop}{B U D size:Nat}{fr:List Int}{us:List Bool}{ds:List (List Int)}{w:World}(h:ahM X B U D size fr us ds w)(Z:∀k,k<w.heap.size->X k->Y k):ahM Y B U D size fr us ds w:=let ⟨a,b,d,g⟩:=h;⟨a,b,d,g.wide Z⟩
section
variable {c:CfM}{P n1 n2 n3 n4 n5 Bb Bu Bd Q QB G GB O OB:Nat}{V V' w6 w7 w8 w9 W6 W7 W8 W9:World}
theorem atR.keep (h:atR c P n1 n2 n3 n4 n5 Bb Bu Bd Q QB G GB O OB V)(Z:Chg (fun k=>k=P∨n5<=k) V V'):atR c P n1 n2 n3 n4 n5 Bb Bu Bd Q QB G GB O OB V':=by
 have Y:=h.lt;exact⟨h.buf.keep6 Z fun k _ h1 h2=>by omega,h.que.keep Z fun k _ h1 h2=>by omega,h.rng.keep Z fun k _ h1 h2=>by omega,h.out.keep Z fun k _ h1 h2=>by omega,by have:=Z.size;omega⟩
theorem atR.mk2 (X:ahM (fun k=>n1<=k) Bb Bu Bd (c.K+c.wm) ((List.range c.R).reverse.map fun x:Nat=>(x:Int)) (List.replicate c.R false) (List.replicate c.R []) w6)(h1:P<n1)(h2:n1<=w6.heap.size)(C:Chg (fun k=>k=P) w6 W6)(z:Below W6.heap.size W6 w7)
  (h:abd (fun k=>W6.heap.size<=k) Q QB 0 0 false (List.replicate c.Q ⟨0,0,0,none,0,0,0⟩) w7) (I:Chg (fun k=>k=P) w7 W7) (A:Below W7.heap.size W7 w8) (j:adQ (fun k=>W7.heap.size<=k) G GB 0 (List.replicate c.R ((none,0,0),false)) w8) (J:Chg (fun k=>k=P) w8 W8)
  (B:Below W8.heap.size W8 w9) (o:ab9 (fun k=>W8.heap.size<=k) O OB 0 0 false (List.replicate c.O (0,0)) w9) (N:Chg (fun k=>k=P) w9 W9):atR c P n1 W6.heap.size W7.heap.size W8.heap.size W9.heap.size Bb Bu Bd Q QB G GB O OB W9:=by
 have z6:=C.size;have z7:=z.size;have s:=I.size;have z8:=A.size;have v:=J.size;have z9:=B.size;have y:=N.size;have H:Chg (fun k=>k=P) W8 W9:=(Chg.of_same B).then N;have D:Chg (fun k=>k=P) W7 W9:=((Chg.of_same A).then J).then H;have e:Chg (fun k=>k=P) W6 W9:=((Chg.of_same z).then I).then D;refine⟨?_,?_,?_,?_,by omega⟩
 · exact (X.wide6 (Y:=fun k=>n1<=k/\k<W6.heap.size) fun k U Z=>(⟨Z,by omega⟩:n1<=k/\k<W6.heap.size)).keep6 (C.then e) fun k _ h3 h4=>by omega
 · exact (h.wide (Y:=fun k=>W6.heap.size<=k/\k<W7.heap.size) fun k U Z=>(⟨Z,by omega⟩:W6.heap.size<=k/\k<W7.heap.size)).keep (I.then D) fun k _ h3 h4=>by omega
 · exact (j.wide (Y:=fun k=>W7.heap.size<=k/\k<W8.heap.size) fun k U Z=>(⟨Z,by omega⟩:W7.heap.size<=k/\k<W8.heap.size)).keep (J.then H) fun k _ h3 h4=>by omega
 · exact (o.wide (Y:=fun k=>W8.heap.size<=k/\k<W9.heap.size) fun k U Z=>(⟨Z,by omega⟩:W8.heap.size<=k/\k<W9.heap.size)).keep N fun k _ h3 h4=>by omega
end
theorem TkM.below {t:Tk}{D V:World}(h:TkM t D)(Z:Below D.heap.size D V):TkM t V:=h.keep (Y:=fun _=>False) (.of_same Z) id id
theorem TkI.two {n5 P W:Nat}{U:Value}{Y:List Tk}{t u:Tk}{D V:World}{c:CfM}{m S Kk N:Nat}{b q g o:Value}(h:TkI n5 U Y D)(e:NpS c m S Kk N P b q g o U D)(hP:P<n5)(H:n5<=D.heap.size)(hl:Y.length<=1000)(hD:Below D.heap.size D V)
  (hm:TkM t V/\D.heap.size<=t.a) (A:TkM u V/\D.heap.size<=u.a) (hd:t.a+2<=u.a∨u.a+2<=t.a) (s:aoI W P Y) (z:t=afP W P Y.length t.a) (I:u=afP W P (Y.length+1) u.a) :
  ∃Z n c1 X,(Builtin.append_ #[103,103] 103 #[U,.slice (some ⟨V.heap.size,0,none⟩) 2 2]).run ZP (V.alloc (.cells #[ifV t,ifV u] 100))=.ok (.slice Z n c1) X/\
   NpS c m S Kk N P b q g o U X/\NpS c m S Kk N P b q g o (.slice Z n c1) (X.setCell ⟨P,15,none⟩ (.slice Z n c1))/\
   TkI n5 (.slice Z n c1) ((Y++[t])++[u]) (X.setCell ⟨P,15,none⟩ (.slice Z n c1))/\aoI W P ((Y++[t])++[u])/\
   Chg (fun k=>k=P∨n5<=k) D (X.setCell ⟨P,15,none⟩ (.slice Z n c1)):=by
 obtain⟨Z,c1,X,g1,g2,g3,g4,g5⟩:=h.app (nw:=[t,u]) e hP H hl (by simp) hD (fun i v J=>by
  have:=(awR.1 J).1;simp at this
  rcases (show i=0∨i=1 by omega) with rfl | rfl
  · cases awV J;exact hm
  · cases awV J;exact A) (fun i j x y B C a2=>by
  have:=(awR.1 C).1;simp at this;obtain rfl:i=0:=by omega
  obtain rfl:j=1:=by omega
  cases awV B
  cases awV C
  exact hd)
 refine⟨Z,_,c1,X,g1,g2,g3,?_,(s.snoc z).snoc (by rw [List.length_append];exact I),g5⟩;rw [ayi];exact g4
structure ap9 (c:CfM)(m S Kk:Nat)(w:World)(P n0 n1 n2 n3 n4 n5 Bb Bu Bd Q QB G GB O OB:Nat)(tv:Value)(tl:List Tk)(V:World):Prop where
 np:NpS c m S Kk n0 P (.pointer (some ⟨Bb,0,none⟩)) (.pointer (some ⟨Q,0,none⟩)) (.pointer (some ⟨G,0,none⟩)) (.pointer (some ⟨O,0,none⟩)) tv V
 ti:TkI n5 tv tl V
 sh:aoI c.W P tl
 len:tl.length=c.W+3
 grp:atR c P n1 n2 n3 n4 n5 Bb Bu Bd Q QB G GB O OB V
 lo:w.heap.size<=n0
 below:Below w.heap.size w V
theorem awl:∀m:Nat,m<=16->madeCells (Value.agg #[.int .i64 0,.int .i64 0]).cells (m*2)=(afc (List.replicate m (0,0))).toArray
 | 0,_=>by kernel_rfl
 | 1,_=>by kernel_rfl
 | 2,_=>by kernel_rfl
 | 3,_=>by kernel_rfl
 | 4,_=>by kernel_rfl
 | 5,_=>by kernel_rfl
 | 6,_=>by kernel_rfl
 | 7,_=>by kernel_rfl
 | 8,_=>by kernel_rfl
 | 9,_=>by kernel_rfl
 | 10,_=>by kernel_rfl
 | 11,_=>by kernel_rfl
 | 12,_=>by kernel_rfl
 | 13,_=>by kernel_rfl
 | 14,_=>by kernel_rfl
 | 15,_=>by kernel_rfl
 | 16,_=>by kernel_rfl
 | m+17,h=>absurd h (by omega)
theorem au2:∃i,ZP.info? 116=some i/\i.zero=some (.agg #[.int .i64 0,.int .i64 0])/\i.size=2/\i.bytes<=100:=by
 have h:((ZP.info? 116).map fun i=>(i.zero,i.size,decide (i.bytes<=100)))=some (some (.agg #[.int .i64 0,.int .i64 0]),2,true):=by kernel_rfl
 cases e:ZP.info? 116 with
 | none=>rw [e] at h;cases h
 | some i=>
  rw [e] at h;have h:=awV h
  injection h with h1 h2
  injection h2 with h2 h3
  exact⟨i,rfl,h1,h2,of_decide_eq_true h3⟩
theorem arZ (m:Nat)(w:World)(h1:1<=m)(h2:m<=16) :
  Calls ZP 99 #[.int .i64 (m:Int)] w fun e w'=>∃Q B,e=.returned (.tuple #[.pointer (some ⟨Q,0,none⟩),.int .i64 0])/\ab9 (fun k=>w.heap.size<=k) Q B 0 0 false (List.replicate m (0,0)) w'/\Below w.heap.size w w':=by
 have a1:∀V:World,(Instr.makeSlice 69 (.int .i64 m) (.int .i64 m)).run ZP V=.ok (.slice (some ⟨V.heap.size,0,none⟩) m m) (V.alloc (.cells (afc (List.replicate m (0,0))).toArray 116)):=fun V=>by
  obtain⟨H,hi,C,N,D⟩:=au2;have a2:H.bytes*m<=100*16:=axA D h2;have x:(H.bytes:Int)*(m:Int)<=281474976710656:=by rw [<-axB];omega
  have h:=run_makeSlice (P:=ZP) (w:=V) 69 116 H (.agg #[.int .i64 0,.int .i64 0]) underlying69 hi C .i64 .i64 (m:Int) (m:Int) (by omega) (by omega) (by rw [N];omega) x (by omega);rw [N,axs,awl m h2] at h;exact h
 have d0:decide ((m:Int)<1)=false:=by simp;omega
 have d1:decide ((m:Int) > 16)=false:=by simp;omega
 have a6:decide ((16:Int)<(m:Int))=false:=by simp;omega
 have d2:decide (m<1)=false:=by simp;omega
 have d3:decide (16<m)=false:=by simp;omega
 have d4:decide (m=0)=false:=by simp;omega
 have o:=ax3 (And.intro h1 h2);clear h1 h2;go_enter func99,ntmps99;go_wp2;go_ret2;obtain⟨h1,h2⟩:=o.out;have U:(List.replicate m (0,0):List aam).length=m:=axC;obtain⟨X,Z⟩:∃V,V=w.alloc (.cells (afc (List.replicate m (0,0))).toArray 116):=⟨_,rfl⟩;obtain⟨s,Y⟩:∃V,V=X.alloc (.cells #[.slice (some ⟨w.heap.size,0,none⟩) m m,.int .i64 0,.int .i64 0,.bool false] 205):=⟨_,rfl⟩;have z:X.heap[w.heap.size]?=some (.cells (afc (List.replicate m (0,0))).toArray 116 (0,0)):=by rw [Z];exact axg _ _
 have y:X.heap.size=w.heap.size+1:=by rw [Z];simp
 have A:s.heap[X.heap.size]?=some (.cells #[.slice (some ⟨w.heap.size,0,none⟩) m m,.int .i64 0,.int .i64 0,.bool false] 205 (0,0)):=by rw [Y];exact axg _ _
 have I:Below w.heap.size w X:=by rw [Z];exact aa1 _ _
 have J:Below X.heap.size X s:=by rw [Y];exact aa1 _ _
 have v:ab9 (fun k=>w.heap.size<=k) X.heap.size w.heap.size 0 0 false (List.replicate m (0,0)) s:=⟨by rw [U];exact A,(J.block w.heap.size (by omega)).trans z,⟨by show w.heap.size<=X.heap.size;omega,axe _⟩,by omega,by rw [U];omega⟩;have j:=I.trans (J.mono I.size);rw [y] at v;refine⟨w.heap.size+1,w.heap.size,rfl,?_,?_⟩
 · rw [Y,Z] at v;exact v
 · rw [Y,Z] at j;exact j
theorem awr:∀m:Nat,m<=16->madeCells (Value.agg #[.int .i64 0,.int .i64 0,.int .i64 0,.slice none 0 0,.int .i64 0]).cells (m*5)=(alr (List.replicate m ⟨0,0,0,none,0,0,0⟩)).toArray
 | 0,_=>by kernel_rfl
 | 1,_=>by kernel_rfl
 | 2,_=>by kernel_rfl
 | 3,_=>by kernel_rfl
 | 4,_=>by kernel_rfl
 | 5,_=>by kernel_rfl
 | 6,_=>by kernel_rfl
 | 7,_=>by kernel_rfl
 | 8,_=>by kernel_rfl
 | 9,_=>by kernel_rfl
 | 10,_=>by kernel_rfl
 | 11,_=>by kernel_rfl
 | 12,_=>by kernel_rfl
 | 13,_=>by kernel_rfl
 | 14,_=>by kernel_rfl
 | 15,_=>by kernel_rfl
 | 16,_=>by kernel_rfl
 | m+17,h=>absurd h (by omega)
theorem auh:∃i,ZP.info? 126=some i/\i.zero=some (.agg #[.int .i64 0,.int .i64 0,.int .i64 0,.slice none 0 0,.int .i64 0])/\i.size=5/\i.bytes<=100:=by
 have h:((ZP.info? 126).map fun i=>(i.zero,i.size,decide (i.bytes<=100)))=some (some (.agg #[.int .i64 0,.int .i64 0,.int .i64 0,.slice none 0 0,.int .i64 0]),5,true):=by kernel_rfl
 cases e:ZP.info? 126 with
 | none=>rw [e] at h;cases h
 | some i=>
  rw [e] at h;have h:=awV h
  injection h with h1 h2
  injection h2 with h2 h3
  exact⟨i,rfl,h1,h2,of_decide_eq_true h3⟩
theorem asW (m:Nat)(w:World)(h1:1<=m)(h2:m<=16) :
  Calls ZP 97 #[.int .i64 (m:Int)] w fun e w'=>∃Q B,e=.returned (.tuple #[.pointer (some ⟨Q,0,none⟩),.int .i64 0])/\abd (fun k=>w.heap.size<=k) Q B 0 0 false (List.replicate m ⟨0,0,0,none,0,0,0⟩) w'/\Below w.heap.size w w':=by
 have a1:∀V:World,(Instr.makeSlice 128 (.int .i64 m) (.int .i64 m)).run ZP V=.ok (.slice (some ⟨V.heap.size,0,none⟩) m m) (V.alloc (.cells (alr (List.replicate m ⟨0,0,0,none,0,0,0⟩)).toArray 126)):=fun V=>by
  obtain⟨H,hi,C,N,D⟩:=auh;have a2:H.bytes*m<=100*16:=axA D h2;have x:(H.bytes:Int)*(m:Int)<=281474976710656:=by rw [<-axB];omega
  have h:=run_makeSlice (P:=ZP) (w:=V) 128 126 H (.agg #[.int .i64 0,.int .i64 0,.int .i64 0,.slice none 0 0,.int .i64 0]) underlying128 hi C .i64 .i64 (m:Int) (m:Int) (by omega) (by omega) (by rw [N];omega) x (by omega);rw [N,axs,awr m h2] at h;exact h
 have d0:decide ((m:Int)<1)=false:=by simp;omega
 have d1:decide ((m:Int) > 16)=false:=by simp;omega
 have a6:decide ((16:Int)<(m:Int))=false:=by simp;omega
 have d2:decide (m<1)=false:=by simp;omega
 have d3:decide (16<m)=false:=by simp;omega
 have d4:decide (m=0)=false:=by simp;omega
 have o:=ax3 (And.intro h1 h2);clear h1 h2;go_enter func97,ntmps97;go_wp2;go_ret2;obtain⟨h1,h2⟩:=o.out;have U:(List.replicate m ⟨0,0,0,none,0,0,0⟩:List PcW).length=m:=axC;obtain⟨X,Z⟩:∃V,V=w.alloc (.cells (alr (List.replicate m ⟨0,0,0,none,0,0,0⟩)).toArray 126):=⟨_,rfl⟩;obtain⟨s,Y⟩:∃V,V=X.alloc (.cells #[.slice (some ⟨w.heap.size,0,none⟩) m m,.int .i64 0,.int .i64 0,.bool false] 214):=⟨_,rfl⟩;have z:X.heap[w.heap.size]?=some (.cells (alr (List.replicate m ⟨0,0,0,none,0,0,0⟩)).toArray 126 (0,0)):=by rw [Z];exact axg _ _
 have y:X.heap.size=w.heap.size+1:=by rw [Z];simp
 have A:s.heap[X.heap.size]?=some (.cells #[.slice (some ⟨w.heap.size,0,none⟩) m m,.int .i64 0,.int .i64 0,.bool false] 214 (0,0)):=by rw [Y];exact axg _ _
 have I:Below w.heap.size w X:=by rw [Z];exact aa1 _ _
 have J:Below X.heap.size X s:=by rw [Y];exact aa1 _ _
 have v:abd (fun k=>w.heap.size<=k) X.heap.size w.heap.size 0 0 false (List.replicate m ⟨0,0,0,none,0,0,0⟩) s:=⟨by rw [U];exact A,(J.block w.heap.size (by omega)).trans z,⟨by show w.heap.size<=X.heap.size;omega,axe _⟩,by omega,by rw [U];omega⟩;have j:=I.trans (J.mono I.size);rw [y] at v;refine⟨w.heap.size+1,w.heap.size,rfl,?_,?_⟩
 · rw [Y,Z] at v;exact v
 · rw [Y,Z] at j;exact j
section
attribute [local go_sem] aaT acg
theorem aqp (c:CfM)(m S Kk qm:Nat)(Wm w:World)(hc:ac2 c.W c.K c.R c.Q c.O c.S c.F=true)(hL:c.L<=32)(b8:∀V,afj qm Wm V->Calls ZP 95 #[.pointer (some ⟨m,0,none⟩)] V fun e w'=>e=.returned (.int .i64 (c.L:Int))/\V=w')(hk:afj qm Wm w) :
  Calls ZP 54 #[.pointer (some ⟨m,0,none⟩),.agg (ae4 c.W c.K c.R c.Q c.O c.S c.F),.pointer (some ⟨S,0,none⟩),.pointer (some ⟨Kk,0,none⟩)] w fun e w'=>∃P C n1 n2 n3 n4 n5 Bb Bu Bd Q QB G GB O OB tv H,e=.returned (.tuple #[.pointer (some ⟨P,0,none⟩),.int .i64 0])/\ap9 c m S Kk w P C n1 n2 n3 n4 n5 Bb Bu Bd Q QB G GB O OB tv H w':=by
 have HR:=af4 c.W c.K c.R c.Q c.O c.S c.F;rw [hc] at HR;have bG:=ax3 HR;have b1:=abE.1 hc;have B:=ax3 b1;have bO:=ax3 b8;have HK:=ax3 hk;clear b1 HR b8 hk hc;go_enter func54,ntmps54;go_upto_region 5 with (go_at_call 26;refine (bG.out _).mono ?_;rintro e w1 ⟨rfl,aT⟩)
 obtain⟨C,aD⟩:∃n,n=w.heap.size:=⟨_,rfl⟩;have aR:w1.heap[C]?=some (.cells (cfV c) 26 (0,0)):=by
  rw [aD];exact (aT.block _ (by simp)).trans (axg _ _)
 have aS:RowKit.Below w.heap.size w w1:=(aa1 w _).trans (aT.mono (by simp));have aZ:C<w1.heap.size:=(awU.1 aR).1;rw [<-aD];obtain⟨D,x⟩:∃D,D=w1.drew:=⟨_,rfl⟩;have U:RowKit.Below w1.heap.size w1 D:=by rw [x];exact aa2 w1 1
 have ap:RowKit.Below w.heap.size w D:=aS.trans (U.mono aS.size);have bh:=bO.out D (HK.out.below ap);have ak:D.heap[C]?=some (.cells (cfV c) 26 (0,0)):=(U.block C aZ).trans aR;have aX:IntKind.i64.wrap ((c.L:Int)-1)=(c.L:Int)-1:=by rw [ax2];omega
 have bA:max (0:Int) ((c.L:Int)-1)=(c.wm:Int):=by unfold CfM.wm;omega
 have aJ:=ax3 ap;have aM:=ax3 bh;have hP:(∀o:Obj,(D.alloc o).heap[C]?=some (.cells (cfV c) 26 (0,0))):=fun o=>((aa1 D o).block C (awU.1 ak).1).trans ak;have HP:=ax3 hP;have bN:=ax3 aD;clear aS U ap bh aT hP aD;refine wp_region_noPanic ?_;refine wp_region_held_drew (S:=fun Y=>Y.heap[C]?=some (.cells (cfV c) 26 (0,0))) (by kernel_rfl) (by rw [<-x];exact ak) (fun hHeld=>?_);rw [<-x] at hHeld ⊢;clear x aR;refine tkA 0 ?_;refine tkW 1 (v:=?_) ?_ ?_;rotate_left
 ·
  intro V hV;have q0:V.cell? ⟨C,0,none⟩=some (.int .i64 (c.W:Int)):=by simp only [World.cell?,hV];rfl
  have A:V.cell? ⟨C,1,none⟩=some (.int .i64 (c.K:Int)):=by simp only [World.cell?,hV];rfl
  have q2:V.cell? ⟨C,2,none⟩=some (.int .i64 (c.R:Int)):=by simp only [World.cell?,hV];rfl
  have q3:V.cell? ⟨C,3,none⟩=some (.int .i64 (c.Q:Int)):=by simp only [World.cell?,hV];rfl
  have q4:V.cell? ⟨C,4,none⟩=some (.int .i64 (c.O:Int)):=by simp only [World.cell?,hV];rfl
  have q5:V.cell? ⟨C,5,none⟩=some (.int .i64 (c.S:Int)):=by simp only [World.cell?,hV];rfl
  have q6:V.cell? ⟨C,6,none⟩=some (.int .i64 (c.F:Int)):=by simp only [World.cell?,hV];rfl
  first | (go_simp;done) | (go_simp;with_reducible rfl)
 try simp only [Act.put,pA,pB,pC]
 refine tkA 2 ?_;refine tkA 6 ?_;refine tkA 7 ?_;refine rdy 3 (fun K Z=>?_);go_simp
 go_at_call 95;refine (aM.out).mono ?_;rintro e w5 ⟨rfl,rfl⟩
 refine Z.out _ _ (ak) (fun h3=>?_);clear Z K
 try simp only [Act.put,pA,pB,pC]
 refine tkA 4 ?_;refine rdy 5 (fun K Z=>?_);go_simp;refine Z.out _ _ hHeld (fun h5=>?_);clear Z K
 try simp only [Act.put,pA,pB,pC]
 refine tkA 8 ?_;refine rdy 9 (fun K Z=>?_);go_simp;refine Z.out _ _ (HP.out _) (fun h9=>?_);clear Z K
 try simp only [Act.put,pA,pB,pC]
 refine tkA 10 ?_;refine wpAnyH_done (by kernel_rfl) ?_ _;refine ax4 ?_;obtain⟨P,ay⟩:∃P,P=D.heap.size:=⟨_,rfl⟩;obtain⟨W5,ax⟩:∃V,V=D.alloc (.cells (npV c m S Kk (.pointer none) (.pointer none) (.pointer none) (.pointer none) (.slice none 0 0)) 109):=⟨_,rfl⟩;have b7:NpS c m S Kk C P (.pointer none) (.pointer none) (.pointer none) (.pointer none) (.slice none 0 0) W5:=⟨by rw [ax,ay];exact axg _ _,by rw [ax];exact HP.out _,by rw [ay];exact (awU.1 ak).1⟩;have b9:RowKit.Below w.heap.size w W5:=by rw [ax];exact aJ.out.trans ((aa1 D _).mono aJ.out.size)
 have b5:w.heap.size<=P:=by rw [ay];exact aJ.out.size
 have ae:=ax;unfold npV at ae;rw [<-ae,<-ay];have bL:=ax3 b7;have bu:=ax3 b9;have bd:=ax3 b5;clear ax ay ae b7 b9 h9 h5 h3 hHeld ak HP aM aJ aZ bA aX b5;obtain⟨D6,x⟩:∃D6,D6=W5.drew:=⟨_,rfl⟩;have U:RowKit.Below W5.heap.size W5 D6:=by rw [x];exact aa2 W5 1
 have b6:=bL.out.keep U;have ap:=bu.out.trans (U.mono bu.out.size);have bQ:c.wm<=31:=by unfold CfM.wm;omega
 obtain⟨sz,aQ⟩:∃sz,sz=c.K+c.wm:=⟨_,rfl⟩;have bT:IntKind.i64.wrap ((c.K:Int)+(c.wm:Int))=(sz:Int):=by have:=B.out;rw [ax2,aQ];omega
 have bm:=ax3 (asb c.R sz D6 (by have:=B.out;omega) (by have:=B.out;omega) (by have:=B.out;omega) (by have:=B.out;omega));have ai:=ax3 b6;have aN:=ax3 ap;have bF:=ax3 aQ;clear U b6 ap aQ;go_upto_region 6 with fail
 refine wp_region_noPanic ?_;refine wp_region_held_drew (S:=fun Y=>Y.heap[C]?=some (.cells (cfV c) 26 (0,0))/\Y.cell? ⟨P,8,none⟩=some (.int .i64 (c.wm:Int))) (by kernel_rfl) (by rw [<-x];exact⟨ai.out.conf,ai.out.ce 8 _ rfl⟩) (fun hHeld=>?_);rw [<-x] at hHeld ⊢;clear x;refine tkA 0 ?_;refine tkA 1 ?_;refine tkW 2 (v:=?_) ?_ ?_;rotate_left
 ·
  intro V hV;have q2:V.cell? ⟨C,2,none⟩=some (.int .i64 (c.R:Int)):=by simp only [World.cell?,hV.1];rfl
  first | (go_simp;done) | (go_simp;with_reducible rfl)
 try simp only [Act.put,pA,pB,pC]
 refine tkA 3 ?_;refine tkW 4 (v:=?_) ?_ ?_;rotate_left
 ·
  intro V hV;have A:V.cell? ⟨C,1,none⟩=some (.int .i64 (c.K:Int)):=by simp only [World.cell?,hV.1];rfl
  first | (go_simp;done) | (go_simp;with_reducible rfl)
 try simp only [Act.put,pA,pB,pC]
 refine tkA 5 ?_;refine tkA 6 ?_;refine tkA 7 ?_;refine tkW 8 (v:=?_) ?_ ?_;rotate_left
 ·
  intro V hV;have q8:=hV.2
  first | (go_simp;done) | (go_simp;with_reducible rfl)
 try simp only [Act.put,pA,pB,pC]
 refine tkA 9 ?_;refine rdy 10 (fun K Z=>?_);go_simp
 go_at_call 96;refine bm.out.mono ?_;rintro e w6 ⟨Bb,Bu,Bd,rfl,aK,hb⟩
 have am:=ai.out.keep hb;refine Z.out _ _ ⟨am.conf,am.ce 8 _ rfl⟩ (fun h10=>?_);clear Z K
 try simp only [Act.put,pA,pB,pC]
 have j1:=am.fr 11;have j2:=am.ce 11 _ rfl;have bK:=ax3 am;have bt:=ax3 (aN.out.trans (hb.mono aN.out.size));have bP:=ax3 hb.size;have bo:=ax3 aK;clear am hb aK bm;refine tkA 11 ?_;refine tkA 12 ?_;refine tkA 13 ?_;refine tkA 14 ?_;refine tkA 15 ?_;refine rdy 16 (fun K Z=>?_);go_simp;have aF:=bK.out.set (b':=.pointer (some ⟨Bb,0,none⟩)) 11 (.pointer (some ⟨Bb,0,none⟩)) rfl;refine Z.out _ _ ⟨aF.conf,aF.ce 8 _ rfl⟩ (fun bD=>?_);clear Z K
 try simp only [Act.put,pA,pB,pC]
 have aB:=ax3 ((Chg.refl (fun k=>k=P) w6).set (g:=P) (i:=11) (v:=.pointer (some ⟨Bb,0,none⟩)) rfl);have aI:=ax3 aF;clear aF bD h10 j1 j2;refine wpAnyH_done (by kernel_rfl) ?_ _;refine ax4 ?_;obtain⟨W6,b4⟩:∃V,V=w6.setCell ⟨P,11,none⟩ (.pointer (some ⟨Bb,0,none⟩)):=⟨_,rfl⟩;rw [<-b4] at aB aI ⊢;clear b4;have bl:=ax3 (asW c.Q W6 (by have:=B.out;omega) (by have:=B.out;omega));have k7:=aI.out.cc 3 (.int .i64 (c.Q:Int)) rfl;go_upto_region 8 with (go_at_call 97;refine bl.out.mono ?_;rintro e w7 ⟨Q,QB,rfl,ac,hb⟩;have hN:=aI.out.keep hb;have j1:=hN.fr 12;have j2:=hN.ce 12 _ rfl;have bg:=ax3 hN;have bs:=ax3 hb;have bJ:=ax3 ac;clear hN hb ac)
 have aH:=ax3 (bg.out.set (q':=.pointer (some ⟨Q,0,none⟩)) 12 (.pointer (some ⟨Q,0,none⟩)) rfl);have aW:=ax3 ((Chg.refl (fun k=>k=P) w7).set (g:=P) (i:=12) (v:=.pointer (some ⟨Q,0,none⟩)) rfl);obtain⟨W7,b3⟩:∃V,V=w7.setCell ⟨P,12,none⟩ (.pointer (some ⟨Q,0,none⟩)):=⟨_,rfl⟩;rw [<-b3] at aW aH ⊢;clear b3 j1 j2 k7 bl bg aI;have bk:=ax3 (asD c.R W7 (by have:=B.out;omega) (by have:=B.out;omega));have k8:=aH.out.cc 2 (.int .i64 (c.R:Int)) rfl;go_upto_region 9 with (go_at_call 98;refine bk.out.mono ?_;rintro e w8 ⟨G,GB,rfl,ac,hb⟩;have hN:=aH.out.keep hb;have j1:=hN.fr 13;have j2:=hN.ce 13 _ rfl;have bf:=ax3 hN;have bq:=ax3 hb;have bI:=ax3 ac;clear hN hb ac)
 have aG:=ax3 (bf.out.set (g':=.pointer (some ⟨G,0,none⟩)) 13 (.pointer (some ⟨G,0,none⟩)) rfl);have aV:=ax3 ((Chg.refl (fun k=>k=P) w8).set (g:=P) (i:=13) (v:=.pointer (some ⟨G,0,none⟩)) rfl);obtain⟨W8,al⟩:∃V,V=w8.setCell ⟨P,13,none⟩ (.pointer (some ⟨G,0,none⟩)):=⟨_,rfl⟩;rw [<-al] at aV aG ⊢;clear al j1 j2 k8 bk bf aH;have bj:=ax3 (arZ c.O W8 (by have:=B.out;omega) (by have:=B.out;omega));have k9:=aG.out.cc 4 (.int .i64 (c.O:Int)) rfl;go_upto_region 10 with (go_at_call 99;refine bj.out.mono ?_;rintro e w9 ⟨O,OB,rfl,ac,hb⟩;have hN:=aG.out.keep hb;have j1:=hN.fr 14;have j2:=hN.ce 14 _ rfl;have be:=ax3 hN;have bp:=ax3 hb;have bH:=ax3 ac;clear hN hb ac)
 have aA:=ax3 (be.out.set (o':=.pointer (some ⟨O,0,none⟩)) 14 (.pointer (some ⟨O,0,none⟩)) rfl);have aU:=ax3 ((Chg.refl (fun k=>k=P) w9).set (g:=P) (i:=14) (v:=.pointer (some ⟨O,0,none⟩)) rfl);obtain⟨W9,b2⟩:∃V,V=w9.setCell ⟨P,14,none⟩ (.pointer (some ⟨O,0,none⟩)):=⟨_,rfl⟩;rw [<-b2] at aU aA ⊢;clear b2 j1 j2 k9 bj be aG;obtain⟨n5,aw⟩:∃n,n=W9.heap.size:=⟨_,rfl⟩;obtain⟨D,x⟩:∃D,D=W9.drew:=⟨_,rfl⟩;have U:RowKit.Below W9.heap.size W9 D:=by rw [x];exact aa2 W9 1
 have pD:=aA.out.keep U;have zD:=pD.ce 15 _ rfl;have a6:=ax3 (TkI.nil n5 D);have J:=ax3 (And.intro (show P<n5 by rw [aw];exact aA.out.plt) (show n5<=D.heap.size by rw [aw];exact U.size));have a2:Hid (([]:List Tk).length<=1000):=by show 0<=1000;omega
 have a7:Hid (aoI c.W P []):=fun j t ht=>by simp at ht
 have aC:Hid (aw3 P D.heap.size=afP c.W P ([]:List Tk).length (aw3 P D.heap.size).a):=rfl;have aa:Hid (Chg (fun k=>k=P∨n5<=k) W9 D):=Chg.of_same U;have ag:=ax3 (ars P D);have aL:=ax3 aw;have aO:=ax3 (bt.out.trans (((((((aB.out.then (Chg.of_same bs.out)).then aW.out).then (Chg.of_same bq.out)).then aV.out).then (Chg.of_same bp.out)).then aU.out).below bt.out.size fun k hk hx=>by have:=bd.out;omega));have bi:Hid (atR c P D6.heap.size W6.heap.size W7.heap.size W8.heap.size n5 Bb Bu Bd Q QB G GB O OB W9):=by rw [aw];exact atR.mk2 (by rw [<-bF.out];exact bo.out) ai.out.plt bP.out aB.out bs.out bJ.out aW.out bq.out bI.out aV.out bp.out bH.out aU.out
 clear U aw;go_upto_region 10 with fail
 refine wp_region_noPanic ?_;refine wp_region_held_drew (S:=fun Y=>True) (by kernel_rfl) trivial (fun hHeld=>?_);rw [<-x];clear x;refine tkA 0 ?_;refine tkA 1 ?_;refine tkA 2 ?_;refine tkA 3 ?_;refine tkA 5 ?_;refine awN 4 6 (fun K Z=>?_) (fun K Z=>?_)
 focus
  go_simp;refine Z.out _ _ trivial (fun h4=>?_);clear Z K h4
  try simp only [Act.put,pA,pB,pC]
  refine rdy 6 (fun K Z=>?_);go_simp
  go_at_call 100;refine ag.out.mono ?_;rintro e aP X
  obtain rfl:=X.1;have z:=X.2.2.2.2;have pV:=pD.keep z;have zV:=(pV.ce 15 _ rfl);have zA:=pV.plt;have ab:=ax3 X;clear X z pV;refine Z.out _ _ trivial (fun h6=>?_);clear Z K h6
  try simp only [Act.put,pA,pB,pC]
  refine tkA 7 ?_;refine rdy 8 (fun K Z=>?_);go_simp;refine Z.out _ _ trivial (fun h8=>?_);clear Z K h8
  try simp only [Act.put,pA,pB,pC]
 rotate_left
 focus
  go_simp
  go_at_call 100;refine ag.out.mono ?_;rintro e aP X
  obtain rfl:=X.1;have z:=X.2.2.2.2;have pV:=pD.keep z;have zV:=(pV.ce 15 _ rfl);have zA:=pV.plt;have ab:=ax3 X;clear X z pV;refine Z.out _ _ trivial (fun h6=>?_);clear Z K h6
  try simp only [Act.put,pA,pB,pC]
  refine tkA 7 ?_;refine awN 4 8 (fun K Z=>?_) (fun K Z=>?_)
  focus
   go_simp;refine Z.out _ _ trivial (fun h4=>?_);clear Z K h4
   try simp only [Act.put,pA,pB,pC]
   refine rdy 8 (fun K Z=>?_);go_simp;refine Z.out _ _ trivial (fun h8=>?_);clear Z K h8
   try simp only [Act.put,pA,pB,pC]
  rotate_left
  focus
   go_simp;refine Z.out _ _ trivial (fun h8=>?_);clear Z K h8
   try simp only [Act.put,pA,pB,pC]
   refine rdy 4 (fun K Z=>?_);go_simp;refine Z.out _ _ trivial (fun h4=>?_);clear Z K h4
   try simp only [Act.put,pA,pB,pC]
 all_goals
  clear zV zA;have a8:=ax3 pD;clear pD zD;obtain⟨a1,nn,c1,W1,hr,A,q2,q3,q4,q5⟩:=a6.out.one (W:=c.W) (t:=aw3 P D.heap.size) a8.out J.out.1 J.out.2 a2.out ab.out.2.2.2.2 (ab.out.tkm rfl rfl rfl rfl) a7.out aC.out;have HR:=ax3 hr;have j1:=A.fr 15;have j2:=A.ce 15 _ rfl;have Q2:=ax3 q2;have Q3:=ax3 q3;have Q4:=ax3 q4;have Q5:=ax3 (aa.out.trans q5 fun k _ hk=>hk);clear hr A q2 q3 q4 q5;refine rdy 9 (fun K Z=>?_);refine aaP (.tmp 73) (.tmp 77) 103 rfl _ _ rfl rfl rfl HR.out ?_;refine Z.out _ _ trivial (fun h9=>?_);clear Z K h9
  try simp only [Act.put,pA,pB,pC]
  refine tkA 10 ?_;refine tkA 11 ?_;refine rdy 12 (fun K Z=>?_);go_simp;refine Z.out _ _ trivial (fun y=>?_);clear Z K y
  try simp only [Act.put,pA,pB,pC]
  clear j1 j2;obtain⟨WN,I⟩:∃V,V=W1.setCell ⟨P,15,none⟩ (.slice a1 nn c1):=⟨_,rfl⟩;rw [<-I] at Q2 Q3 Q5 ⊢;clear I HR ab;refine wpAnyH_done (by kernel_rfl) ?_ _;refine ax4 ?_;have az:Hid (∃tv H,H.length=0+1/\TkI n5 tv H WN/\NpS c m S Kk C P (.pointer (some ⟨Bb,0,none⟩)) (.pointer (some ⟨Q,0,none⟩)) (.pointer (some ⟨G,0,none⟩)) (.pointer (some ⟨O,0,none⟩)) tv WN/\aoI c.W P H):=⟨_,_,rfl,Q3.out,Q2.out,Q4.out⟩;clear Q2 Q3 Q4 a6 a2 a7 aC aa ag a8
 all_goals
  obtain⟨bR,bS,bB,bx,b0,bz⟩:=az.out;have bw:=b0.cc 0 (.int .i64 (c.W:Int)) rfl;clear bx b0 bz bB;go_upto_region 12 with fail
  clear bw
  go_loopw [83] (fun bv wr=>∃(i:Nat),i<=c.W/\bv=.int .i64 i/\Hid (∃tv H,H.length=i+1/\TkI n5 tv H wr/\NpS c m S Kk C P (.pointer (some ⟨Bb,0,none⟩)) (.pointer (some ⟨Q,0,none⟩)) (.pointer (some ⟨G,0,none⟩)) (.pointer (some ⟨O,0,none⟩)) tv wr/\aoI c.W P H)/\Hid (Chg (fun k=>k=P∨n5<=k) W9 wr)) (fun s _=>c.W-(intOf s).toNat)
  case atStart=>exact⟨0,axh _,rfl,az,Q5⟩
  case round=>
   clear az Q5;obtain⟨i,bV,rfl,aE,ao⟩:=hrel
   by_cases bC:i<c.W
   ·
    have hd:decide ((i:Int)<(c.W:Int))=true:=by simp;omega
    obtain⟨tv,H,hl,ar,av,au⟩:=aE.out;obtain⟨D,x⟩:∃D,D=wr.drew:=⟨_,rfl⟩;have U:RowKit.Below wr.heap.size wr D:=by rw [x];exact aa2 wr 1
    have al:=B.out.1.2;have pD:=av.keep U;have zD:=pD.ce 15 _ rfl;have a6:=ax3 (ar.keep U);have ad:=ax3 (And.intro J.out.1 (show n5<=D.heap.size by have:=ao.out.size;have:=U.size;have:=aL.out;omega));have a2:Hid (H.length<=1000):=by show H.length<=1000;omega
    have N:=ax3 hl;have a7:=ax3 au;have aC:Hid (aw2 P D.heap.size=afP c.W P H.length (aw2 P D.heap.size).a):=by
     show _=_;unfold afP;rw [if_neg (by omega),if_pos (by omega)]
     rfl
    have aa:=ax3 (ao.out.then (Chg.of_same U));have ag:=ax3 (asC P D);have i1:(0:Int)<=(i:Int):=by omega
    have i2:(i:Int)<(c.W:Int):=by omega
    have bU:IntKind.i64.wrap ((i:Int)+1)=((i+1:Nat):Int):=by rw [ax2];omega
    have aY:wrap64 ((i:Int)+1)=((i+1:Nat):Int):=avY (n:=c.W) (by omega) bC;clear U ar av au hl ao aE J al;have J:=ad;clear ad;go_upto_region 13 with fail
    refine wp_region_noPanic ?_;refine wp_region_held_drew (S:=fun Y=>True) (by kernel_rfl) trivial (fun hHeld=>?_);rw [<-x];clear x;refine tkA 0 ?_;refine tkA 1 ?_;refine tkA 2 ?_;refine tkA 3 ?_;refine tkA 5 ?_;refine awN 4 6 (fun K Z=>?_) (fun K Z=>?_)
    focus
     go_simp;refine Z.out _ _ trivial (fun h4=>?_);clear Z K h4
     try simp only [Act.put,pA,pB,pC]
     refine rdy 6 (fun K Z=>?_);go_simp
     go_at_call 101;refine ag.out.mono ?_;rintro e aP X
     obtain rfl:=X.1;have z:=X.2.2.2.2;have pV:=pD.keep z;have zV:=(pV.ce 15 _ rfl);have zA:=pV.plt;have ab:=ax3 X;clear X z pV;refine Z.out _ _ trivial (fun h6=>?_);clear Z K h6
     try simp only [Act.put,pA,pB,pC]
     refine tkA 7 ?_;refine rdy 8 (fun K Z=>?_);go_simp;refine Z.out _ _ trivial (fun h8=>?_);clear Z K h8
     try simp only [Act.put,pA,pB,pC]
    rotate_left
    focus
     go_simp
     go_at_call 101;refine ag.out.mono ?_;rintro e aP X
     obtain rfl:=X.1;have z:=X.2.2.2.2;have pV:=pD.keep z;have zV:=(pV.ce 15 _ rfl);have zA:=pV.plt;have ab:=ax3 X;clear X z pV;refine Z.out _ _ trivial (fun h6=>?_);clear Z K h6
     try simp only [Act.put,pA,pB,pC]
     refine tkA 7 ?_;refine awN 4 8 (fun K Z=>?_) (fun K Z=>?_)
     focus
      go_simp;refine Z.out _ _ trivial (fun h4=>?_);clear Z K h4
      try simp only [Act.put,pA,pB,pC]
      refine rdy 8 (fun K Z=>?_);go_simp;refine Z.out _ _ trivial (fun h8=>?_);clear Z K h8
      try simp only [Act.put,pA,pB,pC]
     rotate_left
     focus
      go_simp;refine Z.out _ _ trivial (fun h8=>?_);clear Z K h8
      try simp only [Act.put,pA,pB,pC]
      refine rdy 4 (fun K Z=>?_);go_simp;refine Z.out _ _ trivial (fun h4=>?_);clear Z K h4
      try simp only [Act.put,pA,pB,pC]
    all_goals
     clear zV zA;have a8:=ax3 pD;clear pD zD;obtain⟨a1,nn,c1,W1,hr,A,q2,q3,q4,q5⟩:=a6.out.one (W:=c.W) (t:=aw2 P D.heap.size) a8.out J.out.1 J.out.2 a2.out ab.out.2.2.2.2 (ab.out.tkm rfl rfl rfl rfl) a7.out aC.out;have HR:=ax3 hr;have j1:=A.fr 15;have j2:=A.ce 15 _ rfl;have Q2:=ax3 q2;have Q3:=ax3 q3;have Q4:=ax3 q4;have Q5:=ax3 (aa.out.trans q5 fun k _ hk=>hk);clear hr A q2 q3 q4 q5;refine rdy 9 (fun K Z=>?_);refine aaP (.tmp 89) (.tmp 93) 103 rfl _ _ rfl rfl rfl HR.out ?_;refine Z.out _ _ trivial (fun h9=>?_);clear Z K h9
     try simp only [Act.put,pA,pB,pC]
     refine tkA 10 ?_;refine tkA 11 ?_;refine rdy 12 (fun K Z=>?_);go_simp;refine Z.out _ _ trivial (fun y=>?_);clear Z K y
     try simp only [Act.put,pA,pB,pC]
     clear j1 j2;obtain⟨WN,I⟩:∃V,V=W1.setCell ⟨P,15,none⟩ (.slice a1 nn c1):=⟨_,rfl⟩;rw [<-I] at Q2 Q3 Q5 ⊢;clear I HR ab;refine wpAnyH_done (by kernel_rfl) ?_ _;refine ax4 ?_;have bb:Hid (∃tv H,H.length=(i+1)+1/\TkI n5 tv H WN/\NpS c m S Kk C P (.pointer (some ⟨Bb,0,none⟩)) (.pointer (some ⟨Q,0,none⟩)) (.pointer (some ⟨G,0,none⟩)) (.pointer (some ⟨O,0,none⟩)) tv WN/\aoI c.W P H):=⟨_,_,by rw [List.length_append,N.out];rfl,Q3.out,Q2.out,Q4.out⟩;clear Q2 Q3 Q4 a6 a2 a7 aC aa ag a8 N;go_wp2
     go_roundw
     case rel=>exact⟨i+1,by omega,by first | rfl | simp [aY],bb,Q5⟩
     case measure=>(try simp only [aY]);simp [intOf];omega
   ·
    obtain rfl:i=c.W:=by omega
    have hd:decide ((c.W:Int)<(c.W:Int))=false:=by simp
    go_upto_region 15 with fail
    obtain⟨tv,H,hl,ar,av,au⟩:=aE.out;obtain⟨D,x⟩:∃D,D=wr.drew:=⟨_,rfl⟩;have U:RowKit.Below wr.heap.size wr D:=by rw [x];exact aa2 wr 1
    have al:=B.out.1.2;have pD:=av.keep U;have zD:=pD.ce 15 _ rfl;have a8:=ax3 pD;have a6:=ax3 (ar.keep U);have ad:=ax3 (And.intro J.out.1 (show n5<=D.heap.size by have:=ao.out.size;have:=U.size;have:=aL.out;omega));have a2:Hid (H.length<=1000):=by show H.length<=1000;omega
    have N:=ax3 hl;have a7:=ax3 au;have aa:=ax3 (ao.out.then (Chg.of_same U));have aq:=ax3 (aso P);have ah:=ax3 (asG P);have aj:Hid (∀tv H V,NpS c m S Kk C P (.pointer (some ⟨Bb,0,none⟩)) (.pointer (some ⟨Q,0,none⟩)) (.pointer (some ⟨G,0,none⟩)) (.pointer (some ⟨O,0,none⟩)) tv V->TkI n5 tv H V->aoI c.W P H->H.length=c.W+3->Chg (fun k=>k=P∨n5<=k) W9 V->∃P' C n1 n2 n3 n4 n5 Bb Bu Bd Q QB G GB O OB tv H,Ending.returned (.tuple #[.pointer (some ⟨P,0,none⟩),.int .i64 0])=Ending.returned (.tuple #[.pointer (some ⟨P',0,none⟩),.int .i64 0])/\ap9 c m S Kk w P' C n1 n2 n3 n4 n5 Bb Bu Bd Q QB G GB O OB tv H V):=fun tv H V r1 r2 r3 r4 r5=>⟨P,C,_,_,_,_,n5,Bb,Bu,Bd,Q,QB,G,GB,O,OB,tv,H,rfl,r1,r2,r3,r4,bi.out.keep r5,by rw [bN.out];exact axe _,aO.out.trans (r5.below aO.out.size fun k hk hx=>by have:=bd.out;have:=J.out.1;omega)⟩;clear U ar av au hl ao aE J al;have J:=ad;clear ad;go_upto_region 15 with fail
    refine wp_region_noPanic ?_;refine wp_region_held_drew (S:=fun Y=>True) (by kernel_rfl) trivial (fun hHeld=>?_);rw [<-x];clear x;refine tkA 0 ?_;refine tkA 1 ?_;refine tkA 2 ?_;refine tkA 3 ?_;refine tkA 5 ?_;refine tkA 8 ?_;refine awN 4 6 (fun K Z=>?_) (fun K Z=>?_)
    ·
     go_simp;refine Z.out _ _ trivial (fun h4=>?_);clear Z K h4
     try simp only [Act.put,pA,pB,pC]
     refine rdy 6 (fun K Z=>?_);go_simp
     go_at_call 102;refine (aq.out _).mono ?_;rintro e wa X
     obtain rfl:=X.1;have h:=X.2.2.2.2;have kM:=ax3 (X.tkm (t:=av4 P D.heap.size) rfl rfl rfl rfl);have sM:=ax3 X.2.2.2.1;clear X;have za:=((pD.keep h).ce 15 _ rfl);have pa:=pD.keep h;have la:=pa.plt;refine Z.out _ _ trivial (fun h6=>?_);clear Z K h6
     try simp only [Act.put,pA,pB,pC]
     refine tkA 7 ?_;refine rdy 9 (fun K Z=>?_);go_simp
     go_at_call 103;refine (ah.out _).mono ?_;rintro e wb X
     obtain rfl:=X.1;have bE:=X.2.2.2.2;have kE:=ax3 (X.tkm (t:=atS P wa.heap.size) rfl rfl rfl rfl);have sE:=ax3 X.2.2.2.1;clear X;have zb:=((pa.keep bE).ce 15 _ rfl);have pb:=pa.keep bE;have lb:=pb.plt;refine Z.out _ _ trivial (fun h9=>?_);clear Z K h9
     try simp only [Act.put,pA,pB,pC]
     refine tkA 10 ?_;refine rdy 11 (fun K Z=>?_);go_simp;refine Z.out _ _ trivial (fun h11=>?_);clear Z K h11
     try simp only [Act.put,pA,pB,pC]
     obtain⟨a1,nn,c1,W1,hr,A,q2,q3,q4,q5⟩:=a6.out.two (W:=c.W) (t:=av4 P D.heap.size) (u:=atS P wa.heap.size) a8.out J.out.1 J.out.2 a2.out (h.trans (bE.mono h.size)) (⟨kM.out.1.below bE,kM.out.2⟩) (⟨kE.out.1,by have:=kE.out.2;have:=h.size;omega⟩) (.inl (by have:=sM.out;show D.heap.size+2<=wa.heap.size;omega)) a7.out (by rw [N.out];unfold afP;rw [if_neg (by omega),if_neg (by omega),if_pos rfl];rfl) (by rw [N.out];unfold afP;rw [if_neg (by omega),if_neg (by omega),if_neg (by omega)];rfl);have HR:=ax3 hr;have j1:=A.fr 15;have j2:=A.ce 15 _ rfl;have Q2:=ax3 q2;have Q3:=ax3 q3;have Q4:=ax3 q4;have Q5:=ax3 (aa.out.trans q5 fun k _ hk=>hk);clear hr A q2 q3 q4 q5 kM kE h bE sM sE pD zD aq ah;refine rdy 12 (fun K Z=>?_);refine aaP (.tmp 102) (.tmp 109) 103 rfl _ _ rfl rfl rfl HR.out ?_;refine Z.out _ _ trivial (fun y=>?_);clear Z K y
     try simp only [Act.put,pA,pB,pC]
     refine tkA 13 ?_;refine tkA 14 ?_;refine rdy 15 (fun K Z=>?_);go_simp;refine Z.out _ _ trivial (fun af=>?_);clear Z K af
     try simp only [Act.put,pA,pB,pC]
     clear j1 j2;obtain⟨WN,I⟩:∃V,V=W1.setCell ⟨P,15,none⟩ (.slice a1 nn c1):=⟨_,rfl⟩;rw [<-I] at Q2 Q3 Q5 ⊢;clear I HR;refine wpAnyH_done (by kernel_rfl) ?_ _;refine ax4 ?_;go_wp2;go_ret2;exact aj.out _ _ _ Q2.out Q3.out Q4.out (by simp [N.out]) Q5.out
    ·
     go_simp
     go_at_call 102;refine (aq.out _).mono ?_;rintro e wa X
     obtain rfl:=X.1;have h:=X.2.2.2.2;have kM:=ax3 (X.tkm (t:=av4 P D.heap.size) rfl rfl rfl rfl);have sM:=ax3 X.2.2.2.1;clear X;have za:=((pD.keep h).ce 15 _ rfl);have pa:=pD.keep h;have la:=pa.plt;refine Z.out _ _ trivial (fun h6=>?_);clear Z K h6
     try simp only [Act.put,pA,pB,pC]
     refine tkA 7 ?_;refine awN 4 9 (fun K Z=>?_) (fun K Z=>?_)
     ·
      go_simp;refine Z.out _ _ trivial (fun h4=>?_);clear Z K h4
      try simp only [Act.put,pA,pB,pC]
      refine rdy 9 (fun K Z=>?_);go_simp
      go_at_call 103;refine (ah.out _).mono ?_;rintro e wb X
      obtain rfl:=X.1;have bE:=X.2.2.2.2;have kE:=ax3 (X.tkm (t:=atS P wa.heap.size) rfl rfl rfl rfl);have sE:=ax3 X.2.2.2.1;clear X;have zb:=((pa.keep bE).ce 15 _ rfl);have pb:=pa.keep bE;have lb:=pb.plt;refine Z.out _ _ trivial (fun h9=>?_);clear Z K h9
      try simp only [Act.put,pA,pB,pC]
      refine tkA 10 ?_;refine rdy 11 (fun K Z=>?_);go_simp;refine Z.out _ _ trivial (fun h11=>?_);clear Z K h11
      try simp only [Act.put,pA,pB,pC]
      obtain⟨a1,nn,c1,W1,hr,A,q2,q3,q4,q5⟩:=a6.out.two (W:=c.W) (t:=av4 P D.heap.size) (u:=atS P wa.heap.size) a8.out J.out.1 J.out.2 a2.out (h.trans (bE.mono h.size)) (⟨kM.out.1.below bE,kM.out.2⟩) (⟨kE.out.1,by have:=kE.out.2;have:=h.size;omega⟩) (.inl (by have:=sM.out;show D.heap.size+2<=wa.heap.size;omega)) a7.out (by rw [N.out];unfold afP;rw [if_neg (by omega),if_neg (by omega),if_pos rfl];rfl) (by rw [N.out];unfold afP;rw [if_neg (by omega),if_neg (by omega),if_neg (by omega)];rfl);have HR:=ax3 hr;have j1:=A.fr 15;have j2:=A.ce 15 _ rfl;have Q2:=ax3 q2;have Q3:=ax3 q3;have Q4:=ax3 q4;have Q5:=ax3 (aa.out.trans q5 fun k _ hk=>hk);clear hr A q2 q3 q4 q5 kM kE h bE sM sE pD zD aq ah;refine rdy 12 (fun K Z=>?_);refine aaP (.tmp 102) (.tmp 109) 103 rfl _ _ rfl rfl rfl HR.out ?_;refine Z.out _ _ trivial (fun y=>?_);clear Z K y
      try simp only [Act.put,pA,pB,pC]
      refine tkA 13 ?_;refine tkA 14 ?_;refine rdy 15 (fun K Z=>?_);go_simp;refine Z.out _ _ trivial (fun af=>?_);clear Z K af
      try simp only [Act.put,pA,pB,pC]
      clear j1 j2;obtain⟨WN,I⟩:∃V,V=W1.setCell ⟨P,15,none⟩ (.slice a1 nn c1):=⟨_,rfl⟩;rw [<-I] at Q2 Q3 Q5 ⊢;clear I HR;refine wpAnyH_done (by kernel_rfl) ?_ _;refine ax4 ?_;go_wp2;go_ret2;exact aj.out _ _ _ Q2.out Q3.out Q4.out (by simp [N.out]) Q5.out
     ·
      go_simp
      go_at_call 103;refine (ah.out _).mono ?_;rintro e wb X
      obtain rfl:=X.1;have bE:=X.2.2.2.2;have kE:=ax3 (X.tkm (t:=atS P wa.heap.size) rfl rfl rfl rfl);have sE:=ax3 X.2.2.2.1;clear X;have zb:=((pa.keep bE).ce 15 _ rfl);have pb:=pa.keep bE;have lb:=pb.plt;refine Z.out _ _ trivial (fun h9=>?_);clear Z K h9
      try simp only [Act.put,pA,pB,pC]
      refine tkA 10 ?_;refine awN 4 11 (fun K Z=>?_) (fun K Z=>?_)
      ·
       go_simp;refine Z.out _ _ trivial (fun h4=>?_);clear Z K h4
       try simp only [Act.put,pA,pB,pC]
       refine rdy 11 (fun K Z=>?_);go_simp;refine Z.out _ _ trivial (fun h11=>?_);clear Z K h11
       try simp only [Act.put,pA,pB,pC]
       obtain⟨a1,nn,c1,W1,hr,A,q2,q3,q4,q5⟩:=a6.out.two (W:=c.W) (t:=av4 P D.heap.size) (u:=atS P wa.heap.size) a8.out J.out.1 J.out.2 a2.out (h.trans (bE.mono h.size)) (⟨kM.out.1.below bE,kM.out.2⟩) (⟨kE.out.1,by have:=kE.out.2;have:=h.size;omega⟩) (.inl (by have:=sM.out;show D.heap.size+2<=wa.heap.size;omega)) a7.out (by rw [N.out];unfold afP;rw [if_neg (by omega),if_neg (by omega),if_pos rfl];rfl) (by rw [N.out];unfold afP;rw [if_neg (by omega),if_neg (by omega),if_neg (by omega)];rfl);have HR:=ax3 hr;have j1:=A.fr 15;have j2:=A.ce 15 _ rfl;have Q2:=ax3 q2;have Q3:=ax3 q3;have Q4:=ax3 q4;have Q5:=ax3 (aa.out.trans q5 fun k _ hk=>hk);clear hr A q2 q3 q4 q5 kM kE h bE sM sE pD zD aq ah;refine rdy 12 (fun K Z=>?_);refine aaP (.tmp 102) (.tmp 109) 103 rfl _ _ rfl rfl rfl HR.out ?_;refine Z.out _ _ trivial (fun y=>?_);clear Z K y
       try simp only [Act.put,pA,pB,pC]
       refine tkA 13 ?_;refine tkA 14 ?_;refine rdy 15 (fun K Z=>?_);go_simp;refine Z.out _ _ trivial (fun af=>?_);clear Z K af
       try simp only [Act.put,pA,pB,pC]
       clear j1 j2;obtain⟨WN,I⟩:∃V,V=W1.setCell ⟨P,15,none⟩ (.slice a1 nn c1):=⟨_,rfl⟩;rw [<-I] at Q2 Q3 Q5 ⊢;clear I HR;refine wpAnyH_done (by kernel_rfl) ?_ _;refine ax4 ?_;go_wp2;go_ret2;exact aj.out _ _ _ Q2.out Q3.out Q4.out (by simp [N.out]) Q5.out
      ·
       go_simp;refine Z.out _ _ trivial (fun h11=>?_);clear Z K h11
       try simp only [Act.put,pA,pB,pC]
       refine rdy 4 (fun K Z=>?_);go_simp;refine Z.out _ _ trivial (fun h4=>?_);clear Z K h4
       try simp only [Act.put,pA,pB,pC]
       obtain⟨a1,nn,c1,W1,hr,A,q2,q3,q4,q5⟩:=a6.out.two (W:=c.W) (t:=av4 P D.heap.size) (u:=atS P wa.heap.size) a8.out J.out.1 J.out.2 a2.out (h.trans (bE.mono h.size)) (⟨kM.out.1.below bE,kM.out.2⟩) (⟨kE.out.1,by have:=kE.out.2;have:=h.size;omega⟩) (.inl (by have:=sM.out;show D.heap.size+2<=wa.heap.size;omega)) a7.out (by rw [N.out];unfold afP;rw [if_neg (by omega),if_neg (by omega),if_pos rfl];rfl) (by rw [N.out];unfold afP;rw [if_neg (by omega),if_neg (by omega),if_neg (by omega)];rfl);have HR:=ax3 hr;have j1:=A.fr 15;have j2:=A.ce 15 _ rfl;have Q2:=ax3 q2;have Q3:=ax3 q3;have Q4:=ax3 q4;have Q5:=ax3 (aa.out.trans q5 fun k _ hk=>hk);clear hr A q2 q3 q4 q5 kM kE h bE sM sE pD zD aq ah;refine rdy 12 (fun K Z=>?_);refine aaP (.tmp 102) (.tmp 109) 103 rfl _ _ rfl rfl rfl HR.out ?_;refine Z.out _ _ trivial (fun y=>?_);clear Z K y
       try simp only [Act.put,pA,pB,pC]
       refine tkA 13 ?_;refine tkA 14 ?_;refine rdy 15 (fun K Z=>?_);go_simp;refine Z.out _ _ trivial (fun af=>?_);clear Z K af
       try simp only [Act.put,pA,pB,pC]
       clear j1 j2;obtain⟨WN,I⟩:∃V,V=W1.setCell ⟨P,15,none⟩ (.slice a1 nn c1):=⟨_,rfl⟩;rw [<-I] at Q2 Q3 Q5 ⊢;clear I HR;refine wpAnyH_done (by kernel_rfl) ?_ _;refine ax4 ?_;go_wp2;go_ret2;exact aj.out _ _ _ Q2.out Q3.out Q4.out (by simp [N.out]) Q5.out
end
section
def aeF (tl:List Tk)(j:Nat):Nat:=(tl[j]?.map Tk.a).getD 0
open Classical in
noncomputable def agT (o0:Nat->Nat) (sz W P n1 n2 n3 n4 n5 Z:Nat) (tl:List Tk) (k:Nat):Nat:=
 if k<sz then o0 k else if Z<=k then 1000000 else if k=P then 1 else if n1<=k/\k<n2 then 4 else if n2<=k/\k<n3 then 5 else if n3<=k/\k<n4 then 6 else if n4<=k/\k<n5 then 7 else
  if k=aeF tl 0 then 8 else if k=aeF tl (W+1) then 9 else if k=aeF tl (W+2) then 10 else if h:∃i,i<W/\aeF tl (i+1)=k then 11+Classical.choose h else 0
section
variable {c:CfM}{m S Kk:Nat}{w V:World}{P n0 n1 n2 n3 n4 n5 Bb Bu Bd Q QB G GB O OB:Nat}{tv:Value}{tl:List Tk}{o0:Nat->Nat}
theorem ap9.get (h:ap9 c m S Kk w P n0 n1 n2 n3 n4 n5 Bb Bu Bd Q QB G GB O OB tv tl V){j:Nat}(Y:j<c.W+3):∃t,tl[j]?=some t/\t.a=aeF tl j/\t=afP c.W P j t.a:=by
 have Z:j<tl.length:=by rw [h.len];exact Y
 have e:tl[j]?=some tl[j]:=ay4 Z;exact⟨_,e,by unfold aeF;rw [e];rfl,h.sh j _ e⟩
theorem ap9.apart (h:ap9 c m S Kk w P n0 n1 n2 n3 n4 n5 Bb Bu Bd Q QB G GB O OB tv tl V){i j:Nat}(U:i<c.W+3)(X:j<c.W+3)(Y:i≠j):aeF tl i+2<=aeF tl j∨aeF tl j+2<=aeF tl i:=by
 obtain⟨t,h1,h2,_⟩:=h.get U;obtain⟨u,h3,h4,_⟩:=h.get X;rw [<-h2,<-h4]
 rcases Nat.lt_or_gt_of_ne Y with Z | Z
 · exact h.ti.dj i j t u h1 h3 Z
 · exact (h.ti.dj j i u t h3 h1 Z).symm
theorem ap9.own (h:ap9 c m S Kk w P n0 n1 n2 n3 n4 n5 Bb Bu Bd Q QB G GB O OB tv tl V){j:Nat}(D:j<c.W+3):agT o0 w.heap.size c.W P n1 n2 n3 n4 n5 V.heap.size tl (aeF tl j)=(if j=0 then 8 else if j<=c.W then 10+j else if j=c.W+1 then 9 else 10)/\agT o0 w.heap.size c.W P n1 n2 n3 n4 n5 V.heap.size tl (aeF tl j+1)=0:=by
 obtain⟨t,h1,h2,_⟩:=h.get D;obtain⟨y,z,o,s⟩:=h.ti.el j t h1;have x:=h.grp.lt;have C:=y.2.2;have A:=h.lo;have B:=h.np.lt;rw [h2] at C z;have Y:=fun i (N:i<c.W+3) (X:i≠j)=>h.apart N D X
 constructor
 ·
  unfold agT;rw [if_neg (by omega),if_neg (by omega),if_neg (by omega),if_neg (by omega),if_neg (by omega),if_neg (by omega),if_neg (by omega)]
  by_cases J:j=0
  · subst J;rw [if_pos rfl,if_pos rfl]
  ·
   rw [if_neg (by have:=Y 0 (by omega) (Ne.symm J);omega),if_neg J]
   by_cases H:j=c.W+1
   · subst H;rw [if_pos rfl,if_neg (by omega),if_pos rfl]
   ·
    rw [if_neg (by have:=Y (c.W+1) (by omega) (Ne.symm H);omega)]
    by_cases I:j=c.W+2
    · subst I;rw [if_pos rfl,if_neg (by omega),if_neg (by omega)]
    ·
     rw [if_neg (by have:=Y (c.W+2) (by omega) (Ne.symm I);omega),if_pos (by omega)];have U:∃i,i<c.W/\aeF tl (i+1)=aeF tl j:=⟨j-1,by omega,by rw [show j-1+1=j by omega]⟩;rw [dif_pos U];have v:=Classical.choose_spec U;have:Classical.choose U+1=j:=ayv fun Z=>by
      have:=Y (Classical.choose U+1) (by omega) Z;omega
     omega
 ·
  unfold agT;have Z:∀i,i<c.W+3->aeF tl j+1≠aeF tl i:=fun i N e=>by
   by_cases X:i=j
   · subst X;omega
   · have:=Y i N X;omega
  rw [if_neg (by omega),if_neg (by omega),if_neg (by omega),if_neg (by omega),if_neg (by omega),if_neg (by omega),if_neg (by omega),if_neg (Z 0 (by omega)),if_neg (Z (c.W+1) (by omega)),if_neg (Z (c.W+2) (by omega)),dif_neg fun ⟨i,N,e⟩=>Z (i+1) (by omega) e.symm]
theorem ap9.row (h:ap9 c m S Kk w P n0 n1 n2 n3 n4 n5 Bb Bu Bd Q QB G GB O OB tv tl V):∃g cap,tv=.slice (some ⟨g,0,none⟩) (c.W+3) cap/\c.W+3<=cap/\g<V.heap.size/\agT o0 w.heap.size c.W P n1 n2 n3 n4 n5 V.heap.size tl g=0/\g≠P/\∀j t,tl[j]?=some t->V.cell? ⟨g,j,none⟩=some (ifV t):=by
 have x:=h.grp.lt;have H:=h.lo;have I:=h.np.lt
 rcases h.ti.row.2 with ⟨_,h0⟩ | ⟨g,cap,B,e,y,U,X,z,A,Y⟩
 · have:=h.len;omega
 ·
  rw [h.len] at e X Y;have D:=(awU.1 U).1;have Z:∀i,i<c.W+3->g≠aeF tl i:=fun i J C=>by
   obtain⟨t,h1,h2,_⟩:=h.get J;exact (h.ti.el i t h1).2.2.1 (by rw [e,h2,<-C];rfl)
  refine⟨g,cap,e,X,D,?_,by omega,fun j t N=>?_⟩
  · unfold agT;rw [if_neg (by omega),if_neg (by omega),if_neg (by omega),if_neg (by omega),if_neg (by omega),if_neg (by omega),if_neg (by omega),if_neg (Z 0 (by omega)),if_neg (Z (c.W+1) (by omega)),if_neg (Z (c.W+2) (by omega)),dif_neg fun ⟨i,J,e⟩=>Z (i+1) (by omega) e.symm]
  ·
   have v:j<c.W+3:=by rw [<-h.len];exact (awR.1 N).1
   have:(tl.map ifV)[j]?=some (ifV t):=by rw [axa,N];rfl
   rw [<-Y,azd (by omega),Array.getElem?_toList] at this;simp only [World.cell?,U];exact this
def adN (P m S Kk Bb Bu Bd Q QB G GB O OB g cap W q:Nat)(tl:List Tk)(Wm:World):PAd:=
 ⟨P,m,S,Kk,Bb,Bu,Bd,Q,QB,G,GB,O,OB,g,cap,aeF tl 0,fun i=>aeF tl (i+1),aeF tl (W+1),aeF tl (W+2),aeF tl 0+1,fun i=>aeF tl (i+1)+1,aeF tl (W+1)+1,aeF tl (W+2)+1,q,Wm⟩
theorem aua (h:ap9 c m S Kk w P n0 n1 n2 n3 n4 n5 Bb Bu Bd Q QB G GB O OB tv tl V){q:Nat}{Wm:World}{rs:List (List Int)}{s:List TVw}{o ka:Option Addr}{C sc kn kc:Nat}(ho:∀k,w.heap.size<=k->o0 k=1000000)(hs:adS (fun k=>o0 k=2) S o C sc s rs c.br 0 w)(z:C<=1000000)
  (U:afh (fun k=>o0 k=3) Kk ka kn kc (.slice none 0 0) c.ans [] 0 w) (hm:∀V,afj q Wm V->asm m c V) (I:afj q Wm w) (hz:∀k,q<=k->k<Wm.heap.size->o0 k=0) (hr:1<=c.R) (hq:1<=c.Q) (a1:1<=c.O) :
  ∃g cap,aa8 (adN P m S Kk Bb Bu Bd Q QB G GB O OB g cap c.W q tl Wm) c (agT o0 w.heap.size c.W P n1 n2 n3 n4 n5 V.heap.size tl) (ajI c rs) V:=by
 obtain⟨g,cap,v,r2,r3,r4,r5,r6⟩:=h.row (o0:=o0);subst v;have hl:=h.grp.lt;have a6:=h.lo;have a2:=h.np.lt;have a7:=h.below.size;obtain⟨A,hA⟩:∃A,adN P m S Kk Bb Bu Bd Q QB G GB O OB g cap c.W q tl Wm=A:=⟨_,rfl⟩;have X:∀k,k<w.heap.size->agT o0 w.heap.size c.W P n1 n2 n3 n4 n5 V.heap.size tl k=o0 k:=fun k U=>if_pos U;have hcw:Chg (fun _=>False) w V:=.of_same h.below;refine⟨g,cap,fun t B=>?_,fun k U=>?_⟩
 ·
  match t,B with
  | 0,_=>
   have mk:∀j,j<c.W+3->∀f:Nat->Option Value,(∀t,t=afP c.W P j t.a->t.a=aeF tl j->t.f=f)->akJ V (aeF tl j+1) f/\agT o0 w.heap.size c.W P n1 n2 n3 n4 n5 V.heap.size tl (aeF tl j+1)=0:=fun j hj f hf=>by
    obtain⟨t,h1,h2,h3⟩:=h.get hj;have:=(h.ti.el j t h1).1.2.1;rw [hf t h3 h2,h2] at this;exact⟨this,(h.own hj).2⟩
   refine⟨fun t B=>?_,⟨r4,r3⟩,mk 0 (by omega) _ fun t h1 h2=>?_,fun i N=>mk (i+1) (by omega) _ fun t h1 h2=>?_,mk (c.W+1) (by omega) _ fun t h1 h2=>?_,mk (c.W+2) (by omega) _ fun t h1 h2=>?_,⟨hm,I.below h.below,fun k h1 h2=>by rw [X k (ax6 h2 I.1)];exact hz k h1 h2⟩,r2⟩
   ·
    obtain⟨u,h1,h2,h3⟩:=h.get B;refine (r6 t u h1).trans ?_;rw [h3,h2];unfold afP as3 adN
    by_cases t0:t=0
    · subst t0;rfl
    ·
     rw [if_neg t0,if_neg t0]
     by_cases H:t<=c.W
     ·
      rw [if_pos H,if_pos H];show some (Value.iface _ (.pointer (some ⟨aeF tl t,0,none⟩)))=some (Value.iface _ (.pointer (some ⟨aeF tl (t-1+1),0,none⟩)));rw [show t-1+1=t by omega]
      rfl
     ·
      rw [if_neg H,if_neg H]
      by_cases D:t=c.W+1
      · subst D;rw [if_pos rfl,if_pos rfl];rfl
      ·
       rw [if_neg D,if_neg D];obtain rfl:t=c.W+2:=by omega
       rfl
   · rw [h1];unfold afP;rw [if_pos rfl,h2];rfl
   · rw [h1];unfold afP;rw [if_neg (by omega),if_pos (by omega),h2];rfl
   · rw [h1];unfold afP;rw [if_neg (by omega),if_neg (by omega),if_pos rfl,h2];rfl
   · rw [h1];unfold afP;rw [if_neg (by omega),if_neg (by omega),if_neg (by omega),h2];rfl
  | 1,_=>
   refine⟨.slice none 0 0,h.np.box,?_,afd.nil _ _ _ _,by simp [Value.ownBlock]⟩;show agT o0 w.heap.size c.W P n1 n2 n3 n4 n5 V.heap.size tl P=1;unfold agT;rw [if_neg (by omega),if_neg (by omega),if_pos rfl]
  | 2,_=>exact⟨o,C,sc,s,(hs.keep hcw fun _ _ _ h=>h).wide fun k U Z=>by
    have J:k<w.heap.size:=Nat.lt_of_not_le fun y=>by have:=ho k y;have Z:o0 k=2:=Z;omega
    exact (X k J).trans Z,z⟩
  | 3,_=>exact⟨ka,kn,kc,.slice none 0 0,(U.keep hcw fun _ _ _ h=>h).wide fun k U Z=>by
    have J:k<w.heap.size:=Nat.lt_of_not_le fun y=>by have:=ho k y;have Z:o0 k=3:=Z;omega
    exact (X k J).trans Z⟩
  | 4,_=>
   refine h.grp.buf.wide6 fun k U Z=>?_;show agT o0 w.heap.size c.W P n1 n2 n3 n4 n5 V.heap.size tl k=4;unfold agT;rw [if_neg (by omega),if_neg (by omega),if_neg (by omega),if_pos Z]
  | 5,_=>
   refine⟨0,_,h.grp.que.wide fun k U Z=>?_,axC,fun i b N=>by simp [ajI] at N⟩;show agT o0 w.heap.size c.W P n1 n2 n3 n4 n5 V.heap.size tl k=5;unfold agT;rw [if_neg (by omega),if_neg (by omega),if_neg (by omega),if_neg (by omega),if_pos Z]
  | 6,_=>
   refine⟨_,h.grp.rng.wide fun k U Z=>?_,axC,axC,fun i x N=>?_⟩
   · show agT o0 w.heap.size c.W P n1 n2 n3 n4 n5 V.heap.size tl k=6;unfold agT;rw [if_neg (by omega),if_neg (by omega),if_neg (by omega),if_neg (by omega),if_neg (by omega),if_pos Z]
   · have Z:=ay8 (ay9 (show (List.replicate c.R (none:Option (List aam)))[i]?=some x from N));subst Z;exact⟨((none,0,0),false),List.getElem?_replicate_of_lt (ay3 _ (by omega)),rfl⟩
  | 7,_=>
   refine⟨0,_,h.grp.out.wide fun k U Z=>?_,axC,fun i b N=>by simp [ajI] at N⟩;show agT o0 w.heap.size c.W P n1 n2 n3 n4 n5 V.heap.size tl k=7;unfold agT;rw [if_neg (by omega),if_neg (by omega),if_neg (by omega),if_neg (by omega),if_neg (by omega),if_neg (by omega),if_pos Z]
  | 8,_=>
   obtain⟨t,h1,h2,h3⟩:=h.get (j:=0) (by omega);have Y:=(h.ti.el 0 t h1).1.1;rw [h3,h2] at Y;refine⟨.slice none 0 0,Y,?_,ack.nil _ _,by simp [Value.ownBlock]⟩;exact (h.own (o0:=o0) (j:=0) (by omega)).1.trans (if_pos rfl)
  | 9,_=>
   obtain⟨t,h1,h2,h3⟩:=h.get (j:=c.W+1) (by omega);have Y:=(h.ti.el _ t h1).1.1;rw [h3,h2] at Y;unfold afP at Y;rw [if_neg (by omega),if_neg (by omega),if_pos rfl] at Y;refine⟨none,0,0,Y,?_,⟨⟨rfl,.inl rfl⟩,fun h=>absurd rfl h⟩,axe _⟩;exact (h.own (o0:=o0) (j:=c.W+1) (by omega)).1.trans (by rw [if_neg (by omega),if_neg (by omega),if_pos rfl])
  | 10,_=>
   obtain⟨t,h1,h2,h3⟩:=h.get (j:=c.W+2) (by omega);have Y:=(h.ti.el _ t h1).1.1;rw [h3,h2] at Y;unfold afP at Y;rw [if_neg (by omega),if_neg (by omega),if_neg (by omega)] at Y;refine⟨Y,?_⟩;exact (h.own (o0:=o0) (j:=c.W+2) (by omega)).1.trans (by rw [if_neg (by omega),if_neg (by omega),if_neg (by omega)])
  | i+11,_=>
   show abH (adN P m S Kk Bb Bu Bd Q QB G GB O OB g cap c.W q tl Wm) (ajI c rs) (fun k=>agT o0 w.heap.size c.W P n1 n2 n3 n4 n5 V.heap.size tl k=i+11) (fun k=>agT o0 w.heap.size c.W P n1 n2 n3 n4 n5 V.heap.size tl k=0) V i;unfold abH
   by_cases N:i<c.W
   · have e:(ajI c rs).wk[i]?=some (wk0 1):=List.getElem?_replicate_of_lt N;rw [e];obtain⟨t,h1,h2,h3⟩:=h.get (j:=i+1) (by omega);have Y:=(h.ti.el _ t h1).1.1;rw [h3,h2] at Y;unfold afP at Y;rw [if_neg (by omega),if_pos (by omega)] at Y;refine⟨⟨0,0,0,none,0,0,0⟩,.slice none 0 0,Y,?_,⟨rfl,rfl,rfl,rfl,⟨⟨⟨rfl,.inl rfl⟩,fun x Z=>by cases Z⟩,fun h=>absurd rfl h⟩⟩,afd.nil _ _ _ _,by simp [Value.ownBlock],fun _ g hg=>by simp [Value.ownBlock] at hg⟩;exact (h.own (o0:=o0) (j:=i+1) (by omega)).1.trans (by rw [if_neg (by omega),if_pos (by omega)];omega)
   ·
    have e:(ajI c rs).wk[i]?=none:=by show (List.replicate c.W (wk0 1))[i]?=none;simp;omega
    rw [e]
    trivial
 · unfold agT;rw [if_neg (by omega),if_pos U]
end
end
theorem aps (a:Option Addr)(n c:Nat)(ans:List Bool)(w:World)(h:Sl1 Value.bool w a n ans)(A:n<=1000000) :
  Calls ZP 53 #[.slice a n c] w fun e w'=>∃K s v,e=.returned (.pointer (some ⟨K,0,none⟩))/\afh (fun k=>w.heap.size<=k) K s n v (.slice none 0 0) ans [] 0 w'/\Below w.heap.size w w':=by
 have HC:=ax3 (ao2 a n c (ans.map Value.bool) w (anH h) (fun u C=>by obtain⟨x,_,rfl⟩:=axE.1 C;rfl) A);have HL:=ax3 h.1;clear h;go_enter func53,ntmps53
 go_wp2_with (go_at_call 94;refine HC.out.mono ?_;rintro e Y ⟨v1,rfl,ho,H⟩;obtain⟨N,c1,V,_,X⟩:=SlK.own ho;subst V;have j:=ax3 ho;have o:=ax3 X;have J:=ax3 H;clear ho X H)
 go_ret;obtain⟨W,hW⟩:∃U,U=Y.alloc (.cells #[.slice N n c1,.slice none 0 0,.int .i64 0] 113):=⟨_,rfl⟩;have Z:Below Y.heap.size Y W:=by rw [hW];exact aa1 _ _
 have D:W.heap[Y.heap.size]?=some (.cells #[.slice N n c1,.slice none 0 0,.int .i64 0] 113 (0,0)):=by rw [hW];exact axg _ _
 refine⟨Y.heap.size,N,c1,rfl,⟨by rw [<-hW];exact D,J.out.size,?_,fun h0 q B=>?_,afd.nil _ _ _ _,by simp [Value.ownBlock]⟩,by rw [<-hW];exact J.out.trans (Z.mono J.out.size)⟩
 ·
  refine⟨HL.out,?_⟩
  rcases o.out.2 with h | ⟨b,off,e,I,y⟩
  · exact .inl h
  · refine .inr ⟨b,off,e,by rw [<-hW];exact ax6 I Z.size,fun i x z=>?_⟩;rw [<-hW,Z.cell (p:=⟨b,off+i,none⟩) I];exact y i _ (by rw [axa,z];rfl)
 · subst B;have:=acx j.out q.block rfl;refine⟨this.1,by omega,by simp [Value.ownBlock]⟩
theorem Wds.rds {w:World}{a:Option Addr}{n:Nat}{Z:List (List Int)}(h:Wds w a n Z):∃Y,awv w a n Y Z:=by
 obtain⟨Y,h1,h2,h3⟩:=h;exact⟨Y,h1,h2,fun i v xs V X=>(h3 i v xs V X).1⟩
theorem aa8.toG {A:PAd}{c:CfM}{s:PlM}{o:Nat->Nat}{w:World}(h:aa8 A c o s w):aa3 A c o s w w:=⟨o,h,fun _ h=>h,Chg.refl _ _⟩
theorem aa3.base {A:PAd}{c:CfM}{s:PlM}{o:Nat->Nat}{Z w w':World}(h:aa3 A c o s w w')(Y:Below Z.heap.size Z w)(X:∀k,k<Z.heap.size->o k=0):Below Z.heap.size Z w':=by
 obtain⟨N,h1,h2,h3⟩:=h;exact Y.trans (h3.below Y.size fun k U V=>V (X k U))
theorem asd {c:CfM}{fold:Bool}{wss Z:List (List Int)}{q m S Kk:Nat}{y I B D J V:World}{P n0 n1 n2 n3 n4 n5 Bb Bu Bd Q QB G GB O OB:Nat}{tv:Value}{tl:List Tk}{vs:List TVw}{sa ka:Option Addr}{sc kn kc:Nat}
  (hF:ahS q m fold wss I) (hr:aan fold wss=true) (x:c.scan=scF fold wss c.S) (U:OkC c) (hq:q=y.heap.size) (e:Below y.heap.size y I) (z:Below I.heap.size I B) (H:Below B.heap.size B D) (C:Below D.heap.size D J)
  (N:afh (fun k=>I.heap.size<=k) Kk ka kn kc (.slice none 0 0) c.ans [] 0 B) (hs:adS (fun k=>D.heap.size<=k) S sa Z.length sc vs Z c.br 0 J) (hn:Z.length<=1000000) (h:ap9 c m S Kk J P n0 n1 n2 n3 n4 n5 Bb Bu Bd Q QB G GB O OB tv tl V) :
  ∃A o,A.P=P/\A.Kk=Kk/\aa8 A c o (ajI c Z) V/\∀k,k<y.heap.size->o k=0:=by
 have s1:=z.size;have s2:=H.size;have s3:=C.size;have s0:=e.size;obtain⟨o0,X⟩:∃o0:Nat->Nat,o0=fun k=>if k<I.heap.size then 0 else if k<B.heap.size then 3 else if k<J.heap.size then 2 else 1000000:=⟨_,rfl⟩
 have j:afh (fun k=>o0 k=3) Kk ka kn kc (.slice none 0 0) c.ans [] 0 J:=by
  refine (N.wide (Y:=fun k=>o0 k=3) fun k N hx=>?_).keep (Y:=fun _=>False) (Chg.of_same (H.trans (C.mono s2))) fun _ _ _ h=>h;rw [X];dsimp only;rw [if_neg (by omega),if_pos N]
 have v:adS (fun k=>o0 k=2) S sa Z.length sc vs Z c.br 0 J:=by
  refine hs.wide fun k N hx=>?_;rw [X];dsimp only;rw [if_neg (by omega),if_neg (by omega),if_pos N]
 have s:afj q I J:=adr.of_below (z.trans ((H.trans (C.mono s2)).mono s1));obtain⟨g,cap,hP⟩:=aua h (o0:=o0) (fun k N=>by rw [X];dsimp only;rw [if_neg (by omega),if_neg (by omega),if_neg (by omega)]) v hn j (fun V hV=>awp hF hr x U.S.2 V hV) s (fun k _ N=>by rw [X];exact if_pos N) U.R.1 U.Q.1 U.O.1;refine⟨_,_,rfl,rfl,hP,fun k N=>?_⟩;unfold agT;rw [if_pos (by omega),X];exact if_pos (by omega)
theorem anQ (c:CfM)(fold:Bool)(a:Option Addr)(I ca:Nat)(b:Option Addr)(n cb:Nat)(d:Option Addr)(m cd:Nat)(wss Z:List (List Int))(w:World)(hA:Wds w a I wss)(hR:Wds w b n Z)(v:Sl1 Value.bool w d m c.ans)
  (hr:aan fold wss=true) (ai:I<=1000000) (hM:∀x∈wss,x.length<=1000000) (hT:(abo fold wss).length<=1000000) (hL:aaY wss=(c.L:Int)) (H:c.L<=32) (a2:c.scan=scF fold wss c.S) (a1:OkC c) (ab:ac2 c.W c.K c.R c.Q c.O c.S c.F=true) (hn:n<=1000000) (hl:∀x∈Z,x.length<=1000000) (hm:m<=1000000) :
  Calls ZP 14 #[.agg (alq fold a I ca c.W c.K c.R c.Q c.O c.S c.F c.br b n cb d m cd)] w fun e w'=>∃A o,e=.returned (.tuple #[.pointer (some ⟨A.P,0,none⟩),.pointer (some ⟨A.Kk,0,none⟩)])/\aa8 A c o (ajI c Z) w'/\Below w.heap.size w w'/\∀k,k<w.heap.size->o k=0:=by
 obtain⟨W,hW⟩:∃W,W=w.alloc (.cells (alq fold a I ca c.W c.K c.R c.Q c.O c.S c.F c.br b n cb d m cd) 29):=⟨_,rfl⟩;have U:Below w.heap.size w W:=by rw [hW];exact (axf _ _).alloc (axe _) _
 have hO:Bx w.heap.size [.cells (alq fold a I ca c.W c.K c.R c.Q c.O c.S c.F c.br b n cb d m cd) 29] W:=by rw [hW];exact (Bx.nil _ w).snoc _ rfl
 have N:Hid (∀V,RowKit.Below W.heap.size W V->V.cell? ⟨w.heap.size,0,none⟩=some (.bool fold)/\V.cell? ⟨w.heap.size,1,none⟩=some (.slice a I ca)/\V.cell? ⟨w.heap.size,2,none⟩=some (.int .i64 c.W)/\V.cell? ⟨w.heap.size,3,none⟩=some (.int .i64 c.K)/\V.cell? ⟨w.heap.size,4,none⟩=some (.int .i64 c.R)/\V.cell? ⟨w.heap.size,5,none⟩=some (.int .i64 c.Q)/\V.cell? ⟨w.heap.size,6,none⟩=some (.int .i64 c.O)/\V.cell? ⟨w.heap.size,7,none⟩=some (.int .i64 c.S)/\V.cell? ⟨w.heap.size,8,none⟩=some (.int .i64 c.F)/\V.cell? ⟨w.heap.size,9,none⟩=some (.bool c.br)/\V.cell? ⟨w.heap.size,10,none⟩=some (.slice b n cb)/\V.cell? ⟨w.heap.size,11,none⟩=some (.slice d m cd)):=fun V y=>by
  have h:=hO.below y;exact⟨h.cell (i:=0) rfl rfl,h.cell (i:=0) rfl rfl,h.cell (i:=0) rfl rfl,h.cell (i:=0) rfl rfl,h.cell (i:=0) rfl rfl,h.cell (i:=0) rfl rfl,h.cell (i:=0) rfl rfl,h.cell (i:=0) rfl rfl,h.cell (i:=0) rfl rfl,h.cell (i:=0) rfl rfl,h.cell (i:=0) rfl rfl,h.cell (i:=0) rfl rfl⟩
 have k1:Hid (Calls ZP 52 #[.agg (aaF fold a I ca)] W fun e w'=>∃B,e=.returned (.tuple #[.pointer (some ⟨B,0,none⟩),.int .i64 0])/\ahS W.heap.size B fold wss w'/\RowKit.Below W.heap.size W w'):=ajq fold a I ca wss W (hA.below U) ai hM hT hr;have k2:Hid (∀V,RowKit.Below W.heap.size W V->Calls ZP 53 #[.slice d m cd] V fun e w'=>∃K a' c',e=.returned (.pointer (some ⟨K,0,none⟩))/\afh (fun k=>V.heap.size<=k) K a' m c' (.slice none 0 0) c.ans [] 0 w'/\RowKit.Below V.heap.size V w'):=fun V y=>aps d m cd c.ans V ((v.below U).below y) hm;have a7:Z.length=n:=hR.len;have k3:Hid (∀V,RowKit.Below W.heap.size W V->Calls ZP 55 #[.bool c.br,.slice b n cb] V fun e w'=>∃S a' c' ag,e=.returned (.pointer (some ⟨S,0,none⟩))/\adS (fun k=>V.heap.size<=k) S a' Z.length c' ag Z c.br 0 w'/\RowKit.Below V.heap.size V w'):=fun V y=>by
  obtain⟨vs,ah⟩:=((hR.below U).below y).rds;exact aqn b n cb vs Z c.br V ah hn hl
 have HB:=ax3 U;have HR:=ax3 hr;have HL:=ax3 hL;have HK:=ax3 H;have HS:=ax3 a2;have al:=ax3 a1;have HF:=ax3 ab;have HN:Hid (Z.length<=1000000):=by rw [Hid,a7];exact hn
 obtain⟨q0,q1,q2,q3,q4,q5,q6,q7,q8,q9,X,Y⟩:=N.out W (axf _ _);clear hA hR v hr hM hT hL H a2 a1 ab hl hO U a7;go_enter func14,ntmps14;go_upto_region 1 with fail
 rw [<-hW];clear hW
 go_wp2_with fail
 refine k1.out.mono ?_;rintro e w1 ⟨B,rfl,ae,ad⟩;have X1:=ax3 ad;have af:=ax3 ae;clear q0 q1 q2 q3 q4 q5 q6 q7 q8 q9 X Y ad ae k1;obtain⟨q0,q1,q2,q3,q4,q5,q6,q7,q8,q9,X,Y⟩:=N.out w1 X1.out;have K2:=ax3 (k2.out w1 X1.out);clear k2
 go_wp2_with fail
 refine K2.out.mono ?_;rintro e w2 ⟨Kk,ka,kc,rfl,aa,z⟩;have j:=ax3 z;have X2:=ax3 (X1.out.trans (z.mono X1.out.size));have am:=ax3 aa;clear q0 q1 q2 q3 q4 q5 q6 q7 q8 q9 X Y z aa K2;obtain⟨q0,q1,q2,q3,q4,q5,q6,q7,q8,q9,X,Y⟩:=N.out w2 X2.out;go_upto_region 3 with fail
 obtain⟨D,v⟩:∃D,D=w2.drew:=⟨_,rfl⟩;have J:Hid (RowKit.Below w2.heap.size w2 D):=by rw [Hid,v];exact aa2 w2 1
 have XD:=ax3 (X2.out.trans (J.out.mono X2.out.size));have K3:=ax3 (k3.out D XD.out);clear q0 q1 q2 q3 q4 q5 q6 q7 q8 q9 X Y k3;refine wp_region_noPanic ?_;refine wp_region_held_drew (S:=fun V=>RowKit.Below W.heap.size W V) (by kernel_rfl) (by rw [<-v];exact XD.out) (fun hHeld=>?_);rw [<-v];clear v;refine tkB 0 N.out ?_;refine tkB 1 N.out ?_;refine tkB 2 N.out ?_;refine tkB 3 N.out ?_;refine tkB 4 N.out ?_;refine tkB 5 N.out ?_;refine tkB 6 N.out ?_;refine tkA 8 ?_;refine rdy 7 (fun K hK=>?_);go_simp
 go_at_call 55;refine K3.out.mono ?_;rintro e w3 ⟨S,sa,sc,vs,rfl,a6,ac⟩
 have s:=ax3 ac;have aj:=ax3 a6;clear ac a6;have X3:=ax3 (XD.out.trans (s.out.mono XD.out.size));refine hK.out _ _ X3.out (fun h7=>?_);clear hK K
 try simp only [Act.put,pA,pB,pC]
 have a8:afj W.heap.size w1 w3:=adr.of_below (j.out.trans ((J.out.trans (s.out.mono J.out.size)).mono j.out.size));have K4:=ax3 (aqp c B S Kk W.heap.size w1 w3 HF.out HK.out (fun V y=>aw9 af.out HL.out V y) a8);clear a8;refine rdy 9 (fun K hK=>?_);go_simp
 go_at_call 54;refine K4.out.mono ?_;rintro e w4 ⟨P,n0,n1,n2,n3,n4,n5,Bb,Bu,Bd,Q,QB,G,GB,O,OB,tv,tl,rfl,C⟩
 have ak:=ax3 C;have X4:=ax3 (X3.out.trans (C.below.mono X3.out.size));clear C;refine hK.out _ _ X4.out (fun h9=>?_);clear hK K
 try simp only [Act.put,pA,pB,pC]
 refine tkA 10 ?_;refine tkA 11 ?_;refine tkA 12 ?_;refine tkA 13 ?_;refine tkA 14 ?_;refine wpAnyH_done (by kernel_rfl) ?_ _;refine ax4 ?_;go_wp2;go_ret2;obtain⟨A,o,e1,e2,e3,e4⟩:=asd af.out HR.out HS.out al.out rfl X1.out j.out J.out s.out am.out aj.out HN.out ak.out;refine⟨A,o,?_,e3,HB.out.trans (X4.out.mono HB.out.size),fun k hk=>e4 k (ax6 hk HB.out.size)⟩;rw [e1,e2]
 rfl
def arw (c:CfM)(N i:Nat)(s:PlM):Prop:=ac1 s=true∨s.cancelled=true/\muM s+i<=N
section
variable {c:CfM}{s:PlM}{N i:Nat}
theorem arw.start (h:ap8 c s):arw c (2*c.W+c.Q+4) 0 (aaE s):=by
 rcases ao3 s with h1 | h1
 · exact .inr ⟨h1,avW h.cancel.f⟩
 · exact .inl h1
theorem arw.step (h:arw c N i s)(Y:ap8 c s)(ho:ac1 s=false)(m:Int):∃k,aeC c s m=some k/\arw c N (i+1) (act c s m):=by
 rcases h with h | ⟨h1,h2⟩
 · rw [h] at ho;cases ho
 · obtain⟨k,Z⟩:=aqy (awb Y.f h1 ho) m;refine⟨k,Z,.inr ?_⟩;unfold act;rw [Z];dsimp only;have:=aqT Y.f.wl h1 (adO Z).2;exact⟨by rw [al0];exact h1,by omega⟩
theorem arw.end (h:arw c N i s)(Z:ap8 c s)(X:N<=i):ac1 s=true:=by
 cases ho:ac1 s with
 | true=>rfl
 | false=>
  exfalso
  obtain⟨k,Y,h2⟩:=h.step Z ho 0
  rcases h with h | ⟨h1,h3⟩
  · rw [h] at ho;cases ho
  · have:=aqT Z.f.wl h1 (adO Y).2;omega
end
end Go.Proofs.YtaamacoicojhnaaGreat
