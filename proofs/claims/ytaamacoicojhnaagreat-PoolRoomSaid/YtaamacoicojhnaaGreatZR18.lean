/- Proofs over the given program, part 18. -/
import Derived.Test.YtaamacoicojhnaaGreatZR17
set_option linter.unusedVariables false
set_option linter.unusedSimpArgs false
set_option maxRecDepth 100000
set_option maxHeartbeats 16000000
open Go.Proofs.Tryz
open Go.Proofs.Tryz renaming prog→ZP
open Go.World(cell? frozen?)
open Go.Value(int slice pointer bool)
open Go.IntKind(i64)
namespace Go.Proofs.YtaamacoicojhnaaGreat
open Go.RowKit Go.Sort
structure Im(c:CfM)(P n1 n2 n3 n4 n5 Bb Bu Bd Q QB G GB O OB:Nat)(V:World):Prop where
 buf:DM (λk=>n1<=k/\k<n2) Bb Bu Bd (c.K+c.wm) ((List.range c.R).reverse.map λx:Nat=>(x:Int)) (List.replicate c.R false) (List.replicate c.R []) V
 que:Ab (λk=>n2<=k/\k<n3) Q QB 0 0 false (List.replicate c.Q ⟨0,0,0,none,0,0,0⟩) V
 rng:BZ (λk=>n3<=k/\k<n4) G GB 0 (List.replicate c.R ((none,0,0),false)) V
 out:AY (λk=>n4<=k/\k<n5) O OB 0 0 false (List.replicate c.O (0,0)) V
 lt:P<n1/\n1<=n2/\n2<=n3/\n3<=n4/\n4<=n5/\n5<=V.heap.size
theorem DM.keep6{X Y:Nat->Prop}{B U D size:Nat}{fr:List Int}{us:List Bool}{ds:La}{w w':World}(h:DM X B U D size fr us ds w)(N:Chg Y w w')(Z:∀k,k<w.heap.size->X k->¬Y k):DM X B U D size fr us ds w':=let⟨a,b,d,g⟩:=h;⟨a,b,d,g.keep N Z⟩
theorem DM.wide6{X Y:Nat->Prop}{B U D size:Nat}{fr:List Int}{us:List Bool}{ds:La}{w:World}(h:DM X B U D size fr us ds w)(Z:∀k,k<w.heap.size->X k->Y k):DM Y B U D size fr us ds w:=let⟨a,b,d,g⟩:=h;⟨a,b,d,g.wide Z⟩
section
variable {c:CfM}{P n1 n2 n3 n4 n5 Bb Bu Bd Q QB G GB O OB:Nat}{V V' w6 w7 w8 w9 W6 W7 W8 W9:World}
theorem Im.keep(h:Im c P n1 n2 n3 n4 n5 Bb Bu Bd Q QB G GB O OB V)(Z:Chg (λk=>k=P∨n5<=k) V V'):Im c P n1 n2 n3 n4 n5 Bb Bu Bd Q QB G GB O OB V':=by have Y:=h.lt;exact⟨h.buf.keep6 Z λk _ h1 h2=>by omega,h.que.keep Z λk _ h1 h2=>by omega,h.rng.keep Z λk _ h1 h2=>by omega,h.out.keep Z λk _ h1 h2=>by omega,by have:=Z.size;omega⟩
theorem Im.mk2(X:DM (λk=>n1<=k) Bb Bu Bd (c.K+c.wm) ((List.range c.R).reverse.map λx:Nat=>(x:Int)) (List.replicate c.R false) (List.replicate c.R []) w6)(h1:P<n1)(h2:n1<=w6.heap.size)(D:Chg (λk=>k=P) w6 W6)(A:Bt W6 w7)
  (e:Ab (λk=>W6.heap.size<=k) Q QB 0 0 false (List.replicate c.Q ⟨0,0,0,none,0,0,0⟩) w7) (J:Chg (λk=>k=P) w7 W7) (B:Bt W7 w8) (h:BZ (λk=>W7.heap.size<=k) G GB 0 (List.replicate c.R ((none,0,0),false)) w8) (N:Chg (λk=>k=P) w8 W8)
  (C:Bt W8 w9) (j:AY (λk=>W8.heap.size<=k) O OB 0 0 false (List.replicate c.O (0,0)) w9) (U:Chg (λk=>k=P) w9 W9):Im c P n1 W6.heap.size W7.heap.size W8.heap.size W9.heap.size Bb Bu Bd Q QB G GB O OB W9:=by
 have z6:=D.size;have z7:=A.size;have s:=J.size;have z8:=B.size;have y:=N.size;have z9:=C.size;have z:=U.size;have I:Chg (λk=>k=P) W8 W9:=(Chg.of_same C).then U;have H:Chg (λk=>k=P) W7 W9:=((Chg.of_same B).then N).then I;have d7:Chg (λk=>k=P) W6 W9:=((Chg.of_same A).then J).then H;refine⟨?_,?_,?_,?_,by omega⟩
 ·exact(X.wide6 (Y:=λk=>n1<=k/\k<W6.heap.size) λk hk Z=>(⟨Z,by omega⟩:n1<=k/\k<W6.heap.size)).keep6 (D.then d7) λk _ h3 h4=>by omega
 ·exact(e.wide (Y:=λk=>W6.heap.size<=k/\k<W7.heap.size) λk hk Z=>(⟨Z,by omega⟩:W6.heap.size<=k/\k<W7.heap.size)).keep (J.then H) λk _ h3 h4=>by omega
 ·exact(h.wide (Y:=λk=>W7.heap.size<=k/\k<W8.heap.size) λk hk Z=>(⟨Z,by omega⟩:W7.heap.size<=k/\k<W8.heap.size)).keep (N.then I) λk _ h3 h4=>by omega
 ·exact(j.wide (Y:=λk=>W8.heap.size<=k/\k<W9.heap.size) λk hk Z=>(⟨Z,by omega⟩:W8.heap.size<=k/\k<W9.heap.size)).keep U λk _ h3 h4=>by omega
end
theorem TkM.below{t:Tk}{D V:World}(h:TkM t D)(Z:Bt D V):TkM t V:=h.keep (Y:=λ_=>False) (.of_same Z) id id
theorem TkI.two{n5 P W:Nat}{U:Value}{Y:List Tk}{t u:Tk}{D V:World}{c:CfM}{m S Kk N:Nat}{b q g o:Value}(h:TkI n5 U Y D)(e:NpS c m S Kk N P b q g o U D)(hP:P<n5)(H:n5<=D.heap.size)(hl:Y.length<=1000)(hD:Bt D V)
  (hm:TkM t V/\D.heap.size<=t.a) (A:TkM u V/\D.heap.size<=u.a) (hd:t.a+2<=u.a∨u.a+2<=t.a) (s:Fj W P Y) (z:t=CY W P Y.length t.a) (I:u=CY W P (Y.length+1) u.a) :
  ∃Z n c1 X,(Builtin.append_ #[103,103] 103 #[U,.slice (some ⟨V.heap.size,0,none⟩) 2 2]).run ZP (V.alloc (.cells #[ifV t,ifV u] 100))=.ok (.slice Z n c1) X/\
   NpS c m S Kk N P b q g o U X/\NpS c m S Kk N P b q g o (slice Z n c1) (X.setCell ⟨P,15,none⟩ (slice Z n c1))/\
   TkI n5 (slice Z n c1) ((Y++[t])++[u]) (X.setCell ⟨P,15,none⟩ (slice Z n c1))/\Fj W P ((Y++[t])++[u])/\
   Chg (λk=>k=P∨n5<=k) D (X.setCell ⟨P,15,none⟩ (slice Z n c1)):=by
 obtain⟨Z,c1,X,g1,g2,g3,g4,g5⟩:=h.app (nw:=[t,u]) e hP H hl sm hD (λi v J=>by
  have:=(AP.1 J).1;simp at this
  rcases(show i=0∨i=1 by omega)with rfl|rfl
  ·cases AK J;exact hm
  ·cases AK J;exact A) (λi j x y B C a2=>by
  have:=(AP.1 C).1;simp at this;obtain rfl:i=0:=by omega
  obtain rfl:j=1:=by omega
  cases AK B
  cases AK C
  exact hd)
 refine⟨Z,_,c1,X,g1,g2,g3,?_,(s.snoc z).snoc (by rw[List.length_append];exact I),g5⟩;rw[CE];exact g4
structure GO(c:CfM)(m S Kk:Nat)(w:World)(P n0 n1 n2 n3 n4 n5 Bb Bu Bd Q QB G GB O OB:Nat)(tv:Value)(tl:List Tk)(V:World):Prop where
 np:NpS c m S Kk n0 P (pointer (some ⟨Bb,0,none⟩)) (pointer (some ⟨Q,0,none⟩)) (pointer (some ⟨G,0,none⟩)) (pointer (some ⟨O,0,none⟩)) tv V
 ti:TkI n5 tv tl V
 sh:Fj c.W P tl
 len:tl.length=c.W+3
 grp:Im c P n1 n2 n3 n4 n5 Bb Bu Bd Q QB G GB O OB V
 lo:w.heap.size<=n0
 below:Bt w V
theorem aoY:∀m:Nat,m<=16->madeCells (Value.agg #[int i64 0,int i64 0]).cells (m*2)=(CJ (List.replicate m (0,0))).toArray
 |0,_=>by kernel_rfl
 |1,_=>by kernel_rfl
 |2,_=>by kernel_rfl
 |3,_=>by kernel_rfl
 |4,_=>by kernel_rfl
 |5,_=>by kernel_rfl
 |6,_=>by kernel_rfl
 |7,_=>by kernel_rfl
 |8,_=>by kernel_rfl
 |9,_=>by kernel_rfl
 |10,_=>by kernel_rfl
 |11,_=>by kernel_rfl
 |12,_=>by kernel_rfl
 |13,_=>by kernel_rfl
 |14,_=>by kernel_rfl
 |15,_=>by kernel_rfl
 |16,_=>by kernel_rfl
 |m+17,h=>absurd h om
theorem anb:∃i,ZP.info? 116=some i/\i.zero=some (.agg #[int i64 0,int i64 0])/\i.size=2/\i.bytes<=100:=by
 have h:((ZP.info? 116).map λi=>(i.zero,i.size,decide (i.bytes<=100)))=some (some (.agg #[int i64 0,int i64 0]),2,true):=by kernel_rfl
 cases e:ZP.info? 116 with
 |none=>rw[e]at h;cases h
 |some i=>
  rw[e]at h;have h:=AK h
  injection h with h1 h2
  injection h2 with h2 h3
  exact⟨i,rfl,h1,h2,Lj h3⟩
theorem alW(m:Nat)(w:World)(h1:1<=m)(h2:m<=16) :Calls ZP 99 #[int i64 (m:Int)] w λe w'=>∃Q B,e=.returned (.tuple #[pointer (some ⟨Q,0,none⟩),int i64 0])/\AY (λk=>w.heap.size<=k) Q B 0 0 false (List.replicate m (0,0)) w'/\Bt w w':=by
 have a2:∀V:World,(Instr.makeSlice 69 (int i64 m) (int i64 m)).run ZP V=.ok (slice (some ⟨V.heap.size,0,none⟩) m m) (V.alloc (.cells (CJ (List.replicate m (0,0))).toArray 116)):=λV=>by
  obtain⟨H,hi,C,N,D⟩:=anb;have a6:H.bytes*m<=100*16:=GR D h2;have x:(H.bytes:Int)*(m:Int)<=281474976710656:=by rw[<-Iy];omega
  have h:=run_makeSlice (P:=ZP) (w:=V) 69 116 H (.agg #[.int .i64 0,.int .i64 0]) underlying69 hi C .i64 .i64 (m:Int) (m:Int) om om (by rw[N];omega) x om;rw[N,Aa,aoY m h2]at h;exact h
 have d0:decide ((m:Int)<1)=false:=by simp;omega
 have d1:decide ((m:Int) > 16)=false:=by simp;omega
 have a7:decide ((16:Int)<(m:Int))=false:=by simp;omega
 have d2:decide (m<1)=false:=by simp;omega
 have d3:decide (16<m)=false:=by simp;omega
 have d4:decide (m=0)=false:=by simp;omega
 have a1:=AA (Lq h1 h2);clear h1 h2;go_enter func99,ntmps99;go_wp2;go_ret2;obtain⟨h1,h2⟩:=a1.out;have U:(List.replicate m (0,0):List AF).length=m:=CS;obtain⟨X,Z⟩:∃V,V=w.alloc (.cells (CJ (List.replicate m (0,0))).toArray 116):=⟨_,rfl⟩;obtain⟨j,Y⟩:∃V,V=X.alloc (.cells #[slice (some ⟨w.heap.size,0,none⟩) m m,int i64 0,int i64 0,bool false] 205):=⟨_,rfl⟩;have z:X.heap[w.heap.size]?=some (.cells (CJ (List.replicate m (0,0))).toArray 116 (0,0)):=by rw[Z];exact AT _ _
 have y:X.heap.size=w.heap.size+1:=by rw[Z];simp
 have A:j.heap[X.heap.size]?=some (.cells #[slice (some ⟨w.heap.size,0,none⟩) m m,int i64 0,int i64 0,bool false] 205 (0,0)):=by rw[Y];exact AT _ _
 have I:Bt w X:=by rw[Z];exact AL _ _
 have J:Bt X j:=by rw[Y];exact AL _ _
 have s:AY (λk=>w.heap.size<=k) X.heap.size w.heap.size 0 0 false (List.replicate m (0,0)) j:=⟨by rw[U];exact A,(J.block w.heap.size om).trans z,⟨by show w.heap.size<=X.heap.size;omega,AC _⟩,by omega,by rw[U];omega⟩;have hB:=I.trans (J.mono I.size);rw[y]at s;refine⟨w.heap.size+1,w.heap.size,rfl,?_,?_⟩
 ·rw[Y,Z]at s;exact s
 ·rw[Y,Z]at hB;exact hB
theorem aoV:∀m:Nat,m<=16->madeCells (Value.agg #[int i64 0,int i64 0,int i64 0,slice none 0 0,int i64 0]).cells (m*5)=(EY (List.replicate m ⟨0,0,0,none,0,0,0⟩)).toArray
 |0,_=>by kernel_rfl
 |1,_=>by kernel_rfl
 |2,_=>by kernel_rfl
 |3,_=>by kernel_rfl
 |4,_=>by kernel_rfl
 |5,_=>by kernel_rfl
 |6,_=>by kernel_rfl
 |7,_=>by kernel_rfl
 |8,_=>by kernel_rfl
 |9,_=>by kernel_rfl
 |10,_=>by kernel_rfl
 |11,_=>by kernel_rfl
 |12,_=>by kernel_rfl
 |13,_=>by kernel_rfl
 |14,_=>by kernel_rfl
 |15,_=>by kernel_rfl
 |16,_=>by kernel_rfl
 |m+17,h=>absurd h om
theorem anS:∃i,ZP.info? 126=some i/\i.zero=some (.agg #[int i64 0,int i64 0,int i64 0,slice none 0 0,int i64 0])/\i.size=5/\i.bytes<=100:=by
 have h:((ZP.info? 126).map λi=>(i.zero,i.size,decide (i.bytes<=100)))=some (some (.agg #[int i64 0,int i64 0,int i64 0,slice none 0 0,int i64 0]),5,true):=by kernel_rfl
 cases e:ZP.info? 126 with
 |none=>rw[e]at h;cases h
 |some i=>
  rw[e]at h;have h:=AK h
  injection h with h1 h2
  injection h2 with h2 h3
  exact⟨i,rfl,h1,h2,Lj h3⟩
theorem alF(m:Nat)(w:World)(h1:1<=m)(h2:m<=16) :Calls ZP 97 #[int i64 (m:Int)] w λe w'=>∃Q B,e=.returned (.tuple #[pointer (some ⟨Q,0,none⟩),int i64 0])/\Ab (λk=>w.heap.size<=k) Q B 0 0 false (List.replicate m ⟨0,0,0,none,0,0,0⟩) w'/\Bt w w':=by
 have a2:∀V:World,(Instr.makeSlice 128 (int i64 m) (int i64 m)).run ZP V=.ok (slice (some ⟨V.heap.size,0,none⟩) m m) (V.alloc (.cells (EY (List.replicate m ⟨0,0,0,none,0,0,0⟩)).toArray 126)):=λV=>by
  obtain⟨H,hi,C,N,D⟩:=anS;have a6:H.bytes*m<=100*16:=GR D h2;have x:(H.bytes:Int)*(m:Int)<=281474976710656:=by rw[<-Iy];omega
  have h:=run_makeSlice (P:=ZP) (w:=V) 128 126 H (.agg #[.int .i64 0,.int .i64 0,.int .i64 0,.slice none 0 0,.int .i64 0]) underlying128 hi C .i64 .i64 (m:Int) (m:Int) om om (by rw[N];omega) x om;rw[N,Aa,aoV m h2]at h;exact h
 have d0:decide ((m:Int)<1)=false:=by simp;omega
 have d1:decide ((m:Int) > 16)=false:=by simp;omega
 have a7:decide ((16:Int)<(m:Int))=false:=by simp;omega
 have d2:decide (m<1)=false:=by simp;omega
 have d3:decide (16<m)=false:=by simp;omega
 have d4:decide (m=0)=false:=by simp;omega
 have a1:=AA (Lq h1 h2);clear h1 h2;go_enter func97,ntmps97;go_wp2;go_ret2;obtain⟨h1,h2⟩:=a1.out;have U:(List.replicate m ⟨0,0,0,none,0,0,0⟩:List PcW).length=m:=CS;obtain⟨X,Z⟩:∃V,V=w.alloc (.cells (EY (List.replicate m ⟨0,0,0,none,0,0,0⟩)).toArray 126):=⟨_,rfl⟩;obtain⟨j,Y⟩:∃V,V=X.alloc (.cells #[slice (some ⟨w.heap.size,0,none⟩) m m,int i64 0,int i64 0,bool false] 214):=⟨_,rfl⟩;have z:X.heap[w.heap.size]?=some (.cells (EY (List.replicate m ⟨0,0,0,none,0,0,0⟩)).toArray 126 (0,0)):=by rw[Z];exact AT _ _
 have y:X.heap.size=w.heap.size+1:=by rw[Z];simp
 have A:j.heap[X.heap.size]?=some (.cells #[slice (some ⟨w.heap.size,0,none⟩) m m,int i64 0,int i64 0,bool false] 214 (0,0)):=by rw[Y];exact AT _ _
 have I:Bt w X:=by rw[Z];exact AL _ _
 have J:Bt X j:=by rw[Y];exact AL _ _
 have s:Ab (λk=>w.heap.size<=k) X.heap.size w.heap.size 0 0 false (List.replicate m ⟨0,0,0,none,0,0,0⟩) j:=⟨by rw[U];exact A,(J.block w.heap.size om).trans z,⟨by show w.heap.size<=X.heap.size;omega,AC _⟩,by omega,by rw[U];omega⟩;have hB:=I.trans (J.mono I.size);rw[y]at s;refine⟨w.heap.size+1,w.heap.size,rfl,?_,?_⟩
 ·rw[Y,Z]at s;exact s
 ·rw[Y,Z]at hB;exact hB
section
attribute[local go_sem] IW aa0
theorem aiL(c:CfM)(m S Kk qm:Nat)(Wm w:World)(hc:Ce c.W c.K c.R c.Q c.O c.S c.F=true)(hL:c.L<=32)(b8:∀V,Fk qm Wm V->Calls ZP 95 #[pointer (some ⟨m,0,none⟩)] V λe w'=>e=.returned (int i64 (c.L:Int))/\V=w')(hk:Fk qm Wm w) :Calls ZP 54 #[pointer (some ⟨m,0,none⟩),.agg (Ee c.W c.K c.R c.Q c.O c.S c.F),pointer (some ⟨S,0,none⟩),pointer (some ⟨Kk,0,none⟩)] w λe w'=>∃P C n1 n2 n3 n4 n5 Bb Bu Bd Q QB G GB O OB tv H,e=.returned (.tuple #[pointer (some ⟨P,0,none⟩),int i64 0])/\GO c m S Kk w P C n1 n2 n3 n4 n5 Bb Bu Bd Q QB G GB O OB tv H w':=by
 have HR:=NG c.W c.K c.R c.Q c.O c.S c.F;rw[hc]at HR;have bG:=AA HR;have b1:=Gi.1 hc;have B:=AA b1;have bO:=AA b8;have HK:=AA hk;clear b1 HR b8 hk hc;go_enter func54,ntmps54;go_upto_region 5 with(go_at_call 26;refine(bG.out _).mono ?_;rintro e w1 ⟨rfl,aT⟩)
 obtain⟨C,aD⟩:∃n,n=w.heap.size:=⟨_,rfl⟩;have aR:w1.heap[C]?=some (.cells (cfV c) 26 (0,0)):=by rw[aD];exact(aT.block _ sm).trans (AT _ _)
 have aS:Bt w w1:=(AL w _).trans (aT.mono sm);have aZ:C<w1.heap.size:=(AD.1 aR).1;rw[<-aD];obtain⟨D,x⟩:∃D,D=w1.drew:=⟨_,rfl⟩;have U:Bt w1 D:=by rw[x];exact AN w1 1
 have ap:Bt w D:=aS.trans (U.mono aS.size);have bh:=bO.out D (HK.out.below ap);have ak:D.heap[C]?=some (.cells (cfV c) 26 (0,0)):=(U.block C aZ).trans aR;have aX:IntKind.i64.wrap ((c.L:Int)-1)=(c.L:Int)-1:=by rw[BK];omega
 have bA:max (0:Int) ((c.L:Int)-1)=(c.wm:Int):=by unfold CfM.wm;omega
 have aJ:=AA ap;have aM:=AA bh;have hP:(∀o:Obj,(D.alloc o).heap[C]?=some (.cells (cfV c) 26 (0,0))):=λo=>((AL D o).block C (AD.1 ak).1).trans ak;have HP:=AA hP;have bN:=AA aD;clear aS U ap bh aT hP aD;refine Vb ?_;refine Va (S:=λY=>Y.heap[C]?=some (.cells (cfV c) 26 (0,0))) kr (by rw[<-x];exact ak) (λhHeld=>?_);rw[<-x]at hHeld⊢;clear x aR;refine tkA 0 ?_;refine tkW 1 (v:=?_) ?_ ?_;rotate_left
 ·intro V hV;have q0:V.cell? ⟨C,0,none⟩=some (int i64 (c.W:Int)):=by simp only[cell?,hV];rfl
  have A:V.cell? ⟨C,1,none⟩=some (int i64 (c.K:Int)):=by simp only[cell?,hV];rfl
  have q2:V.cell? ⟨C,2,none⟩=some (int i64 (c.R:Int)):=by simp only[cell?,hV];rfl
  have q3:V.cell? ⟨C,3,none⟩=some (int i64 (c.Q:Int)):=by simp only[cell?,hV];rfl
  have q4:V.cell? ⟨C,4,none⟩=some (int i64 (c.O:Int)):=by simp only[cell?,hV];rfl
  have q5:V.cell? ⟨C,5,none⟩=some (int i64 (c.S:Int)):=by simp only[cell?,hV];rfl
  have q6:V.cell? ⟨C,6,none⟩=some (int i64 (c.F:Int)):=by simp only[cell?,hV];rfl
  first|(go_simp;done)|(go_simp;with_reducible rfl)
 try simp only[pq]
 refine tkA 2 ?_;refine tkA 6 ?_;refine tkA 7 ?_;refine rdy 3 (λK Z=>?_);go_simp
 go_at_call 95;refine(aM.out).mono ?_;rintro e w5 ⟨rfl,rfl⟩
 refine Z.out _ _ (ak) (λh3=>?_);clear Z K
 try simp only[pq]
 refine tkA 4 ?_;refine rdy 5 (λK Z=>?_);go_simp;refine Z.out _ _ hHeld (λh5=>?_);clear Z K
 try simp only[pq]
 refine tkA 8 ?_;refine rdy 9 (λK Z=>?_);go_simp;refine Z.out _ _ (HP.out _) (λh9=>?_);clear Z K
 try simp only[pq]
 refine tkA 10 ?_;refine Vd kr ?_ _;refine At ?_;obtain⟨P,ay⟩:∃P,P=D.heap.size:=⟨_,rfl⟩;obtain⟨W5,ax⟩:∃V,V=D.alloc (.cells (npV c m S Kk (pointer none) (pointer none) (pointer none) (pointer none) (slice none 0 0)) 109):=⟨_,rfl⟩;have b7:NpS c m S Kk C P (pointer none) (pointer none) (pointer none) (pointer none) (slice none 0 0) W5:=⟨by rw[ax,ay];exact AT _ _,by rw[ax];exact HP.out _,by rw[ay];exact(AD.1 ak).1⟩;have b9:Bt w W5:=by rw[ax];exact aJ.out.trans ((AL D _).mono aJ.out.size)
 have b5:w.heap.size<=P:=by rw[ay];exact aJ.out.size
 have ae:=ax;unfold npV at ae;rw[<-ae,<-ay];have bL:=AA b7;have bu:=AA b9;have bd:=AA b5;clear ax ay ae b7 b9 h9 h5 h3 hHeld ak HP aM aJ aZ bA aX b5;obtain⟨D6,x⟩:∃D6,D6=W5.drew:=⟨_,rfl⟩;have U:Bt W5 D6:=by rw[x];exact AN W5 1
 have b6:=bL.out.keep U;have ap:=bu.out.trans (U.mono bu.out.size);have bQ:c.wm<=31:=by unfold CfM.wm;omega
 obtain⟨sz,aQ⟩:∃sz,sz=c.K+c.wm:=⟨_,rfl⟩;have bT:IntKind.i64.wrap ((c.K:Int)+(c.wm:Int))=(sz:Int):=by have:=B.out;rw[BK,aQ];omega
 have bm:=AA (alQ c.R sz D6 (by have:=B.out;omega) (by have:=B.out;omega) (by have:=B.out;omega) (by have:=B.out;omega));have ai:=AA b6;have aN:=AA ap;have bF:=AA aQ;clear U b6 ap aQ;go_upto_region 6 with fail
 refine Vb ?_;refine Va (S:=λY=>Y.heap[C]?=some (.cells (cfV c) 26 (0,0))/\Y.cell? ⟨P,8,none⟩=some (int i64 (c.wm:Int))) kr (by rw[<-x];exact⟨ai.out.conf,ai.out.ce 8 _ rfl⟩) (λhHeld=>?_);rw[<-x]at hHeld⊢;clear x;refine tkA 0 ?_;refine tkA 1 ?_;refine tkW 2 (v:=?_) ?_ ?_;rotate_left
 ·intro V hV;have q2:V.cell? ⟨C,2,none⟩=some (int i64 (c.R:Int)):=by simp only[cell?,hV.1];rfl
  first|(go_simp;done)|(go_simp;with_reducible rfl)
 try simp only[pq]
 refine tkA 3 ?_;refine tkW 4 (v:=?_) ?_ ?_;rotate_left
 ·intro V hV;have A:V.cell? ⟨C,1,none⟩=some (int i64 (c.K:Int)):=by simp only[cell?,hV.1];rfl
  first|(go_simp;done)|(go_simp;with_reducible rfl)
 try simp only[pq]
 refine tkA 5 ?_;refine tkA 6 ?_;refine tkA 7 ?_;refine tkW 8 (v:=?_) ?_ ?_;rotate_left
 ·intro V hV;have q8:=hV.2
  first|(go_simp;done)|(go_simp;with_reducible rfl)
 try simp only[pq]
 refine tkA 9 ?_;refine rdy 10 (λK Z=>?_);go_simp
 go_at_call 96;refine bm.out.mono ?_;rintro e w6 ⟨Bb,Bu,Bd,rfl,aK,hb⟩
 have am:=ai.out.keep hb;refine Z.out _ _ ⟨am.conf,am.ce 8 _ rfl⟩ (λh10=>?_);clear Z K
 try simp only[pq]
 have j1:=am.fr 11;have j2:=am.ce 11 _ rfl;have bK:=AA am;have bt:=AA (aN.out.trans (hb.mono aN.out.size));have bP:=AA hb.size;have bo:=AA aK;clear am hb aK bm;refine tkA 11 ?_;refine tkA 12 ?_;refine tkA 13 ?_;refine tkA 14 ?_;refine tkA 15 ?_;refine rdy 16 (λK Z=>?_);go_simp;have aF:=bK.out.set (b':=pointer (some ⟨Bb,0,none⟩)) 11 (pointer (some ⟨Bb,0,none⟩)) rfl;refine Z.out _ _ ⟨aF.conf,aF.ce 8 _ rfl⟩ (λbD=>?_);clear Z K
 try simp only[pq]
 have aB:=AA ((Chg.refl (λk=>k=P) w6).set (g:=P) (i:=11) (v:=pointer (some ⟨Bb,0,none⟩)) rfl);have aI:=AA aF;clear aF bD h10 j1 j2;refine Vd kr ?_ _;refine At ?_;obtain⟨W6,b4⟩:∃V,V=w6.setCell ⟨P,11,none⟩ (pointer (some ⟨Bb,0,none⟩)):=⟨_,rfl⟩;rw[<-b4]at aB aI⊢;clear b4;have bl:=AA (alF c.Q W6 (by have:=B.out;omega) (by have:=B.out;omega));have k7:=aI.out.cc 3 (int i64 (c.Q:Int)) rfl;go_upto_region 8 with(go_at_call 97;refine bl.out.mono ?_;rintro e w7 ⟨Q,QB,rfl,ac,hb⟩;have hN:=aI.out.keep hb;have j1:=hN.fr 12;have j2:=hN.ce 12 _ rfl;have bg:=AA hN;have bs:=AA hb;have bJ:=AA ac;clear hN hb ac)
 have aH:=AA (bg.out.set (q':=pointer (some ⟨Q,0,none⟩)) 12 (pointer (some ⟨Q,0,none⟩)) rfl);have aW:=AA ((Chg.refl (λk=>k=P) w7).set (g:=P) (i:=12) (v:=pointer (some ⟨Q,0,none⟩)) rfl);obtain⟨W7,b3⟩:∃V,V=w7.setCell ⟨P,12,none⟩ (pointer (some ⟨Q,0,none⟩)):=⟨_,rfl⟩;rw[<-b3]at aW aH⊢;clear b3 j1 j2 k7 bl bg aI;have bk:=AA (akT c.R W7 (by have:=B.out;omega) (by have:=B.out;omega));have k8:=aH.out.cc 2 (int i64 (c.R:Int)) rfl;go_upto_region 9 with(go_at_call 98;refine bk.out.mono ?_;rintro e w8 ⟨G,GB,rfl,ac,hb⟩;have hN:=aH.out.keep hb;have j1:=hN.fr 13;have j2:=hN.ce 13 _ rfl;have bf:=AA hN;have bq:=AA hb;have bI:=AA ac;clear hN hb ac)
 have aG:=AA (bf.out.set (g':=pointer (some ⟨G,0,none⟩)) 13 (pointer (some ⟨G,0,none⟩)) rfl);have aV:=AA ((Chg.refl (λk=>k=P) w8).set (g:=P) (i:=13) (v:=pointer (some ⟨G,0,none⟩)) rfl);obtain⟨W8,al⟩:∃V,V=w8.setCell ⟨P,13,none⟩ (pointer (some ⟨G,0,none⟩)):=⟨_,rfl⟩;rw[<-al]at aV aG⊢;clear al j1 j2 k8 bk bf aH;have bj:=AA (alW c.O W8 (by have:=B.out;omega) (by have:=B.out;omega));have k9:=aG.out.cc 4 (int i64 (c.O:Int)) rfl;go_upto_region 10 with(go_at_call 99;refine bj.out.mono ?_;rintro e w9 ⟨O,OB,rfl,ac,hb⟩;have hN:=aG.out.keep hb;have j1:=hN.fr 14;have j2:=hN.ce 14 _ rfl;have be:=AA hN;have bp:=AA hb;have bH:=AA ac;clear hN hb ac)
 have aA:=AA (be.out.set (o':=pointer (some ⟨O,0,none⟩)) 14 (pointer (some ⟨O,0,none⟩)) rfl);have aU:=AA ((Chg.refl (λk=>k=P) w9).set (g:=P) (i:=14) (v:=pointer (some ⟨O,0,none⟩)) rfl);obtain⟨W9,b2⟩:∃V,V=w9.setCell ⟨P,14,none⟩ (pointer (some ⟨O,0,none⟩)):=⟨_,rfl⟩;rw[<-b2]at aU aA⊢;clear b2 j1 j2 k9 bj be aG;obtain⟨n5,aw⟩:∃n,n=W9.heap.size:=⟨_,rfl⟩;obtain⟨D,x⟩:∃D,D=W9.drew:=⟨_,rfl⟩;have U:Bt W9 D:=by rw[x];exact AN W9 1
 have pD:=aA.out.keep U;have zD:=pD.ce 15 _ rfl;have a6:=AA (TkI.nil n5 D);have J:=AA (Lq (show P<n5 by rw[aw];exact aA.out.plt) (show n5<=D.heap.size by rw[aw];exact U.size));have a2:Hid (([]:List Tk).length<=1000):=by show 0<=1000;omega
 have a7:Hid (Fj c.W P []):=λj t ht=>by simp at ht
 have aC:Hid (Mn P D.heap.size=CY c.W P ([]:List Tk).length (Mn P D.heap.size).a):=rfl;have aa:Hid (Chg (λk=>k=P∨n5<=k) W9 D):=Chg.of_same U;have ag:=AA (aiF P D);have aL:=AA aw;have aO:=AA (bt.out.trans (((((((aB.out.then (Chg.of_same bs.out)).then aW.out).then (Chg.of_same bq.out)).then aV.out).then (Chg.of_same bp.out)).then aU.out).below bt.out.size λk hk hx=>by have:=bd.out;omega));have bi:Hid (Im c P D6.heap.size W6.heap.size W7.heap.size W8.heap.size n5 Bb Bu Bd Q QB G GB O OB W9):=by rw[aw];exact Im.mk2 (by rw[<-bF.out];exact bo.out) ai.out.plt bP.out aB.out bs.out bJ.out aW.out bq.out bI.out aV.out bp.out bH.out aU.out
 clear U aw;go_upto_region 10 with fail
 refine Vb ?_;refine Va (S:=λY=>True) kr trivial (λhHeld=>?_);rw[<-x];clear x;refine tkA 0 ?_;refine tkA 1 ?_;refine tkA 2 ?_;refine tkA 3 ?_;refine tkA 5 ?_;refine apE 4 6 (λK Z=>?_) (λK Z=>?_)
 focus
  go_simp;refine Z.out _ _ trivial (λh4=>?_);clear Z K h4
  try simp only[pq]
  refine rdy 6 (λK Z=>?_);go_simp
  go_at_call 100;refine ag.out.mono ?_;rintro e aP X
  obtain rfl:=X.1;have z:=X.2.2.2.2;have pV:=pD.keep z;have zV:=(pV.ce 15 _ rfl);have zA:=pV.plt;have ab:=AA X;clear X z pV;refine Z.out _ _ trivial (λh6=>?_);clear Z K h6
  try simp only[pq]
  refine tkA 7 ?_;refine rdy 8 (λK Z=>?_);go_simp;refine Z.out _ _ trivial (λh8=>?_);clear Z K h8
  try simp only[pq]
 rotate_left
 focus
  go_simp
  go_at_call 100;refine ag.out.mono ?_;rintro e aP X
  obtain rfl:=X.1;have z:=X.2.2.2.2;have pV:=pD.keep z;have zV:=(pV.ce 15 _ rfl);have zA:=pV.plt;have ab:=AA X;clear X z pV;refine Z.out _ _ trivial (λh6=>?_);clear Z K h6
  try simp only[pq]
  refine tkA 7 ?_;refine apE 4 8 (λK Z=>?_) (λK Z=>?_)
  focus
   go_simp;refine Z.out _ _ trivial (λh4=>?_);clear Z K h4
   try simp only[pq]
   refine rdy 8 (λK Z=>?_);go_simp;refine Z.out _ _ trivial (λh8=>?_);clear Z K h8
   try simp only[pq]
  rotate_left
  focus
   go_simp;refine Z.out _ _ trivial (λh8=>?_);clear Z K h8
   try simp only[pq]
   refine rdy 4 (λK Z=>?_);go_simp;refine Z.out _ _ trivial (λh4=>?_);clear Z K h4
   try simp only[pq]
 all_goals
  clear zV zA;have a8:=AA pD;clear pD zD;obtain⟨a1,nn,c1,W1,hr,A,q2,q3,q4,q5⟩:=a6.out.one (W:=c.W) (t:=Mn P D.heap.size) a8.out J.out.1 J.out.2 a2.out ab.out.2.2.2.2 (ab.out.tkm rfl rfl rfl rfl) a7.out aC.out;have HR:=AA hr;have j1:=A.fr 15;have j2:=A.ce 15 _ rfl;have Q2:=AA q2;have Q3:=AA q3;have Q4:=AA q4;have Q5:=AA (aa.out.trans q5 λk _ hk=>hk);clear hr A q2 q3 q4 q5;refine rdy 9 (λK Z=>?_);refine GU (.tmp 73) (.tmp 77) 103 rfl _ _ rfl rfl rfl HR.out ?_;refine Z.out _ _ trivial (λh9=>?_);clear Z K h9
  try simp only[pq]
  refine tkA 10 ?_;refine tkA 11 ?_;refine rdy 12 (λK Z=>?_);go_simp;refine Z.out _ _ trivial (λy=>?_);clear Z K y
  try simp only[pq]
  clear j1 j2;obtain⟨WN,I⟩:∃V,V=W1.setCell ⟨P,15,none⟩ (slice a1 nn c1):=⟨_,rfl⟩;rw[<-I]at Q2 Q3 Q5⊢;clear I HR ab;refine Vd kr ?_ _;refine At ?_;have az:Hid (∃tv H,H.length=0+1/\TkI n5 tv H WN/\NpS c m S Kk C P (pointer (some ⟨Bb,0,none⟩)) (pointer (some ⟨Q,0,none⟩)) (pointer (some ⟨G,0,none⟩)) (pointer (some ⟨O,0,none⟩)) tv WN/\Fj c.W P H):=⟨_,_,rfl,Q3.out,Q2.out,Q4.out⟩;clear Q2 Q3 Q4 a6 a2 a7 aC aa ag a8
 all_goals
  obtain⟨bR,bS,bB,bx,b0,bz⟩:=az.out;have bw:=b0.cc 0 (int i64 (c.W:Int)) rfl;clear bx b0 bz bB;go_upto_region 12 with fail
  clear bw
  go_loopw[83] (λbv wr=>∃(i:Nat),i<=c.W/\bv=int i64 i/\Hid (∃tv H,H.length=i+1/\TkI n5 tv H wr/\NpS c m S Kk C P (pointer (some ⟨Bb,0,none⟩)) (pointer (some ⟨Q,0,none⟩)) (pointer (some ⟨G,0,none⟩)) (pointer (some ⟨O,0,none⟩)) tv wr/\Fj c.W P H)/\Hid (Chg (λk=>k=P∨n5<=k) W9 wr)) (λs _=>c.W-(intOf s).toNat)
  case atStart=>exact⟨0,AR _,rfl,az,Q5⟩
  case round=>
   clear az Q5;obtain⟨i,bV,rfl,aE,ao⟩:=hrel
   by_cases bC:i<c.W
   ·have hd:decide ((i:Int)<(c.W:Int))=true:=by simp;omega
    obtain⟨tv,H,hl,ar,av,au⟩:=aE.out;obtain⟨D,x⟩:∃D,D=wr.drew:=⟨_,rfl⟩;have U:Bt wr D:=by rw[x];exact AN wr 1
    have al:=B.out.1.2;have pD:=av.keep U;have zD:=pD.ce 15 _ rfl;have a6:=AA (ar.keep U);have ad:=AA (Lq J.out.1 (show n5<=D.heap.size by have:=ao.out.size;have:=U.size;have:=aL.out;omega));have a2:Hid (H.length<=1000):=by show H.length<=1000;omega
    have N:=AA hl;have a7:=AA au;have aC:Hid (Mm P D.heap.size=CY c.W P H.length (Mm P D.heap.size).a):=by
     show _=_;unfold CY;rw[Lb om,Lc om]
     rfl
    have aa:=AA (ao.out.then (Chg.of_same U));have ag:=AA (als P D);have i1:(0:Int)<=(i:Int):=by omega
    have i2:(i:Int)<(c.W:Int):=by omega
    have bU:IntKind.i64.wrap ((i:Int)+1)=((i+1:Nat):Int):=by rw[BK];omega
    have aY:wrap64 ((i:Int)+1)=((i+1:Nat):Int):=aoQ (n:=c.W) om bC;clear U ar av au hl ao aE J al;have J:=ad;clear ad;go_upto_region 13 with fail
    refine Vb ?_;refine Va (S:=λY=>True) kr trivial (λhHeld=>?_);rw[<-x];clear x;refine tkA 0 ?_;refine tkA 1 ?_;refine tkA 2 ?_;refine tkA 3 ?_;refine tkA 5 ?_;refine apE 4 6 (λK Z=>?_) (λK Z=>?_)
    focus
     go_simp;refine Z.out _ _ trivial (λh4=>?_);clear Z K h4
     try simp only[pq]
     refine rdy 6 (λK Z=>?_);go_simp
     go_at_call 101;refine ag.out.mono ?_;rintro e aP X
     obtain rfl:=X.1;have z:=X.2.2.2.2;have pV:=pD.keep z;have zV:=(pV.ce 15 _ rfl);have zA:=pV.plt;have ab:=AA X;clear X z pV;refine Z.out _ _ trivial (λh6=>?_);clear Z K h6
     try simp only[pq]
     refine tkA 7 ?_;refine rdy 8 (λK Z=>?_);go_simp;refine Z.out _ _ trivial (λh8=>?_);clear Z K h8
     try simp only[pq]
    rotate_left
    focus
     go_simp
     go_at_call 101;refine ag.out.mono ?_;rintro e aP X
     obtain rfl:=X.1;have z:=X.2.2.2.2;have pV:=pD.keep z;have zV:=(pV.ce 15 _ rfl);have zA:=pV.plt;have ab:=AA X;clear X z pV;refine Z.out _ _ trivial (λh6=>?_);clear Z K h6
     try simp only[pq]
     refine tkA 7 ?_;refine apE 4 8 (λK Z=>?_) (λK Z=>?_)
     focus
      go_simp;refine Z.out _ _ trivial (λh4=>?_);clear Z K h4
      try simp only[pq]
      refine rdy 8 (λK Z=>?_);go_simp;refine Z.out _ _ trivial (λh8=>?_);clear Z K h8
      try simp only[pq]
     rotate_left
     focus
      go_simp;refine Z.out _ _ trivial (λh8=>?_);clear Z K h8
      try simp only[pq]
      refine rdy 4 (λK Z=>?_);go_simp;refine Z.out _ _ trivial (λh4=>?_);clear Z K h4
      try simp only[pq]
    all_goals
     clear zV zA;have a8:=AA pD;clear pD zD;obtain⟨a1,nn,c1,W1,hr,A,q2,q3,q4,q5⟩:=a6.out.one (W:=c.W) (t:=Mm P D.heap.size) a8.out J.out.1 J.out.2 a2.out ab.out.2.2.2.2 (ab.out.tkm rfl rfl rfl rfl) a7.out aC.out;have HR:=AA hr;have j1:=A.fr 15;have j2:=A.ce 15 _ rfl;have Q2:=AA q2;have Q3:=AA q3;have Q4:=AA q4;have Q5:=AA (aa.out.trans q5 λk _ hk=>hk);clear hr A q2 q3 q4 q5;refine rdy 9 (λK Z=>?_);refine GU (.tmp 89) (.tmp 93) 103 rfl _ _ rfl rfl rfl HR.out ?_;refine Z.out _ _ trivial (λh9=>?_);clear Z K h9
     try simp only[pq]
     refine tkA 10 ?_;refine tkA 11 ?_;refine rdy 12 (λK Z=>?_);go_simp;refine Z.out _ _ trivial (λy=>?_);clear Z K y
     try simp only[pq]
     clear j1 j2;obtain⟨WN,I⟩:∃V,V=W1.setCell ⟨P,15,none⟩ (slice a1 nn c1):=⟨_,rfl⟩;rw[<-I]at Q2 Q3 Q5⊢;clear I HR ab;refine Vd kr ?_ _;refine At ?_;have bb:Hid (∃tv H,H.length=(i+1)+1/\TkI n5 tv H WN/\NpS c m S Kk C P (pointer (some ⟨Bb,0,none⟩)) (pointer (some ⟨Q,0,none⟩)) (pointer (some ⟨G,0,none⟩)) (pointer (some ⟨O,0,none⟩)) tv WN/\Fj c.W P H):=⟨_,_,by rw[List.length_append,N.out];rfl,Q3.out,Q2.out,Q4.out⟩;clear Q2 Q3 Q4 a6 a2 a7 aC aa ag a8 N;go_wp2
     go_roundw
     case rel=>exact⟨i+1,by omega,by first|rfl|simp[aY],bb,Q5⟩
     case measure=>(try simp only[aY]);simp[intOf];omega
   ·obtain rfl:i=c.W:=by omega
    have hd:decide ((c.W:Int)<(c.W:Int))=false:=by simp
    go_upto_region 15 with fail
    obtain⟨tv,H,hl,ar,av,au⟩:=aE.out;obtain⟨D,x⟩:∃D,D=wr.drew:=⟨_,rfl⟩;have U:Bt wr D:=by rw[x];exact AN wr 1
    have al:=B.out.1.2;have pD:=av.keep U;have zD:=pD.ce 15 _ rfl;have a8:=AA pD;have a6:=AA (ar.keep U);have ad:=AA (Lq J.out.1 (show n5<=D.heap.size by have:=ao.out.size;have:=U.size;have:=aL.out;omega));have a2:Hid (H.length<=1000):=by show H.length<=1000;omega
    have N:=AA hl;have a7:=AA au;have aa:=AA (ao.out.then (Chg.of_same U));have aq:=AA (alo P);have ah:=AA (alb P);have aj:Hid (∀tv H V,NpS c m S Kk C P (pointer (some ⟨Bb,0,none⟩)) (pointer (some ⟨Q,0,none⟩)) (pointer (some ⟨G,0,none⟩)) (pointer (some ⟨O,0,none⟩)) tv V->TkI n5 tv H V->Fj c.W P H->H.length=c.W+3->Chg (λk=>k=P∨n5<=k) W9 V->∃P' C n1 n2 n3 n4 n5 Bb Bu Bd Q QB G GB O OB tv H,Ending.returned (.tuple #[pointer (some ⟨P,0,none⟩),int i64 0])=Ending.returned (.tuple #[pointer (some ⟨P',0,none⟩),int i64 0])/\GO c m S Kk w P' C n1 n2 n3 n4 n5 Bb Bu Bd Q QB G GB O OB tv H V):=λtv H V r1 r2 r3 r4 r5=>⟨P,C,_,_,_,_,n5,Bb,Bu,Bd,Q,QB,G,GB,O,OB,tv,H,rfl,r1,r2,r3,r4,bi.out.keep r5,by rw[bN.out];exact AC _,aO.out.trans (r5.below aO.out.size λk hk hx=>by have:=bd.out;have:=J.out.1;omega)⟩;clear U ar av au hl ao aE J al;have J:=ad;clear ad;go_upto_region 15 with fail
    refine Vb ?_;refine Va (S:=λY=>True) kr trivial (λhHeld=>?_);rw[<-x];clear x;refine tkA 0 ?_;refine tkA 1 ?_;refine tkA 2 ?_;refine tkA 3 ?_;refine tkA 5 ?_;refine tkA 8 ?_;refine apE 4 6 (λK Z=>?_) (λK Z=>?_)
    ·go_simp;refine Z.out _ _ trivial (λh4=>?_);clear Z K h4
     try simp only[pq]
     refine rdy 6 (λK Z=>?_);go_simp
     go_at_call 102;refine(aq.out _).mono ?_;rintro e wa X
     obtain rfl:=X.1;have h:=X.2.2.2.2;have kM:=AA (X.tkm (t:=JD P D.heap.size) rfl rfl rfl rfl);have sM:=AA X.2.2.2.1;clear X;have za:=((pD.keep h).ce 15 _ rfl);have pa:=pD.keep h;have la:=pa.plt;refine Z.out _ _ trivial (λh6=>?_);clear Z K h6
     try simp only[pq]
     refine tkA 7 ?_;refine rdy 9 (λK Z=>?_);go_simp
     go_at_call 103;refine(ah.out _).mono ?_;rintro e wb X
     obtain rfl:=X.1;have bE:=X.2.2.2.2;have kE:=AA (X.tkm (t:=IQ P wa.heap.size) rfl rfl rfl rfl);have sE:=AA X.2.2.2.1;clear X;have zb:=((pa.keep bE).ce 15 _ rfl);have pb:=pa.keep bE;have lb:=pb.plt;refine Z.out _ _ trivial (λh9=>?_);clear Z K h9
     try simp only[pq]
     refine tkA 10 ?_;refine rdy 11 (λK Z=>?_);go_simp;refine Z.out _ _ trivial (λh11=>?_);clear Z K h11
     try simp only[pq]
     obtain⟨a1,nn,c1,W1,hr,A,q2,q3,q4,q5⟩:=a6.out.two (W:=c.W) (t:=JD P D.heap.size) (u:=IQ P wa.heap.size) a8.out J.out.1 J.out.2 a2.out (h.trans (bE.mono h.size)) (⟨kM.out.1.below bE,kM.out.2⟩) (⟨kE.out.1,by have:=kE.out.2;have:=h.size;omega⟩) (.inl (by have:=sM.out;show D.heap.size+2<=wa.heap.size;omega)) a7.out (by rw[N.out];unfold CY;rw[Lb om,Lb om,Lc rfl];rfl) (by rw[N.out];unfold CY;rw[Lb om,Lb om,Lb om];rfl);have HR:=AA hr;have j1:=A.fr 15;have j2:=A.ce 15 _ rfl;have Q2:=AA q2;have Q3:=AA q3;have Q4:=AA q4;have Q5:=AA (aa.out.trans q5 λk _ hk=>hk);clear hr A q2 q3 q4 q5 kM kE h bE sM sE pD zD aq ah;refine rdy 12 (λK Z=>?_);refine GU (.tmp 102) (.tmp 109) 103 rfl _ _ rfl rfl rfl HR.out ?_;refine Z.out _ _ trivial (λy=>?_);clear Z K y
     try simp only[pq]
     refine tkA 13 ?_;refine tkA 14 ?_;refine rdy 15 (λK Z=>?_);go_simp;refine Z.out _ _ trivial (λaf=>?_);clear Z K af
     try simp only[pq]
     clear j1 j2;obtain⟨WN,I⟩:∃V,V=W1.setCell ⟨P,15,none⟩ (slice a1 nn c1):=⟨_,rfl⟩;rw[<-I]at Q2 Q3 Q5⊢;clear I HR;refine Vd kr ?_ _;refine At ?_;go_wp2;go_ret2;exact aj.out _ _ _ Q2.out Q3.out Q4.out (by simp[N.out]) Q5.out
    ·go_simp
     go_at_call 102;refine(aq.out _).mono ?_;rintro e wa X
     obtain rfl:=X.1;have h:=X.2.2.2.2;have kM:=AA (X.tkm (t:=JD P D.heap.size) rfl rfl rfl rfl);have sM:=AA X.2.2.2.1;clear X;have za:=((pD.keep h).ce 15 _ rfl);have pa:=pD.keep h;have la:=pa.plt;refine Z.out _ _ trivial (λh6=>?_);clear Z K h6
     try simp only[pq]
     refine tkA 7 ?_;refine apE 4 9 (λK Z=>?_) (λK Z=>?_)
     ·go_simp;refine Z.out _ _ trivial (λh4=>?_);clear Z K h4
      try simp only[pq]
      refine rdy 9 (λK Z=>?_);go_simp
      go_at_call 103;refine(ah.out _).mono ?_;rintro e wb X
      obtain rfl:=X.1;have bE:=X.2.2.2.2;have kE:=AA (X.tkm (t:=IQ P wa.heap.size) rfl rfl rfl rfl);have sE:=AA X.2.2.2.1;clear X;have zb:=((pa.keep bE).ce 15 _ rfl);have pb:=pa.keep bE;have lb:=pb.plt;refine Z.out _ _ trivial (λh9=>?_);clear Z K h9
      try simp only[pq]
      refine tkA 10 ?_;refine rdy 11 (λK Z=>?_);go_simp;refine Z.out _ _ trivial (λh11=>?_);clear Z K h11
      try simp only[pq]
      obtain⟨a1,nn,c1,W1,hr,A,q2,q3,q4,q5⟩:=a6.out.two (W:=c.W) (t:=JD P D.heap.size) (u:=IQ P wa.heap.size) a8.out J.out.1 J.out.2 a2.out (h.trans (bE.mono h.size)) (⟨kM.out.1.below bE,kM.out.2⟩) (⟨kE.out.1,by have:=kE.out.2;have:=h.size;omega⟩) (.inl (by have:=sM.out;show D.heap.size+2<=wa.heap.size;omega)) a7.out (by rw[N.out];unfold CY;rw[Lb om,Lb om,Lc rfl];rfl) (by rw[N.out];unfold CY;rw[Lb om,Lb om,Lb om];rfl);have HR:=AA hr;have j1:=A.fr 15;have j2:=A.ce 15 _ rfl;have Q2:=AA q2;have Q3:=AA q3;have Q4:=AA q4;have Q5:=AA (aa.out.trans q5 λk _ hk=>hk);clear hr A q2 q3 q4 q5 kM kE h bE sM sE pD zD aq ah;refine rdy 12 (λK Z=>?_);refine GU (.tmp 102) (.tmp 109) 103 rfl _ _ rfl rfl rfl HR.out ?_;refine Z.out _ _ trivial (λy=>?_);clear Z K y
      try simp only[pq]
      refine tkA 13 ?_;refine tkA 14 ?_;refine rdy 15 (λK Z=>?_);go_simp;refine Z.out _ _ trivial (λaf=>?_);clear Z K af
      try simp only[pq]
      clear j1 j2;obtain⟨WN,I⟩:∃V,V=W1.setCell ⟨P,15,none⟩ (slice a1 nn c1):=⟨_,rfl⟩;rw[<-I]at Q2 Q3 Q5⊢;clear I HR;refine Vd kr ?_ _;refine At ?_;go_wp2;go_ret2;exact aj.out _ _ _ Q2.out Q3.out Q4.out (by simp[N.out]) Q5.out
     ·go_simp
      go_at_call 103;refine(ah.out _).mono ?_;rintro e wb X
      obtain rfl:=X.1;have bE:=X.2.2.2.2;have kE:=AA (X.tkm (t:=IQ P wa.heap.size) rfl rfl rfl rfl);have sE:=AA X.2.2.2.1;clear X;have zb:=((pa.keep bE).ce 15 _ rfl);have pb:=pa.keep bE;have lb:=pb.plt;refine Z.out _ _ trivial (λh9=>?_);clear Z K h9
      try simp only[pq]
      refine tkA 10 ?_;refine apE 4 11 (λK Z=>?_) (λK Z=>?_)
      ·go_simp;refine Z.out _ _ trivial (λh4=>?_);clear Z K h4
       try simp only[pq]
       refine rdy 11 (λK Z=>?_);go_simp;refine Z.out _ _ trivial (λh11=>?_);clear Z K h11
       try simp only[pq]
       obtain⟨a1,nn,c1,W1,hr,A,q2,q3,q4,q5⟩:=a6.out.two (W:=c.W) (t:=JD P D.heap.size) (u:=IQ P wa.heap.size) a8.out J.out.1 J.out.2 a2.out (h.trans (bE.mono h.size)) (⟨kM.out.1.below bE,kM.out.2⟩) (⟨kE.out.1,by have:=kE.out.2;have:=h.size;omega⟩) (.inl (by have:=sM.out;show D.heap.size+2<=wa.heap.size;omega)) a7.out (by rw[N.out];unfold CY;rw[Lb om,Lb om,Lc rfl];rfl) (by rw[N.out];unfold CY;rw[Lb om,Lb om,Lb om];rfl);have HR:=AA hr;have j1:=A.fr 15;have j2:=A.ce 15 _ rfl;have Q2:=AA q2;have Q3:=AA q3;have Q4:=AA q4;have Q5:=AA (aa.out.trans q5 λk _ hk=>hk);clear hr A q2 q3 q4 q5 kM kE h bE sM sE pD zD aq ah;refine rdy 12 (λK Z=>?_);refine GU (.tmp 102) (.tmp 109) 103 rfl _ _ rfl rfl rfl HR.out ?_;refine Z.out _ _ trivial (λy=>?_);clear Z K y
       try simp only[pq]
       refine tkA 13 ?_;refine tkA 14 ?_;refine rdy 15 (λK Z=>?_);go_simp;refine Z.out _ _ trivial (λaf=>?_);clear Z K af
       try simp only[pq]
       clear j1 j2;obtain⟨WN,I⟩:∃V,V=W1.setCell ⟨P,15,none⟩ (slice a1 nn c1):=⟨_,rfl⟩;rw[<-I]at Q2 Q3 Q5⊢;clear I HR;refine Vd kr ?_ _;refine At ?_;go_wp2;go_ret2;exact aj.out _ _ _ Q2.out Q3.out Q4.out (by simp[N.out]) Q5.out
      ·go_simp;refine Z.out _ _ trivial (λh11=>?_);clear Z K h11
       try simp only[pq]
       refine rdy 4 (λK Z=>?_);go_simp;refine Z.out _ _ trivial (λh4=>?_);clear Z K h4
       try simp only[pq]
       obtain⟨a1,nn,c1,W1,hr,A,q2,q3,q4,q5⟩:=a6.out.two (W:=c.W) (t:=JD P D.heap.size) (u:=IQ P wa.heap.size) a8.out J.out.1 J.out.2 a2.out (h.trans (bE.mono h.size)) (⟨kM.out.1.below bE,kM.out.2⟩) (⟨kE.out.1,by have:=kE.out.2;have:=h.size;omega⟩) (.inl (by have:=sM.out;show D.heap.size+2<=wa.heap.size;omega)) a7.out (by rw[N.out];unfold CY;rw[Lb om,Lb om,Lc rfl];rfl) (by rw[N.out];unfold CY;rw[Lb om,Lb om,Lb om];rfl);have HR:=AA hr;have j1:=A.fr 15;have j2:=A.ce 15 _ rfl;have Q2:=AA q2;have Q3:=AA q3;have Q4:=AA q4;have Q5:=AA (aa.out.trans q5 λk _ hk=>hk);clear hr A q2 q3 q4 q5 kM kE h bE sM sE pD zD aq ah;refine rdy 12 (λK Z=>?_);refine GU (.tmp 102) (.tmp 109) 103 rfl _ _ rfl rfl rfl HR.out ?_;refine Z.out _ _ trivial (λy=>?_);clear Z K y
       try simp only[pq]
       refine tkA 13 ?_;refine tkA 14 ?_;refine rdy 15 (λK Z=>?_);go_simp;refine Z.out _ _ trivial (λaf=>?_);clear Z K af
       try simp only[pq]
       clear j1 j2;obtain⟨WN,I⟩:∃V,V=W1.setCell ⟨P,15,none⟩ (slice a1 nn c1):=⟨_,rfl⟩;rw[<-I]at Q2 Q3 Q5⊢;clear I HR;refine Vd kr ?_ _;refine At ?_;go_wp2;go_ret2;exact aj.out _ _ _ Q2.out Q3.out Q4.out (by simp[N.out]) Q5.out
end
section
def CC(tl:List Tk)(j:Nat):Nat:=(tl[j]?.map Tk.a).getD 0
open Classical in
noncomputable def Cp (o0:Nat->Nat) (sz W P n1 n2 n3 n4 n5 Z:Nat) (tl:List Tk) (k:Nat):Nat:=
 if k<sz then o0 k else if Z<=k then 1000000 else if k=P then 1 else if n1<=k/\k<n2 then 4 else if n2<=k/\k<n3 then 5 else if n3<=k/\k<n4 then 6 else if n4<=k/\k<n5 then 7 else
  if k=CC tl 0 then 8 else if k=CC tl (W+1) then 9 else if k=CC tl (W+2) then 10 else if h:∃i,i<W/\CC tl (i+1)=k then 11+Classical.choose h else 0
section
variable {c:CfM}{m S Kk:Nat}{w V:World}{P n0 n1 n2 n3 n4 n5 Bb Bu Bd Q QB G GB O OB:Nat}{tv:Value}{tl:List Tk}{o0:Nat->Nat}
theorem GO.get(h:GO c m S Kk w P n0 n1 n2 n3 n4 n5 Bb Bu Bd Q QB G GB O OB tv tl V){j:Nat}(Y:j<c.W+3):∃t,tl[j]?=some t/\t.a=CC tl j/\t=CY c.W P j t.a:=by
 have Z:j<tl.length:=by rw[h.len];exact Y
 have e:tl[j]?=some tl[j]:=Ar Z;exact⟨_,e,by unfold CC;rw[e];rfl,h.sh j _ e⟩
theorem GO.apart(h:GO c m S Kk w P n0 n1 n2 n3 n4 n5 Bb Bu Bd Q QB G GB O OB tv tl V){i j:Nat}(U:i<c.W+3)(X:j<c.W+3)(Y:i≠j):CC tl i+2<=CC tl j∨CC tl j+2<=CC tl i:=by
 obtain⟨t,h1,h2,_⟩:=h.get U;obtain⟨u,h3,h4,_⟩:=h.get X;rw[<-h2,<-h4]
 rcases Nat.lt_or_gt_of_ne Y with Z|Z
 ·exact h.ti.dj i j t u h1 h3 Z
 ·exact(h.ti.dj j i u t h3 h1 Z).symm
theorem GO.own(h:GO c m S Kk w P n0 n1 n2 n3 n4 n5 Bb Bu Bd Q QB G GB O OB tv tl V){j:Nat}(D:j<c.W+3):Cp o0 w.heap.size c.W P n1 n2 n3 n4 n5 V.heap.size tl (CC tl j)=(if j=0 then 8 else if j<=c.W then 10+j else if j=c.W+1 then 9 else 10)/\Cp o0 w.heap.size c.W P n1 n2 n3 n4 n5 V.heap.size tl (CC tl j+1)=0:=by
 obtain⟨t,h1,h2,_⟩:=h.get D;obtain⟨y,z,g3,g4⟩:=h.ti.el j t h1;have x:=h.grp.lt;have C:=y.2.2;have A:=h.lo;have B:=h.np.lt;rw[h2]at C z;have Y:=λi (N:i<c.W+3) (X:i≠j)=>h.apart N D X
 constructor
 ·unfold Cp;rw[Lb om,Lb om,Lb om,Lb om,Lb om,Lb om,Lb om]
  by_cases J:j=0
  ·subst J;rw[Lc rfl,Lc rfl]
  ·rw[Lb (by have:=Y 0 om (Ne.symm J);omega),Lb J]
   by_cases H:j=c.W+1
   ·subst H;rw[Lc rfl,Lb om,Lc rfl]
   ·rw[Lb (by have:=Y (c.W+1) om (Ne.symm H);omega)]
    by_cases I:j=c.W+2
    ·subst I;rw[Lc rfl,Lb om,Lb om]
    ·rw[Lb (by have:=Y (c.W+2) om (Ne.symm I);omega),Lc om];have U:∃i,i<c.W/\CC tl (i+1)=CC tl j:=⟨j-1,by omega,by rw[show j-1+1=j by omega]⟩;rw[dif_pos U];have s:=Classical.choose_spec U;have:Classical.choose U+1=j:=Md λZ=>by
      have:=Y (Classical.choose U+1) om Z;omega
     omega
 ·unfold Cp;have Z:∀i,i<c.W+3->CC tl j+1≠CC tl i:=λi N e=>by
   by_cases X:i=j
   ·subst X;omega
   ·have:=Y i N X;omega
  rw[Lb om,Lb om,Lb om,Lb om,Lb om,Lb om,Lb om,Lb (Z 0 om),Lb (Z (c.W+1) om),Lb (Z (c.W+2) om),dif_neg λ⟨i,N,e⟩=>Z (i+1) om e.symm]
theorem GO.row(h:GO c m S Kk w P n0 n1 n2 n3 n4 n5 Bb Bu Bd Q QB G GB O OB tv tl V):∃g cap,tv=slice (some ⟨g,0,none⟩) (c.W+3) cap/\c.W+3<=cap/\g<V.heap.size/\Cp o0 w.heap.size c.W P n1 n2 n3 n4 n5 V.heap.size tl g=0/\g≠P/\∀j t,tl[j]?=some t->V.cell? ⟨g,j,none⟩=some (ifV t):=by
 have x:=h.grp.lt;have H:=h.lo;have I:=h.np.lt
 rcases h.ti.row.2 with⟨_,h0⟩|⟨g,cap,B,e,y,U,X,z,A,Y⟩
 ·have:=h.len;omega
 ·rw[h.len]at e X Y;have D:=(AD.1 U).1;have Z:∀i,i<c.W+3->g≠CC tl i:=λi J C=>by
   obtain⟨t,h1,h2,_⟩:=h.get J;exact(h.ti.el i t h1).2.2.1 (by rw[e,h2,<-C];rfl)
  refine⟨g,cap,e,X,D,?_,by omega,λj t N=>?_⟩
  ·unfold Cp;rw[Lb om,Lb om,Lb om,Lb om,Lb om,Lb om,Lb om,Lb (Z 0 om),Lb (Z (c.W+1) om),Lb (Z (c.W+2) om),dif_neg λ⟨i,J,e⟩=>Z (i+1) om e.symm]
  ·have s:j<c.W+3:=by rw[<-h.len];exact(AP.1 N).1
   have:(tl.map ifV)[j]?=some (ifV t):=by rw[BU,N];rfl
   rw[<-Y,MW om,Array.getElem?_toList]at this;simp only[cell?,U];exact this
def adN(P m S Kk Bb Bu Bd Q QB G GB O OB g cap W q:Nat)(tl:List Tk)(Wm:World):PAd:=
 ⟨P,m,S,Kk,Bb,Bu,Bd,Q,QB,G,GB,O,OB,g,cap,CC tl 0,λi=>CC tl (i+1),CC tl (W+1),CC tl (W+2),CC tl 0+1,λi=>CC tl (i+1)+1,CC tl (W+1)+1,CC tl (W+2)+1,q,Wm⟩
theorem ao8(h:GO c m S Kk w P n0 n1 n2 n3 n4 n5 Bb Bu Bd Q QB G GB O OB tv tl V){q:Nat}{Wm:World}{rs:La}{s:List TVw}{sa ka:Option Addr}{D sc kn kc:Nat}(ho:∀k,w.heap.size<=k->o0 k=1000000)(hs:BY (λk=>o0 k=2) S sa D sc s rs c.br 0 w)(B:D<=1000000)
  (hk:CN (λk=>o0 k=3) Kk ka kn kc (slice none 0 0) c.ans [] 0 w) (hm:∀V,Fk q Wm V->Nz m c V) (J:Fk q Wm w) (hz:∀k,q<=k->k<Wm.heap.size->o0 k=0) (hr:1<=c.R) (hq:1<=c.Q) (a1:1<=c.O) :
  ∃g cap,AI (adN P m S Kk Bb Bu Bd Q QB G GB O OB g cap c.W q tl Wm) c (Cp o0 w.heap.size c.W P n1 n2 n3 n4 n5 V.heap.size tl) (Bn c rs) V:=by
 obtain⟨g,cap,y,r2,r3,r4,r5,r6⟩:=h.row (o0:=o0);subst y;have hl:=h.grp.lt;have a6:=h.lo;have a2:=h.np.lt;have a7:=h.below.size;obtain⟨A,hA⟩:∃A,adN P m S Kk Bb Bu Bd Q QB G GB O OB g cap c.W q tl Wm=A:=⟨_,rfl⟩;have X:∀k,k<w.heap.size->Cp o0 w.heap.size c.W P n1 n2 n3 n4 n5 V.heap.size tl k=o0 k:=λk hk=>Lc hk;have hcw:Chg (λ_=>False) w V:=.of_same h.below;refine⟨g,cap,λt C=>?_,λk hk=>?_⟩
 ·match t,C with
  |0,_=>
   have mk:∀j,j<c.W+3->∀f:Nat->Option Value,(∀t,t=CY c.W P j t.a->t.a=CC tl j->t.f=f)->ES V (CC tl j+1) f/\Cp o0 w.heap.size c.W P n1 n2 n3 n4 n5 V.heap.size tl (CC tl j+1)=0:=λj hj f hf=>by obtain⟨t,h1,h2,h3⟩:=h.get hj;have:=(h.ti.el j t h1).1.2.1;rw[hf t h3 h2,h2]at this;exact⟨this,(h.own hj).2⟩
   refine⟨λt C=>?_,⟨r4,r3⟩,mk 0 om _ λt h1 h2=>?_,λi U=>mk (i+1) om _ λt h1 h2=>?_,mk (c.W+1) om _ λt h1 h2=>?_,mk (c.W+2) om _ λt h1 h2=>?_,⟨hm,J.below h.below,λk h1 h2=>by rw[X k (Af h2 J.1)];exact hz k h1 h2⟩,r2⟩
   ·obtain⟨u,h1,h2,h3⟩:=h.get C;refine(r6 t u h1).trans ?_;rw[h3,h2];unfold CY Mo adN
    by_cases t0:t=0
    ·subst t0;rfl
    ·rw[Lb t0,Lb t0]
     by_cases I:t<=c.W
     ·rw[Lc I,Lc I];show some (Value.iface _ (pointer (some ⟨CC tl t,0,none⟩)))=some (Value.iface _ (pointer (some ⟨CC tl (t-1+1),0,none⟩)));rw[show t-1+1=t by omega]
      rfl
     ·rw[Lb I,Lb I]
      by_cases H:t=c.W+1
      ·subst H;rw[Lc rfl,Lc rfl];rfl
      ·rw[Lb H,Lb H];obtain rfl:t=c.W+2:=by omega
       rfl
   ·rw[h1];unfold CY;rw[Lc rfl,h2];rfl
   ·rw[h1];unfold CY;rw[Lb om,Lc om,h2];rfl
   ·rw[h1];unfold CY;rw[Lb om,Lb om,Lc rfl,h2];rfl
   ·rw[h1];unfold CY;rw[Lb om,Lb om,Lb om,h2];rfl
  |1,_=>
   refine⟨slice none 0 0,h.np.box,?_,CO.nil _ _ _ _,by simp[Value.ownBlock]⟩;show Cp o0 w.heap.size c.W P n1 n2 n3 n4 n5 V.heap.size tl P=1;unfold Cp;rw[Lb om,Lb om,Lc rfl]
  |2,_=>exact⟨sa,D,sc,s,(hs.keep hcw λ_ _ _ h=>h).wide λk hk Z=>by
    have N:k<w.heap.size:=Nat.lt_of_not_le λz=>by have:=ho k z;have Z:o0 k=2:=Z;omega
    exact(X k N).trans Z,B⟩
  |3,_=>exact⟨ka,kn,kc,slice none 0 0,(hk.keep hcw λ_ _ _ h=>h).wide λk hk Z=>by
    have N:k<w.heap.size:=Nat.lt_of_not_le λz=>by have:=ho k z;have Z:o0 k=3:=Z;omega
    exact(X k N).trans Z⟩
  |4,_=>
   refine h.grp.buf.wide6 λk hk Z=>?_;show Cp o0 w.heap.size c.W P n1 n2 n3 n4 n5 V.heap.size tl k=4;unfold Cp;rw[Lb om,Lb om,Lb om,Lc Z]
  |5,_=>
   refine⟨0,_,h.grp.que.wide λk hk Z=>?_,CS,λi b U=>by simp[Bn]at U⟩;show Cp o0 w.heap.size c.W P n1 n2 n3 n4 n5 V.heap.size tl k=5;unfold Cp;rw[Lb om,Lb om,Lb om,Lb om,Lc Z]
  |6,_=>
   refine⟨_,h.grp.rng.wide λk hk Z=>?_,CS,CS,λi x U=>?_⟩
   ·show Cp o0 w.heap.size c.W P n1 n2 n3 n4 n5 V.heap.size tl k=6;unfold Cp;rw[Lb om,Lb om,Lb om,Lb om,Lb om,Lc Z]
   ·have Z:=Ho (AX (show(List.replicate c.R (none:Option (List AF)))[i]?=some x from U));subst Z;exact⟨((none,0,0),false),List.getElem?_replicate_of_lt (Ek _ om),rfl⟩
  |7,_=>
   refine⟨0,_,h.grp.out.wide λk hk Z=>?_,CS,λi b U=>by simp[Bn]at U⟩;show Cp o0 w.heap.size c.W P n1 n2 n3 n4 n5 V.heap.size tl k=7;unfold Cp;rw[Lb om,Lb om,Lb om,Lb om,Lb om,Lb om,Lc Z]
  |8,_=>
   obtain⟨t,h1,h2,h3⟩:=h.get (j:=0) om;have Y:=(h.ti.el 0 t h1).1.1;rw[h3,h2]at Y;refine⟨slice none 0 0,Y,?_,Cv.nil _ _,by simp[Value.ownBlock]⟩;exact(h.own (o0:=o0) (j:=0) om).1.trans (Lc rfl)
  |9,_=>
   obtain⟨t,h1,h2,h3⟩:=h.get (j:=c.W+1) om;have Y:=(h.ti.el _ t h1).1.1;rw[h3,h2]at Y;unfold CY at Y;rw[Lb om,Lb om,Lc rfl]at Y;refine⟨none,0,0,Y,?_,⟨⟨rfl,.inl rfl⟩,λh=>absurd rfl h⟩,AC _⟩;exact(h.own (o0:=o0) (j:=c.W+1) om).1.trans (by rw[Lb om,Lb om,Lc rfl])
  |10,_=>
   obtain⟨t,h1,h2,h3⟩:=h.get (j:=c.W+2) om;have Y:=(h.ti.el _ t h1).1.1;rw[h3,h2]at Y;unfold CY at Y;rw[Lb om,Lb om,Lb om]at Y;refine⟨Y,?_⟩;exact(h.own (o0:=o0) (j:=c.W+2) om).1.trans (by rw[Lb om,Lb om,Lb om])
  |i+11,_=>
   show CP (adN P m S Kk Bb Bu Bd Q QB G GB O OB g cap c.W q tl Wm) (Bn c rs) (λk=>Cp o0 w.heap.size c.W P n1 n2 n3 n4 n5 V.heap.size tl k=i+11) (λk=>Cp o0 w.heap.size c.W P n1 n2 n3 n4 n5 V.heap.size tl k=0) V i;unfold CP
   by_cases U:i<c.W
   ·have e:(Bn c rs).wk[i]?=some (wk0 1):=List.getElem?_replicate_of_lt U;rw[e];obtain⟨t,h1,h2,h3⟩:=h.get (j:=i+1) om;have Y:=(h.ti.el _ t h1).1.1;rw[h3,h2]at Y;unfold CY at Y;rw[Lb om,Lc om]at Y;refine⟨⟨0,0,0,none,0,0,0⟩,slice none 0 0,Y,?_,⟨rfl,rfl,rfl,rfl,⟨⟨⟨rfl,.inl rfl⟩,λx Z=>by cases Z⟩,λh=>absurd rfl h⟩⟩,CO.nil _ _ _ _,by simp[Value.ownBlock],λ_ g hg=>by simp[Value.ownBlock]at hg⟩;exact(h.own (o0:=o0) (j:=i+1) om).1.trans (by rw[Lb om,Lc om];omega)
   ·have e:(Bn c rs).wk[i]?=none:=by show(List.replicate c.W (wk0 1))[i]?=none;simp;omega
    rw[e]
    trivial
 ·unfold Cp;rw[Lb om,Lc hk]
end
end
theorem ajG(a:Option Addr)(n c:Nat)(ans:List Bool)(w:World)(h:Sl1 bool w a n ans)(A:n<=1000000) :Calls ZP 53 #[slice a n c] w λe w'=>∃K j s,e=.returned (pointer (some ⟨K,0,none⟩))/\CN (λk=>w.heap.size<=k) K j n s (slice none 0 0) ans [] 0 w'/\Bt w w':=by
 have HC:=AA (ahR a n c (ans.map bool) w (Jz h) (λu C=>by obtain⟨x,_,rfl⟩:=Be.1 C;rfl) A);have HL:=AA h.1;clear h;go_enter func53,ntmps53
 go_wp2_with (go_at_call 94;refine HC.out.mono ?_;rintro e Y ⟨v1,rfl,ho,H⟩;obtain⟨N,c1,V,_,X⟩:=SlK.own ho;subst V;have HO:=AA ho;have HS:=AA X;have J:=AA H;clear ho X H)
 go_ret;obtain⟨W,hW⟩:∃U,U=Y.alloc (.cells #[slice N n c1,slice none 0 0,int i64 0] 113):=⟨_,rfl⟩;have Z:Bt Y W:=by rw[hW];exact AL _ _
 have D:W.heap[Y.heap.size]?=some (.cells #[slice N n c1,slice none 0 0,int i64 0] 113 (0,0)):=by rw[hW];exact AT _ _
 refine⟨Y.heap.size,N,c1,rfl,⟨by rw[<-hW];exact D,J.out.size,?_,λh0 q B=>?_,CO.nil _ _ _ _,by simp[Value.ownBlock]⟩,by rw[<-hW];exact J.out.trans (Z.mono J.out.size)⟩
 ·refine⟨HL.out,?_⟩
  rcases HS.out.2 with h|⟨b,off,e,I,y⟩
  ·exact .inl h
  ·refine .inr ⟨b,off,e,by rw[<-hW];exact Af I Z.size,λi x z=>?_⟩;rw[<-hW,Z.cell (p:=⟨b,off+i,none⟩) I];exact y i _ (by rw[BU,z];rfl)
 ·subst B;have:=Gw HO.out q.block rfl;refine⟨this.1,by omega,by simp[Value.ownBlock]⟩
theorem Wds.rds{w:World}{a:Option Addr}{n:Nat}{Z:La}(h:Wds w a n Z):∃Y,aph w a n Y Z:=by obtain⟨Y,h1,h2,h3⟩:=h;exact⟨Y,h1,h2,λi v xs V X=>(h3 i v xs V X).1⟩
theorem amg{wk bl rg Y X Z fr:Int}(h:Ce wk bl rg Y X Z fr=true):∃W K R Q O S F:Nat,wk=W/\bl=K/\rg=R/\Y=Q/\X=O/\Z=S/\fr=F:=by have h:=Gi.1 h;exact⟨wk.toNat,bl.toNat,rg.toNat,Y.toNat,X.toNat,Z.toNat,fr.toNat,by omega,by omega,by omega,by omega,by omega,by omega,by omega⟩
theorem aok{c:CfM}(h:Ce c.W c.K c.R c.Q c.O c.S c.F=true)(Z:c.L<=32):OkC c:=by have h:=Gi.1 h;exact⟨by omega,by omega,by omega,by omega,by omega,by omega,by omega,by unfold CfM.wm;omega⟩
section
attribute[local go_sem] Oper.semAt_some
attribute[local simp] Ak Al
attribute[local go_sem] Ak Al
theorem aqv:(ZP.info? 126).map (λi=>(i.zero,i.size,i.bytes))=some (some (.agg #[int i64 0,int i64 0,int i64 0,slice none 0 0,int i64 0]),5,56):=by kernel_rfl
theorem aqe(l m:List PcW):EY (l++m)=EY l++EY m:=by simp[EY]
def PF(w:World)(base:Nat)(v:Value)(l:List PcW):Prop:=w.ownsRow base 126 5 v l.length (EY l)
def ar5(b base:Nat)(l:List PcW)(W:World):Prop:=∃v,Boxed W b 128 v/\PF W base v l
theorem aqg{α:Type}{B b base:Nat}{Pb:Nat->World->World->Prop}(D:base<=b)(N:∀r W J,Pb r W J->r<base)(f:α->List PcW):BT B Pb (λs W=>ar5 b base (f s) W):=by
 rintro s W J row ⟨v,Z,ho⟩ U V;have X:∀{k:Nat}{cs:Array Value}{t:TypeId},W.heap[k]?=some (.cells cs t (0,0))->base<=k->row≠some k:=λ{k cs t} hk I e=>by
  rcases V k e with⟨_,o,h1,h2⟩|h
  ·rw[hk]at h1;cases h1;cases h2
  ·have:=N k _ _ h;omega
 refine⟨v,(U.block b Z.lt (λe=>X Z D e.symm)).trans Z,ho.kept U ?_⟩
 rcases ho.2 with⟨rfl,_⟩|⟨g,cap,A,rfl,H,Y,_⟩
 ·exact .inl rfl
 ·refine .inr λe=>?_;have C:row=some g:=by rw[<-e];rfl
  rcases V g C with⟨_,o,h1,h2⟩|h
  ·rw[Y]at h1;cases h1;cases h2
  ·have:=N g _ _ h;omega
theorem arf(V:World)(x:PcW):SlK 5 (V.alloc (.cells #[int i64 x.num,int i64 x.start,int i64 x.warm,slice x.a x.m x.c,int i64 x.buf] 126)) (some ⟨V.heap.size,0,none⟩) 1 [int i64 x.num,int i64 x.start,int i64 x.warm,slice x.a x.m x.c,int i64 x.buf]:=by
 refine⟨rfl,.inr ⟨V.heap.size,0,rfl,by simp,λi u Z=>?_⟩⟩;have:=GI (w:=V) #[int i64 x.num,int i64 x.start,int i64 x.warm,slice x.a x.m x.c,int i64 x.buf] 126 rfl i u (by simpa using Z)
 rwa[Cf]at this
def pcA(x:PcW):Array Value:=#[.agg #[int i64 x.num,int i64 x.start,int i64 x.warm,slice x.a x.m x.c,int i64 x.buf]]
theorem aq0{gf:Nat}{lb:Array Value}{B:Nat}{Pb:Nat->World->World->Prop}{S:List PcW->World->Prop}{Sp:List PcW->Prop}{N n₀:Nat}(w:World)
  (eg:∀args w,(callFunc gf args).run ZP w=.ok (.enter gf args) w)
  (a7:Hi Fence.wide 8 ZP gf lb pcA (KpB B) Pb S Sp N w) (hB:B<=w.heap.size) (z:∀r W W',Pb r W W'->r<w.heap.size) (hSk:∀(xs:List PcW)(W:World)(l:Nat)(o o':Obj),w.heap.size<=l->W.heap[l]?=some o->o.isCells=false->S xs W->S xs (W.putObj l o'))
  (a8:n₀<=w.heap.size) (aj:∀r W W',Pb r W W'->n₀<=r) (hN:N<=1000000000) (ai:∀xs W,S xs W->xs.length<=1000000000) :
  Calls ZP 172 #[slice none 0 0,.func (.func gf) #[] lb] w λe w'=>∃v xs W,e=.returned v/\S xs W/\(∃D,w.heap.size<=D/\w'=W.putObj D (.deferred none))/\PF w' w.heap.size v xs/\Below n₀ w w':=by
 obtain⟨i0,hi,ad,ac,ab⟩:=Ve aqv;obtain⟨W1,hW⟩:∃W,W=w.alloc (.cells #[slice none 0 0] 128):=⟨_,rfl⟩;have U:Below w.heap.size w W1:=by rw[hW];exact AL _ _
 have bS:Boxed W1 w.heap.size 128 (slice none 0 0):=by rw[hW];exact Boxed.new _ _ _
 have ag:W1.heap.size=w.heap.size+1:=by rw[hW];simp
 have a6:Hi Fence.wide 8 ZP gf lb pcA (KpB B) Pb S Sp N W1:=λl J Jx W hb=>a7 l J Jx W (U.trans (hb.mono U.size));refine Hc func172 rfl ?_;simp only[ntmps172,Cw,Ao,Bw,Nat.reduceAdd,Nat.reduceSub,Dd,Dc,DX,Da,Av,CT];go_upto_region 1 with fail
 rw[<-hW];clear hW a7;go_wp2;obtain⟨g,hg⟩:∃g,w.heap.size=g:=⟨_,rfl⟩;rw[hg]at bS ag U hB z hSk a8⊢;have HG:=AA hg
 apply NL rfl eg a6 (λr W W' hr=>by have:=z r W W' hr;omega) (λxs W l o o' hl=>hSk xs W l o o' om) KpB.t ?hKb (λ_=>rfl)
  (λH V=>ar5 g g H V/\Below n₀ w V/\W1.heap.size<=V.heap.size)
  (λ_ _ _=>False)
 case hKb=>exact λW l o o' hl _ _ _=>⟨by simp[World.putObj],λk h1 _=>Cm om⟩
 case wA=>exact λx W=>W.alloc (.cells #[int i64 x.num,int i64 x.start,int i64 x.warm,slice x.a x.m x.c,int i64 x.buf] 126)
 case hwA=>exact λx W=>AL _ _
 case hKg=>exact λx W hW=>KpB.of_below ((AL _ _).mono om)
 case hI=>exact BT.and (aqg (AC _) z id) (BT.and (BT.below om om aj) (BT.size _ _ _))
 case hIx=>exact λ_ _ _ _ _ hs _ _=>hs
 case h0=>exact⟨⟨_,bS,BN _ _ _ _⟩,U.mono a8,AC _⟩
 case hassign=>
  intro l x W K hK;unfold pcA
  gi_wp2
  exact hK
 case hbody=>
  rintro l H x I V ak ⟨⟨v,j,Z⟩,y,a1⟩ al
  try dsimp only
  have Y:=ak.2 I.heap.size _ _ _ (AT I (.cells #[int i64 x.num,int i64 x.start,int i64 x.warm,slice x.a x.m x.c,int i64 x.buf] 126));have au:V.cell? ⟨I.heap.size,0,none⟩=some (int i64 x.num):=by simp[cell?,Y]
  have ar:V.cell? ⟨I.heap.size,1,none⟩=some (int i64 x.start):=by simp[cell?,Y]
  have aq:V.cell? ⟨I.heap.size,2,none⟩=some (int i64 x.warm):=by simp[cell?,Y]
  have ap:V.cell? ⟨I.heap.size,3,none⟩=some (slice x.a x.m x.c):=by simp[cell?,Y]
  have ao:V.cell? ⟨I.heap.size,4,none⟩=some (int i64 x.buf):=by simp[cell?,Y]
  have k2:I.heap.size<V.heap.size:=(AD.1 Y).1;obtain⟨m,C⟩:∃m,H.length=m:=⟨_,rfl⟩;have aw:m<=1000000001:=by omega
  unfold PF at Z;rw[C]at Z;have s:=AA C;clear C;obtain⟨av,cv,rfl,ah,af⟩:=SlK.own Z;have c2:=j.cell;have ax:=j.lt;clear Y
  gi_wp2_with (gi_at_builtin;refine aa2 _ rfl _ _ 128 rfl g 126 i0 (.agg #[.int .i64 0,.int .i64 0,.int .i64 0,.slice none 0 0,.int .i64 0]) 5 56 underlying128 hi ad ac ab rfl (by decide) _ _ _ rfl (Z.alloc _) (some ⟨V.heap.size,0,none⟩) 1 1 [.int .i64 x.num,.int .i64 x.start,.int .i64 x.warm,.slice x.a x.m x.c,.int .i64 x.buf] rfl (arf V x) (by simp[Value.oneCell']) (by unfold maxLen;omega) om (by simp;omega) ?_;intro v' w5 X A ay;obtain⟨g',am,rfl⟩:=ownsRow_succ X;obtain⟨b1,b2,b3,b4,b5⟩:=j.appended (Lj kr) Z om (AC _) X A;have d1:=b1.cell;have d2:=b1.frozen;have d3:=b1.lt)
  refine⟨b4.from _,?_,⟨_,b2,?_⟩,y.trans (b5.mono om),AS a1 (by have:=b5.size;simpa using this)⟩
  ·exact KpB.of_below (b5.mono om)
  ·unfold PF;rw[List.length_append,s.out,aqe];exact b3
 case hstop=>exact λ_ _ _ _ _ _ h _=>h.elim
 case hdone=>
  rintro D xs V hD hS ⟨⟨v,j,Z⟩,y,a1⟩ aa;have ae:=ai xs V hS;obtain⟨m,C⟩:∃m,xs.length=m:=⟨_,rfl⟩;unfold PF at Z;rw[C]at Z ae;have s:=AA C;clear C;obtain⟨av,cv,rfl,ah,af⟩:=SlK.own Z;have c2:=j.cell;have a2:=ownsRow_putObj Z (.deferred none) aa rfl;have HS:=AA hS;clear Z hS;go_wp2;refine Gg rfl aa (results_tmp rfl _ _ _) ⟨_,xs,V,rfl,HS.out,⟨D,by omega,rfl⟩,?_,FZ y om om _⟩;unfold PF;rw[s.out,HG.out];exact a2
theorem aqa{U:Nat}{C:Array Value}{B:Nat}{Pb:Nat->World->World->Prop}{S:List PcW->World->Prop}{h:List PcW->Prop}{N J:Nat}(w:World)
  (j:∀args w,(callFunc U args).run ZP w=.ok (.enter U args) w)
  (Z:Hi Fence.wide 8 ZP U C pcA (KpB B) Pb S h N w) (hB:B<=w.heap.size) (V:∀r W H,Pb r W H->r<w.heap.size) (hSk:∀(xs:List PcW)(W:World)(l:Nat)(o o':Obj),w.heap.size<=l->W.heap[l]?=some o->o.isCells=false->S xs W->S xs (W.putObj l o'))
  (I:J<=w.heap.size) (X:∀r W H,Pb r W H->J<=r) (x:N<=1000000000) (Y:∀xs W,S xs W->xs.length<=1000000000) :
  Calls ZP 120 #[.func (.func U) #[] C] w λe w'=>∃v xs W,e=.returned v/\S xs W/\(∃D,w.heap.size<=D/\w'=W.putObj D (.deferred none))/\PF w' w.heap.size v xs/\Below J w w':=by
 have HC:=AA (aq0 w j Z hB V hSk I X x Y);clear Z V hSk X Y;go_enter func120,ntmps120
 go_wp2_with fail
 refine HC.out.mono ?_;rintro e w1 ⟨v,xs,W,rfl,y,s,A,z⟩;go_wp2;go_ret;exact⟨v,xs,W,rfl,y,s,A,z⟩
end
section
attribute[local go_sem] Oper.semAt_some
attribute[local simp] Ak Al
attribute[local go_sem] Ak Al
def qlP(Z:List PcW)(first many:Nat):List PcW:=(List.range many).map λi=>Z.getD ((first+i) % Z.length) ⟨0,0,0,none,0,0,0⟩
theorem aqW{Z:List PcW}{first many j:Nat}(h:j<many):(qlP Z first many).take (j+1)=(qlP Z first many).take j++[Z.getD ((first+j) % Z.length) ⟨0,0,0,none,0,0,0⟩]:=by
 have Y:(qlP Z first many)[j]?=some (Z.getD ((first+j) % Z.length) ⟨0,0,0,none,0,0,0⟩):=by
  unfold qlP;rw[BU,It h]
  rfl
 exact As Y
theorem aqb{X:Nat->Prop}(p Q B first many:Nat)(closed:Bool)(C:List PcW)(I m:Nat)(w:World)(hp:w.heap[p]?=some (.cells #[pointer (some ⟨Q,0,none⟩)] 269 (0,0)))(z:Ab X Q B first many closed C w)(ac:p<I)(af:Q<I)(ag:B<I)(hB:I<=w.heap.size) :Hi Fence.wide m ZP 173 #[pointer (some ⟨p,0,none⟩)] pcA (KpB I) (λ_ _ _=>False) (λxs _=>xs=qlP C first many) (λ_=>True) 1000001 w:=by
 intro lo J Jx W hW hJ al hY h0;have base:Hid (∀V,(w.heap.size<=V.heap.size/\∀k,k<I->V.heap[k]?=w.heap[k]?)->V.cell? ⟨p,0,none⟩=some (pointer (some ⟨Q,0,none⟩))/\Ab X Q B first many closed C V):=λV hV=>by have e1:=(hV.2 p ac).trans hp;exact⟨by simp[cell?,e1],(hV.2 Q af).trans z.box,(hV.2 B ag).trans z.places,z.inX,z.ne,z.room⟩
 have a2:Hid (w.heap.size<=W.heap.size/\∀k,k<I->W.heap[k]?=w.heap[k]?):=⟨hW.size,λk hk=>hW.block k om⟩;have aa:=AA hB;obtain⟨r1,r2,r3,r4⟩:=z.room;obtain⟨L,hL⟩:∃L,C.length=L:=⟨_,rfl⟩;have HL:=AA hL;rw[hL]at r1 r2 r3 r4;clear hp z hL;obtain⟨c1,Z⟩:=base.out W a2.out;have c2:W.cell? ⟨Q,2,none⟩=some (int i64 (many:Int)):=by simp[cell?,Z.box]
 clear Z;refine callsIn_of_wp func173 rfl trivial ?_ rfl;simp only[ntmps173,Cw,Ao,Bw,Nat.reduceAdd,Nat.reduceSub,Dd,Dc,DX,Da,Av,CT]
 gi_wp2
 clear c1 c2
 gi_loopw[8] (λi wr=>∃(j:Nat)(pre:List PcW),j<=many/\i=int i64 j/\Hid (pre=(qlP C first many).take j)/\J pre wr/\Hid (w.heap.size<=wr.heap.size/\∀k,k<I->wr.heap[k]?=w.heap[k]?)) (λi _=>many-(intOf i).toNat)
 case atStart=>exact⟨0,[],AR _,rfl,rfl,h0,a2⟩
 case round=>
  obtain⟨j,pre,hk,rfl,HP,hj,D⟩:=hrel
  by_cases H:j<many
  ·have ad:decide ((j:Int)<(many:Int))=true:=by simp;omega
   have ak:decide (j<many)=true:=by simp;omega
   obtain⟨b1,Z⟩:=base.out wr D.out;have hl:=HL.out;have b2:wr.cell? ⟨Q,0,none⟩=some (slice (some ⟨B,0,none⟩) L L):=by simp[cell?,Z.box,hl]
   have b3:wr.cell? ⟨Q,1,none⟩=some (int i64 (first:Int)):=by simp[cell?,Z.box]
   have e1:IntKind.i64.wrap ((first:Int)+(j:Int))=((first+j:Nat):Int):=by rw[BK];omega
   have e2:((first+j:Nat):Int).tmod (L:Int)=(((first+j) % L:Nat):Int):=by rw[Jq om];simp
   have A:(first+j) % L<L:=Ek _ om;obtain⟨x,hx⟩:∃x,C[(first+j) % L]?=some x:=⟨_,Ar om⟩;obtain⟨y0,y1,y2,y3,y4⟩:=ag4 hx;have HS:Hid (pre++[x]=(qlP C first many).take (j+1)):=by rw[Hid,HP.out,aqW H,hl,DZ,hx];rfl
   have Y:pre.length<1000001:=by rw[HP.out,Ag];omega
   obtain⟨s,hs⟩:∃s,first+j=s:=⟨_,rfl⟩;rw[hs]at e1 e2 A y0 y1 y2 y3 y4;obtain⟨i,hi⟩:∃i,s % L=i:=⟨_,rfl⟩;rw[hi]at e2 A y0 y1 y2 y3 y4;have x0:wr.cell? ⟨B,i*5,none⟩=some (int i64 x.num):=by simp[cell?,Z.places];exact y0
   have x1:wr.cell? ⟨B,i*5+1,none⟩=some (int i64 x.start):=by simp[cell?,Z.places];exact y1
   have x2:wr.cell? ⟨B,i*5+2,none⟩=some (int i64 x.warm):=by simp[cell?,Z.places];exact y2
   have x3:wr.cell? ⟨B,i*5+3,none⟩=some (slice x.a x.m x.c):=by simp[cell?,Z.places];exact y3
   have x4:wr.cell? ⟨B,i*5+4,none⟩=some (int i64 x.buf):=by simp[cell?,Z.places];exact y4
   have i1:(0:Int)<=(i:Int):=by omega
   have i2:(i:Int)<(L:Int):=by omega
   have z0:¬(L:Int)=0:=by omega
   have z1:¬L=0:=by omega
   have ai:=AA hj;have ah:=AA Y;have a8:=AA H;clear hx y0 y1 y2 y3 y4 Z hl hs hi hj Y H
   gi_wp2
   refine Ld (FL _ _) 19 mixed kr kr ?_;dsimp only[List.take_succ_cons,List.take_zero,List.drop_succ_cons,List.drop_zero]
   repeat (go_big_quiet_step (fail))
   refine wpQuiet_nil ?_;rintro _ ⟨y,rfl⟩;have N:Bt wr (wr.drewN y):=⟨rfl,rfl,rfl,AC _,λ_ _=>rfl⟩;obtain⟨W4,a7⟩:∃X,X=wr.drewN y:=⟨_,rfl⟩;rw[<-a7]at N⊢;clear a7;have a6:=Jf hJ ai.out N;have U:Hid (w.heap.size<=W4.heap.size/\∀k,k<I->W4.heap[k]?=w.heap[k]?):=
    ⟨AS D.out.1 N.size,λk hk=>(N.block k (by have:=D.out.1;have:=aa.out;omega)).trans (D.out.2 k hk)⟩
   obtain⟨fn,tmps,assign,body,ab,ae⟩:=hY pre x W4 a6 ah.out;dsimp only[pcA]at ab;clear b1 b2 b3 x0 x1 x2 x3 x4 N a6
   gi_wp2
   refine ae.mono ?_;rintro e W5 (⟨rfl,hJ4,hk4⟩|⟨rfl,hJx4⟩)
   ·have a1:Hid (w.heap.size<=W5.heap.size/\∀k,k<I->W5.heap[k]?=w.heap[k]?):=⟨AS U.out.1 hk4.1,λk hk=>(hk4.2 k hk (by have:=U.out.1;have:=aa.out;omega)).trans (U.out.2 k hk)⟩;have aj:=AA hJ4;clear hk4 hJ4
    gi_wp2
    go_roundw
    case rel=>exact⟨j+1,_,a8.out,by go_num,HS,aj.out,a1⟩
    case measure=>
     have:=a8.out;simp[intOf];omega
   ·gi_wp2
    refine Vf (results_none rfl _ _ _) rfl ?_;exact⟨⟨_,rfl⟩,.inr ⟨_,trivial,hJx4⟩⟩
  ·obtain rfl:j=many:=by omega
   have ad:decide ((j:Int)<(j:Int))=false:=by simp
   have HF:Hid (pre=qlP C first j):=by
    have h:=HP.out
    rwa[Ap (by unfold qlP;simp)]at h
   clear H
   gi_wp2
   go_end0
   exact⟨⟨_,rfl⟩,.inl ⟨pre,HF.out,hj⟩⟩
theorem aqC(Q:Nat)(w:World) :Calls ZP 121 #[pointer (some ⟨Q,0,none⟩)] w λe w'=>e=.returned (.func (.func 173) #[] #[pointer (some ⟨w.heap.size,0,none⟩)])/\w'=w.alloc (.cells #[pointer (some ⟨Q,0,none⟩)] 269):=by go_enter func121,ntmps121;go_wp2;go_ret;exact⟨rfl,rfl⟩
theorem aqK{X:Nat->Prop}{Q B first many:Nat}{closed:Bool}{U:List PcW}(w:World)(h:Ab X Q B first many closed U w) :Calls ZP 73 #[pointer (some ⟨Q,0,none⟩)] w λe w'=>∃v,e=.returned v/\PF w' w.heap.size v (qlP U first many)/\Bt w w':=by
 have D:=AA (aqC Q w);obtain⟨W,hW⟩:∃W,W=w.alloc (.cells #[pointer (some ⟨Q,0,none⟩)] 269):=⟨_,rfl⟩;rw[<-hW]at D;have hB:Bt w W:=by rw[hW];exact AL _ _
 have N:W.heap[w.heap.size]?=some (.cells #[pointer (some ⟨Q,0,none⟩)] 269 (0,0)):=by rw[hW];exact AT _ _
 have Y:=h.below hB;have Z:=aqb (X:=X) w.heap.size Q B first many closed U W.heap.size 8 W N Y (AD.1 N).1 (AD.1 Y.box).1 (AD.1 Y.places).1 (AC _);have C:=h.room;have z:=AA (aqa W (Vg func173 kr rfl) Z (AC _) (λ_ _ _ h=>h.elim) (λ_ _ _ _ _ _ _ _ h=>h) (AC _) (λ_ _ _ h=>h.elim) om (λxs V h=>by rw[h];unfold qlP;simp;omega));have I:=AA hB;clear h hW hB N Y Z C;go_enter func73,ntmps73
 go_wp2_with fail
 refine D.out.mono ?_;rintro e x ⟨rfl,rfl⟩
 go_wp2_with fail
 refine z.out.mono ?_;rintro e y ⟨v,xs,V,rfl,rfl,_,ho,H⟩;have A:=AA ho;have J:=AA H;clear ho H;go_wp2;go_ret;exact⟨v,rfl,NC A.out I.out.size,I.out.trans (J.out.mono I.out.size)⟩
end
theorem PS(T:Nat)(a:Int)(w:World)(h:w.cell? ⟨T,1,none⟩=some (.int .u8 a)) :Calls ZP 320 #[pointer (some ⟨T,0,none⟩)] w λe w'=>e=.returned (.int .u8 a)/\Bt w w':=by have Z:=AA (AH w.heap.size w);go_enter func320,ntmps320;go_wp2;go_ret;exact⟨rfl,Z.out⟩
def phT(c:CfM)(s:PlM)(t:Nat):Nat:=if t=0 then s.rd.ph else if t<=c.W then phW s (t-1) else if t=c.W+1 then s.mph else s.eph
theorem aqx{A:PAd}{c:CfM}{s:PlM}{o:Nat->Nat}(w:World)(h:AI A c o s w)(Y:OkC c)(V:s.wk.length=c.W)(t:Nat)(X:t<c.W+3):Calls ZP 320 #[pointer (some ⟨adT A c t,0,none⟩)] w λe w'=>e=.returned (.int .u8 (phT c s t:Nat))/\Bt w w':=by
 unfold phT adT
 split
 ·exact PS _ _ w h.tcR.c1
 ·split
  ·have Z:t-1<s.wk.length:=by omega
   rw[IZ (Ar Z)];exact PS _ _ w (h.tcW (Ar Z) (by have:=Y.W;omega)).c1
  ·split
   ·exact PS _ _ w h.tcM.c1
   ·exact PS _ _ w h.tcE.c1
def phF(c:CfM)(s:PlM)(i:Nat):List Int:=(List.range i).map λt=>(phT c s t:Int)
theorem aqX(c:CfM)(s:PlM)(i:Nat):phF c s (i+1)=phF c s i++[(phT c s i:Int)]:=by unfold phF;rw[El,Aj];rfl
theorem aqN(c:CfM)(s:PlM)(i:Nat):(phF c s i).length=i:=by simp[phF]
theorem aqP{w:World}{base n size:Nat}{e:TypeId}{v:Value}{xs:List Value}(h:w.ownsRow base e size v n xs):∃a Z,v=slice a n Z:=by
 rcases h.2 with⟨rfl,rfl⟩|⟨g,cap,Y,rfl,_⟩
 ·exact⟨_,_,rfl⟩
 ·exact⟨_,_,rfl⟩
theorem ara{Z:Nat->Prop}{w:World}{X:List PcW}{first n:Nat}{q:List Bc}(V:X.length=n)(h:∀i b,q[i]?=some b->∃p,X[(first+i) % n]?=some p/\PcD Z w p b):(qlP X first q.length).map (λp=>p.num)=q.map λb=>(b.num:Int):=by
 refine Hn λi=>?_;unfold qlP;rw[List.map_map,BU,BU]
 by_cases Y:i<q.length
 ·rw[It Y,Ar Y];obtain⟨p,h1,h2⟩:=h i _ (Ar Y);simp only[Dw,Function.comp,DZ,V,h1,CG,h2.1]
 ·rw[GT (by simpa using Y),GT (by simpa using Y)]
  rfl
structure VwL(X1:World)(p f:Nat)(C:Array Value)(e:TypeId)(v:Value)(n:Nat)(xs:List Value)(w:World):Prop where
 c:Chg (λk=>k=p) X1 w
 b:w.heap[p]?=some (.cells (C.setIfInBounds f v) 63 (0,0))
 r:w.ownsRow X1.heap.size e 1 v n xs
theorem VwL.bel{X Y U:World}{p f n:Nat}{C:Array Value}{e:TypeId}{v:Value}{xs:List Value}(h:VwL X p f C e v n xs Y)(Z:Bt Y U):VwL X p f C e v n xs U:=⟨h.c.same Z,(Z.block p (AD.1 h.b).1).trans h.b,Fu h.r λk hk=>Z.block k (Gw h.r k hk).2⟩
theorem VwL.cell{X Z:World}{p f n:Nat}{C:Array Value}{e:TypeId}{v:Value}{xs:List Value}(h:VwL X p f C e v n xs Z)(Y:f<C.size):Z.cell? ⟨p,f,none⟩=some v:=by simp[cell?,h.b,Y]
theorem VwL.app{N U0 U:World}{p f q n bytes:Nat}{C:Array Value}{e t ty:TypeId}{i:TypeInfo}{z v x:Value}{xs:List Value}(h:VwL N p f C e v n xs U0)(hp:p<N.heap.size)(hf:f<C.size)(B:Bt U0 U)(hq:U.heap[q]?=some (.cells #[x] e (0,0)))(hx:x.oneCell'=true)(hn:n<=1000000)(ht:ZP.underlying t=some (.slice e))(hi:ZP.info? e=some i)(hz:i.zero=some z)(hs:i.size=1)(a7:i.bytes=bytes)(hB:bytes<=8)(y:z.cells.size=1) :∃I c1 Y,(Builtin.append_ #[t,t] ty #[v,slice (some ⟨q,0,none⟩) 1 1]).run ZP U=.ok (slice I (n+1) c1) Y/\Chg (λk=>k=p) N Y/\Y.frozen? ⟨p,f,none⟩=false/\Y.cell? ⟨p,f,none⟩=some v/\VwL N p f C e (slice I (n+1) c1) (n+1) (xs++[x]) (Y.setCell ⟨p,f,none⟩ (slice I (n+1) c1)):=by
 have aa:=B.size;have h0:=h.c.size;have a6:=(B.block p om).trans h.b;have X:U.ownsRow N.heap.size e 1 v n xs:=Fu h.r λk hk=>B.block k (Gw h.r k hk).2;have a2:SlK 1 U (some ⟨q,0,none⟩) 1 [x]:=⟨rfl,.inr ⟨q,0,rfl,(AD.1 hq).1,λj u J=>by
  match j,J with
  |0,J=>cases J;simp[cell?,hq]⟩⟩
 obtain⟨v',Y,hr,ho,hg,a8⟩:=Gu (P:=ZP) U N.heap.size t ty e i z 1 bytes ht hi hz hs a7 y (by decide) v n xs X (some ⟨q,0,none⟩) 1 1 [x] a2 (λu J=>by simp at J;subst J;exact hx) (by unfold maxLen;omega) (AS (Nat.mul_le_mul_left _ hB) om) om;obtain⟨I,c1,s,_,_⟩:=SlK.own ho;subst s;have H:v.ownBlock≠some p:=λZ=>by have:=(Gw X p Z).1;omega
 have V:=(hg.block p om λZ=>H Z.symm).trans a6;have D:Chg (λk=>k=p) N Y:=(h.c.same B).grown hg λg Z hl=>by have:=(Gw X g Z).1;omega
 refine⟨I,c1,Y,hr,D,by simp[frozen?,V],by simp[cell?,V,hf],D.set rfl,?_,?_⟩
 ·have:=AJ (i:=f) V (slice I (n+1) c1)
  simpa using this
 ·refine Fu ho λk hk=>AQ Y ⟨p,f,none⟩ _ k λZ=>?_;have Z:k=p:=Z
  rcases a8 with A|A
  ·exact H (by rw[<-A,hk,Z])
  ·rw[hk]at A;have:=AK A;omega
theorem aqU:(ZP.info? 5).map (λi=>(i.zero,i.size,i.bytes))=some (some (.int .u8 0),1,1):=by kernel_rfl
theorem aqM:(ZP.info? 3).map (λi=>(i.zero,i.size,i.bytes))=some (some (int i64 0),1,8):=by kernel_rfl
theorem Pa{w:World}{base n size p:Nat}{e t:TypeId}{v:Value}{xs:List Value}{C:Array Value}(h:w.ownsRow base e size v n xs)(X:w.heap[p]?=some (.cells C t (0,0)))(V:e≠t):v.ownBlock≠some p:=λY=>by
 rcases h.2 with⟨rfl,_⟩|⟨g,cap,U,rfl,N,Z,_⟩
 ·cases Y
 ·cases Y
  rw[X]at Z
  cases Z
  exact V rfl
theorem PI{w w':World}{base n size p:Nat}{e:TypeId}{v:Value}{xs:List Value}(h:w.ownsRow base e size v n xs)(Y:Chg (λk=>k=p) w w')(Z:v.ownBlock≠some p):w'.ownsRow base e size v n xs:=Fu h λk hk=>Y.block k (Gw h k hk).2 λe=>Z (by rw[hk,e])
theorem arg(N U V X Z:Int)(a4 B:Option Addr)(I c4 J H:Nat)(C D Y:Bool):ZP.built 63 [(1,int i64 N),(2,int i64 U),(4,slice a4 I c4),(5,int i64 V),(6,slice B J H),(7,int i64 X),(8,bool C),(9,bool D),(10,bool Y),(11,int i64 Z)]=some #[slice none 0 0,int i64 N,int i64 U,slice none 0 0,slice a4 I c4,int i64 V,slice B J H,int i64 X,bool C,bool D,bool Y,int i64 Z]:=by kernel_rfl
section
attribute[local go_sem] Oper.semAt_some
attribute[local simp] Ak Al
attribute[local go_sem] Ak Al
def Oy(us:List Bool):Nat->List Int
 |0=>[]
 |j+1=>Oy us j++(if us.getD j false then [(j:Int)] else [])
theorem PN(us:List Bool):∀j,(Oy us j).length<=j
 |0=>AC _
 |j+1=>by
  have:=PN us j;unfold Oy;rw[List.length_append]
  split<;>simp<;>omega
theorem aq6(p B U:Nat)(fv sv dv:Value)(us:List Bool)(H m:Nat)(w:World)(hp:w.heap[p]?=some (.cells #[pointer (some ⟨B,0,none⟩)] 104 (0,0)))(D:w.heap[B]?=some (.cells #[fv,sv,slice (some ⟨U,0,none⟩) us.length us.length,dv] 210 (0,0)))(hu:w.heap[U]?=some (.cells (us.map bool).toArray 4 (0,0)))(aa:us.length<=1000000)(a2:p<H)(ab:B<H)(a7:U<H)(hB:H<=w.heap.size) :Hi Fence.wide m ZP 171 #[pointer (some ⟨p,0,none⟩)] Kg (KpB H) (λ_ _ _=>False) (λxs _=>xs=Oy us us.length) (λ_=>True) 1000001 w:=by
 intro lo J Jx W hW hJ ag hY h0;obtain⟨L,hL⟩:∃L,us.length=L:=⟨_,rfl⟩;rw[hL]at D aa⊢;have base:Hid (∀V:World,(w.heap.size<=V.heap.size/\∀k,k<H->V.heap[k]?=w.heap[k]?)->V.cell? ⟨p,0,none⟩=some (pointer (some ⟨B,0,none⟩))/\V.cell? ⟨B,2,none⟩=some (slice (some ⟨U,0,none⟩) L L)/\∀i y,us[i]?=some y->V.cell? ⟨U,i,none⟩=some (bool y)):=λV hV=>by have e1:=(hV.2 p a2).trans hp;have e2:=(hV.2 B ab).trans D;have e3:=(hV.2 U a7).trans hu;exact⟨by simp[cell?,e1],by simp[cell?,e2],λi y C=>by simp[cell?,e3,C]⟩
 have z:Hid (w.heap.size<=W.heap.size/\∀k,k<H->W.heap[k]?=w.heap[k]?):=⟨hW.size,λk hk=>hW.block k om⟩;have ae:=AA hB;have HL:=AA hL;clear hp D hu hL;obtain⟨c1,c2,_⟩:=base.out W z.out;refine callsIn_of_wp func171 rfl trivial ?_ rfl;simp only[ntmps171,Cw,Ao,Bw,Nat.reduceAdd,Nat.reduceSub,Dd,Dc,DX,Da,Av,CT]
 gi_wp2
 clear c1 c2
 gi_loopw[10] (λi wr=>∃(j:Nat)(pre:List Int),j<=L/\i=int i64 j/\Hid (pre=Oy us j)/\J pre wr/\Hid (w.heap.size<=wr.heap.size/\∀k,k<H->wr.heap[k]?=w.heap[k]?)) (λi _=>L-(intOf i).toNat)
 case atStart=>exact⟨0,[],AR _,rfl,rfl,h0,z⟩
 case round=>
  obtain⟨j,pre,hk,rfl,h,hj,X⟩:=hrel
  by_cases N:j<L
  ·have a6:decide ((j:Int)<(L:Int))=true:=by simp;omega
   have af:decide (j<L)=true:=by simp;omega
   obtain⟨_,_,b3⟩:=base.out wr X.out;obtain⟨y,C⟩:∃y,us[j]?=some y:=⟨_,Ar (by rw[HL.out];exact N)⟩;have x0:=b3 j y C;have Z:Oy us (j+1)=Oy us j++(if y then [(j:Int)] else []):=by
    show Oy us j++_=_;rw[DZ,C]
    rfl
   have Y:pre.length<1000001:=by rw[h.out];have:=PN us j;omega
   have i1:(0:Int)<=(j:Int):=by omega
   have i2:(j:Int)<(L:Int):=by omega
   have x:=AA Z;have I:=AA N;have ac:=AA Y;have s:=AA hj;clear b3 C Z Y N hj
   cases y with
   |false=>
    gi_wp2
    go_roundw
    case rel=>exact⟨j+1,pre,I.out,by go_num,by rw[Hid,x.out,h.out];simp,s.out,X⟩
    case measure=>
     have:=I.out;simp[intOf];omega
   |true=>
    obtain⟨fn,tmps,assign,body,a1,a8⟩:=hY pre (j:Int) wr s.out ac.out;dsimp only[Kg]at a1
    gi_wp2
    refine a8.mono ?_;rintro e W5 (⟨rfl,hJ4,hk4⟩|⟨rfl,hJx4⟩)
    ·have A:Hid (w.heap.size<=W5.heap.size/\∀k,k<H->W5.heap[k]?=w.heap[k]?):=⟨AS X.out.1 hk4.1,λk hk=>(hk4.2 k hk (by have:=X.out.1;have:=ae.out;omega)).trans (X.out.2 k hk)⟩;have ad:=AA hJ4;clear hk4 hJ4
     gi_wp2
     go_roundw
     case rel=>exact⟨j+1,_,I.out,by go_num,by rw[Hid,x.out,h.out];simp,ad.out,A⟩
     case measure=>
      have:=I.out;simp[intOf];omega
    ·gi_wp2
     refine Vf (results_none rfl _ _ _) rfl ?_;exact⟨⟨_,rfl⟩,.inr ⟨_,trivial,hJx4⟩⟩
  ·obtain rfl:j=L:=by omega
   have a6:decide ((j:Int)<(j:Int))=false:=by simp
   clear N
   gi_wp2
   go_end0
   exact⟨⟨_,rfl⟩,.inl ⟨pre,h.out,hj⟩⟩
theorem aqi(B:Nat)(w:World) :Calls ZP 118 #[pointer (some ⟨B,0,none⟩)] w λe w'=>e=.returned (.func (.func 171) #[] #[pointer (some ⟨w.heap.size,0,none⟩)])/\w'=w.alloc (.cells #[pointer (some ⟨B,0,none⟩)] 104):=by go_enter func118,ntmps118;go_wp2;go_ret;exact⟨rfl,rfl⟩
theorem aqz{X:Nat->Prop}{B U D size:Nat}{fr:List Int}{us:List Bool}{ds:La}(w:World)(h:DM X B U D size fr us ds w)(y:us.length<=1000000) :Calls ZP 69 #[pointer (some ⟨B,0,none⟩)] w λe w'=>∃v,e=.returned v/\FR w' w.heap.size v (Oy us us.length)/\Bt w w':=by
 obtain⟨z,fv,dv,h⟩:=h;have A:=AA (aqi B w);obtain⟨W,hW⟩:∃W,W=w.alloc (.cells #[pointer (some ⟨B,0,none⟩)] 104):=⟨_,rfl⟩;rw[<-hW]at A;have hB:Bt w W:=by rw[hW];exact AL _ _
 have J:W.heap[w.heap.size]?=some (.cells #[pointer (some ⟨B,0,none⟩)] 104 (0,0)):=by rw[hW];exact AT _ _
 have N:=h.keep (Y:=λ_=>False) (.of_same hB) λ_ _ _ h=>h;have Z:=aq6 w.heap.size B U _ _ _ us W.heap.size 8 W J N.box N.used y (AD.1 J).1 (AD.1 N.box).1 (AD.1 N.used).1 (AC _);have s:=AA (aex W (Vg func171 kr rfl) Z (AC _) (λ_ _ _ h=>h.elim) (λ_ _ _ _ _ _ _ _ h=>h) (AC _) (λ_ _ _ h=>h.elim) om (λxs V h=>by rw[h];have:=PN us us.length;omega));have H:=AA hB;clear h hW hB J N Z;go_enter func69,ntmps69
 go_wp2_with fail
 refine A.out.mono ?_;rintro e w1 ⟨rfl,rfl⟩
 go_wp2_with fail
 refine s.out.mono ?_;rintro e j ⟨v,xs,V,rfl,rfl,_,ho,C⟩;have x:=AA ho;have I:=AA C;clear ho C;go_wp2;go_ret;exact⟨v,rfl,NC x.out H.out.size,H.out.trans (I.out.mono H.out.size)⟩
end
end Go.Proofs.YtaamacoicojhnaaGreat
