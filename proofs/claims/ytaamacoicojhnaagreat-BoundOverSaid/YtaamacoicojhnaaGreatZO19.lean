/- Proofs over the given program, part 19. -/
import Derived.Test.YtaamacoicojhnaaGreatZO18
set_option linter.unusedVariables false
set_option linter.unusedSimpArgs false
set_option maxRecDepth 100000
set_option maxHeartbeats 16000000
open Go.Proofs.Tryz
open Go.Proofs.Tryz renaming prog→ZP
open Go.World(cell? frozen?)
open Go.Value(int slice pointer bool)
open Go.IntKind(i64)
namespace Go.Proofs.YtaamacoicojhnaaGreat
open Go.RowKit Go.Sort
structure Im(c:CfM)(P n1 n2 n3 n4 n5 Bb Bu Bd Q QB G GB O OB:Nat)(V:World):Prop where
 buf:DM (λk=>n1<=k/\k<n2) Bb Bu Bd (c.K+c.wm) ((List.range c.R).reverse.map λx:Nat=>(x:Int)) (List.replicate c.R false) (List.replicate c.R []) V
 que:Ab (λk=>n2<=k/\k<n3) Q QB 0 0 false (List.replicate c.Q ⟨0,0,0,none,0,0,0⟩) V
 rng:BZ (λk=>n3<=k/\k<n4) G GB 0 (List.replicate c.R ((none,0,0),false)) V
 out:AY (λk=>n4<=k/\k<n5) O OB 0 0 false (List.replicate c.O (0,0)) V
 lt:P<n1/\n1<=n2/\n2<=n3/\n3<=n4/\n4<=n5/\n5<=V.heap.size
theorem DM.keep6{X Y:Nat->Prop}{B U D size:Nat}{fr:List Int}{us:List Bool}{ds:Lq}{w w':World}(h:DM X B U D size fr us ds w)(N:Chg Y w w')(Z:∀k,k<w.heap.size->X k->¬Y k):DM X B U D size fr us ds w':=let⟨a,b,d,g⟩:=h;⟨a,b,d,g.keep N Z⟩
theorem DM.wide6{X Y:Nat->Prop}{B U D size:Nat}{fr:List Int}{us:List Bool}{ds:Lq}{w:World}(h:DM X B U D size fr us ds w)(Z:∀k,k<w.heap.size->X k->Y k):DM Y B U D size fr us ds w:=let⟨a,b,d,g⟩:=h;⟨a,b,d,g.wide Z⟩
section
variable {c:CfM}{P n1 n2 n3 n4 n5 Bb Bu Bd Q QB G GB O OB:Nat}{V V' w6 w7 w8 w9 W6 W7 W8 W9:World}
theorem Im.keep(h:Im c P n1 n2 n3 n4 n5 Bb Bu Bd Q QB G GB O OB V)(Z:Chg (λk=>k=P∨n5<=k) V V'):Im c P n1 n2 n3 n4 n5 Bb Bu Bd Q QB G GB O OB V':=by have Y:=h.lt;exact⟨h.buf.keep6 Z λk _ h1 h2=>by omega,h.que.keep Z λk _ h1 h2=>by omega,h.rng.keep Z λk _ h1 h2=>by omega,h.out.keep Z λk _ h1 h2=>by omega,by have:=Z.size;omega⟩
theorem Im.mk2(X:DM (λk=>n1<=k) Bb Bu Bd (c.K+c.wm) ((List.range c.R).reverse.map λx:Nat=>(x:Int)) (List.replicate c.R false) (List.replicate c.R []) w6)(h1:P<n1)(h2:n1<=w6.heap.size)(D:Chg (λk=>k=P) w6 W6)(A:Br W6 w7)
  (e:Ab (λk=>W6.heap.size<=k) Q QB 0 0 false (List.replicate c.Q ⟨0,0,0,none,0,0,0⟩) w7) (J:Chg (λk=>k=P) w7 W7) (B:Br W7 w8) (j:BZ (λk=>W7.heap.size<=k) G GB 0 (List.replicate c.R ((none,0,0),false)) w8) (N:Chg (λk=>k=P) w8 W8)
  (C:Br W8 w9) (o:AY (λk=>W8.heap.size<=k) O OB 0 0 false (List.replicate c.O (0,0)) w9) (U:Chg (λk=>k=P) w9 W9):Im c P n1 W6.heap.size W7.heap.size W8.heap.size W9.heap.size Bb Bu Bd Q QB G GB O OB W9:=by
 have z6:=D.size;have z7:=A.size;have s:=J.size;have z8:=B.size;have v:=N.size;have z9:=C.size;have y:=U.size;have I:Chg (λk=>k=P) W8 W9:=(Chg.of_same C).then U;have H:Chg (λk=>k=P) W7 W9:=((Chg.of_same B).then N).then I;have d7:Chg (λk=>k=P) W6 W9:=((Chg.of_same A).then J).then H;refine⟨?_,?_,?_,?_,by omega⟩
 ·exact(X.wide6 (Y:=λk=>n1<=k/\k<W6.heap.size) λk hk Z=>(⟨Z,by omega⟩:n1<=k/\k<W6.heap.size)).keep6 (D.then d7) λk _ h3 h4=>by omega
 ·exact(e.wide (Y:=λk=>W6.heap.size<=k/\k<W7.heap.size) λk hk Z=>(⟨Z,by omega⟩:W6.heap.size<=k/\k<W7.heap.size)).keep (J.then H) λk _ h3 h4=>by omega
 ·exact(j.wide (Y:=λk=>W7.heap.size<=k/\k<W8.heap.size) λk hk Z=>(⟨Z,by omega⟩:W7.heap.size<=k/\k<W8.heap.size)).keep (N.then I) λk _ h3 h4=>by omega
 ·exact(o.wide (Y:=λk=>W8.heap.size<=k/\k<W9.heap.size) λk hk Z=>(⟨Z,by omega⟩:W8.heap.size<=k/\k<W9.heap.size)).keep U λk _ h3 h4=>by omega
end
theorem TkM.below{t:Tk}{D V:World}(h:TkM t D)(Z:Br D V):TkM t V:=h.keep (Y:=λ_=>False) (.of_same Z) id id
theorem TkI.two{n5 P W:Nat}{X:Value}{tl:List Tk}{t u:Tk}{D V:World}{c:CfM}{m S Kk U:Nat}{b q g o:Value}(h:TkI n5 X tl D)(e:NpS c m S Kk U P b q g o X D)(hP:P<n5)(I:n5<=D.heap.size)(hl:tl.length<=1000)(hD:Br D V)
  (hm:TkM t V/\D.heap.size<=t.a) (B:TkM u V/\D.heap.size<=u.a) (hd:t.a+2<=u.a∨u.a+2<=t.a) (s:Fj W P tl) (A:t=CY W P tl.length t.a) (J:u=CY W P (tl.length+1) u.a) :
  ∃Z n c1 Y,(Builtin.append_ #[103,103] 103 #[X,.slice (some ⟨V.heap.size,0,none⟩) 2 2]).run ZP (V.alloc (.cells #[ifV t,ifV u] 100))=.ok (.slice Z n c1) Y/\
   NpS c m S Kk U P b q g o X Y/\NpS c m S Kk U P b q g o (slice Z n c1) (Y.setCell ⟨P,15,none⟩ (slice Z n c1))/\
   TkI n5 (slice Z n c1) ((tl++[t])++[u]) (Y.setCell ⟨P,15,none⟩ (slice Z n c1))/\Fj W P ((tl++[t])++[u])/\
   Chg (λk=>k=P∨n5<=k) D (Y.setCell ⟨P,15,none⟩ (slice Z n c1)):=by
 obtain⟨Z,c1,Y,g1,g2,g3,g4,g5⟩:=h.app (nw:=[t,u]) e hP I hl sm hD (λi v N=>by
  have:=(AP.1 N).1;simp at this
  rcases(show i=0∨i=1 by omega)with rfl|rfl
  ·cases AK N;exact hm
  ·cases AK N;exact B) (λi j x y C H a2=>by
  have:=(AP.1 H).1;simp at this;obtain rfl:i=0:=by omega
  obtain rfl:j=1:=by omega
  cases AK C
  cases AK H
  exact hd)
 refine⟨Z,_,c1,Y,g1,g2,g3,?_,(s.snoc A).snoc (by rw[List.length_append];exact J),g5⟩;rw[CE];exact g4
structure GO(c:CfM)(m S Kk:Nat)(w:World)(P n0 n1 n2 n3 n4 n5 Bb Bu Bd Q QB G GB O OB:Nat)(tv:Value)(tl:List Tk)(V:World):Prop where
 np:NpS c m S Kk n0 P (pointer (some ⟨Bb,0,none⟩)) (pointer (some ⟨Q,0,none⟩)) (pointer (some ⟨G,0,none⟩)) (pointer (some ⟨O,0,none⟩)) tv V
 ti:TkI n5 tv tl V
 sh:Fj c.W P tl
 len:tl.length=c.W+3
 grp:Im c P n1 n2 n3 n4 n5 Bb Bu Bd Q QB G GB O OB V
 lo:w.heap.size<=n0
 below:Br w V
theorem aoY:∀m:Nat,m<=16->madeCells (Value.agg #[int i64 0,int i64 0]).cells (m*2)=(CJ (List.replicate m (0,0))).toArray
 |0,_=>by kernel_rfl
 |1,_=>by kernel_rfl
 |2,_=>by kernel_rfl
 |3,_=>by kernel_rfl
 |4,_=>by kernel_rfl
 |5,_=>by kernel_rfl
 |6,_=>by kernel_rfl
 |7,_=>by kernel_rfl
 |8,_=>by kernel_rfl
 |9,_=>by kernel_rfl
 |10,_=>by kernel_rfl
 |11,_=>by kernel_rfl
 |12,_=>by kernel_rfl
 |13,_=>by kernel_rfl
 |14,_=>by kernel_rfl
 |15,_=>by kernel_rfl
 |16,_=>by kernel_rfl
 |m+17,h=>absurd h om
theorem anb:∃i,ZP.info? 116=some i/\i.zero=some (.agg #[int i64 0,int i64 0])/\i.size=2/\i.bytes<=100:=by
 have h:((ZP.info? 116).map λi=>(i.zero,i.size,decide (i.bytes<=100)))=some (some (.agg #[int i64 0,int i64 0]),2,true):=by kernel_rfl
 cases e:ZP.info? 116 with
 |none=>rw[e]at h;cases h
 |some i=>
  rw[e]at h;have h:=AK h
  injection h with h1 h2
  injection h2 with h2 h3
  exact⟨i,rfl,h1,h2,Vc h3⟩
theorem alW(m:Nat)(w:World)(h1:1<=m)(h2:m<=16) :Calls ZP 99 #[int i64 (m:Int)] w λe w'=>∃Q B,e=.returned (.tuple #[pointer (some ⟨Q,0,none⟩),int i64 0])/\AY (λk=>w.heap.size<=k) Q B 0 0 false (List.replicate m (0,0)) w'/\Br w w':=by
 have a2:∀V:World,(Instr.makeSlice 69 (int i64 m) (int i64 m)).run ZP V=.ok (slice (some ⟨V.heap.size,0,none⟩) m m) (V.alloc (.cells (CJ (List.replicate m (0,0))).toArray 116)):=λV=>by
  obtain⟨H,hi,C,N,D⟩:=anb;have a6:H.bytes*m<=100*16:=GR D h2;have s:(H.bytes:Int)*(m:Int)<=281474976710656:=by rw[<-Iy];omega
  have h:=run_makeSlice (P:=ZP) (w:=V) 69 116 H (.agg #[.int .i64 0,.int .i64 0]) underlying69 hi C .i64 .i64 (m:Int) (m:Int) om om (by rw[N];omega) s om;rw[N,Aa,aoY m h2]at h;exact h
 have d0:decide ((m:Int)<1)=false:=by simp;omega
 have d1:decide ((m:Int) > 16)=false:=by simp;omega
 have a7:decide ((16:Int)<(m:Int))=false:=by simp;omega
 have d2:decide (m<1)=false:=by simp;omega
 have d3:decide (16<m)=false:=by simp;omega
 have d4:decide (m=0)=false:=by simp;omega
 have a1:=AA (Vd h1 h2);clear h1 h2;go_enter func99,ntmps99;go_wp2;go_ret2;obtain⟨h1,h2⟩:=a1.out;have U:(List.replicate m (0,0):List AF).length=m:=CS;obtain⟨X,Z⟩:∃V,V=w.alloc (.cells (CJ (List.replicate m (0,0))).toArray 116):=⟨_,rfl⟩;obtain⟨j,Y⟩:∃V,V=X.alloc (.cells #[slice (some ⟨w.heap.size,0,none⟩) m m,int i64 0,int i64 0,bool false] 205):=⟨_,rfl⟩;have y:X.heap[w.heap.size]?=some (.cells (CJ (List.replicate m (0,0))).toArray 116 (0,0)):=by rw[Z];exact AT _ _
 have v:X.heap.size=w.heap.size+1:=by rw[Z];simp
 have A:j.heap[X.heap.size]?=some (.cells #[slice (some ⟨w.heap.size,0,none⟩) m m,int i64 0,int i64 0,bool false] 205 (0,0)):=by rw[Y];exact AT _ _
 have I:Br w X:=by rw[Z];exact AL _ _
 have J:Br X j:=by rw[Y];exact AL _ _
 have o:AY (λk=>w.heap.size<=k) X.heap.size w.heap.size 0 0 false (List.replicate m (0,0)) j:=⟨by rw[U];exact A,(J.block w.heap.size om).trans y,⟨by show w.heap.size<=X.heap.size;omega,AC _⟩,by omega,by rw[U];omega⟩;have hB:=I.trans (J.mono I.size);rw[v]at o;refine⟨w.heap.size+1,w.heap.size,rfl,?_,?_⟩
 ·rw[Y,Z]at o;exact o
 ·rw[Y,Z]at hB;exact hB
theorem aoV:∀m:Nat,m<=16->madeCells (Value.agg #[int i64 0,int i64 0,int i64 0,slice none 0 0,int i64 0]).cells (m*5)=(EY (List.replicate m ⟨0,0,0,none,0,0,0⟩)).toArray
 |0,_=>by kernel_rfl
 |1,_=>by kernel_rfl
 |2,_=>by kernel_rfl
 |3,_=>by kernel_rfl
 |4,_=>by kernel_rfl
 |5,_=>by kernel_rfl
 |6,_=>by kernel_rfl
 |7,_=>by kernel_rfl
 |8,_=>by kernel_rfl
 |9,_=>by kernel_rfl
 |10,_=>by kernel_rfl
 |11,_=>by kernel_rfl
 |12,_=>by kernel_rfl
 |13,_=>by kernel_rfl
 |14,_=>by kernel_rfl
 |15,_=>by kernel_rfl
 |16,_=>by kernel_rfl
 |m+17,h=>absurd h om
theorem anS:∃i,ZP.info? 126=some i/\i.zero=some (.agg #[int i64 0,int i64 0,int i64 0,slice none 0 0,int i64 0])/\i.size=5/\i.bytes<=100:=by
 have h:((ZP.info? 126).map λi=>(i.zero,i.size,decide (i.bytes<=100)))=some (some (.agg #[int i64 0,int i64 0,int i64 0,slice none 0 0,int i64 0]),5,true):=by kernel_rfl
 cases e:ZP.info? 126 with
 |none=>rw[e]at h;cases h
 |some i=>
  rw[e]at h;have h:=AK h
  injection h with h1 h2
  injection h2 with h2 h3
  exact⟨i,rfl,h1,h2,Vc h3⟩
theorem alF(m:Nat)(w:World)(h1:1<=m)(h2:m<=16) :Calls ZP 97 #[int i64 (m:Int)] w λe w'=>∃Q B,e=.returned (.tuple #[pointer (some ⟨Q,0,none⟩),int i64 0])/\Ab (λk=>w.heap.size<=k) Q B 0 0 false (List.replicate m ⟨0,0,0,none,0,0,0⟩) w'/\Br w w':=by
 have a2:∀V:World,(Instr.makeSlice 128 (int i64 m) (int i64 m)).run ZP V=.ok (slice (some ⟨V.heap.size,0,none⟩) m m) (V.alloc (.cells (EY (List.replicate m ⟨0,0,0,none,0,0,0⟩)).toArray 126)):=λV=>by
  obtain⟨H,hi,C,N,D⟩:=anS;have a6:H.bytes*m<=100*16:=GR D h2;have s:(H.bytes:Int)*(m:Int)<=281474976710656:=by rw[<-Iy];omega
  have h:=run_makeSlice (P:=ZP) (w:=V) 128 126 H (.agg #[.int .i64 0,.int .i64 0,.int .i64 0,.slice none 0 0,.int .i64 0]) underlying128 hi C .i64 .i64 (m:Int) (m:Int) om om (by rw[N];omega) s om;rw[N,Aa,aoV m h2]at h;exact h
 have d0:decide ((m:Int)<1)=false:=by simp;omega
 have d1:decide ((m:Int) > 16)=false:=by simp;omega
 have a7:decide ((16:Int)<(m:Int))=false:=by simp;omega
 have d2:decide (m<1)=false:=by simp;omega
 have d3:decide (16<m)=false:=by simp;omega
 have d4:decide (m=0)=false:=by simp;omega
 have a1:=AA (Vd h1 h2);clear h1 h2;go_enter func97,ntmps97;go_wp2;go_ret2;obtain⟨h1,h2⟩:=a1.out;have U:(List.replicate m ⟨0,0,0,none,0,0,0⟩:List PcW).length=m:=CS;obtain⟨X,Z⟩:∃V,V=w.alloc (.cells (EY (List.replicate m ⟨0,0,0,none,0,0,0⟩)).toArray 126):=⟨_,rfl⟩;obtain⟨j,Y⟩:∃V,V=X.alloc (.cells #[slice (some ⟨w.heap.size,0,none⟩) m m,int i64 0,int i64 0,bool false] 214):=⟨_,rfl⟩;have y:X.heap[w.heap.size]?=some (.cells (EY (List.replicate m ⟨0,0,0,none,0,0,0⟩)).toArray 126 (0,0)):=by rw[Z];exact AT _ _
 have v:X.heap.size=w.heap.size+1:=by rw[Z];simp
 have A:j.heap[X.heap.size]?=some (.cells #[slice (some ⟨w.heap.size,0,none⟩) m m,int i64 0,int i64 0,bool false] 214 (0,0)):=by rw[Y];exact AT _ _
 have I:Br w X:=by rw[Z];exact AL _ _
 have J:Br X j:=by rw[Y];exact AL _ _
 have o:Ab (λk=>w.heap.size<=k) X.heap.size w.heap.size 0 0 false (List.replicate m ⟨0,0,0,none,0,0,0⟩) j:=⟨by rw[U];exact A,(J.block w.heap.size om).trans y,⟨by show w.heap.size<=X.heap.size;omega,AC _⟩,by omega,by rw[U];omega⟩;have hB:=I.trans (J.mono I.size);rw[v]at o;refine⟨w.heap.size+1,w.heap.size,rfl,?_,?_⟩
 ·rw[Y,Z]at o;exact o
 ·rw[Y,Z]at hB;exact hB
section
attribute[local go_sem] IW aa0
theorem aiL(c:CfM)(m S Kk qm:Nat)(Wm w:World)(hc:Ce c.W c.K c.R c.Q c.O c.S c.F=true)(hL:c.L<=32)(bb:∀V,Fk qm Wm V->Calls ZP 95 #[pointer (some ⟨m,0,none⟩)] V λe w'=>e=.returned (int i64 (c.L:Int))/\V=w')(hk:Fk qm Wm w) :Calls ZP 54 #[pointer (some ⟨m,0,none⟩),.agg (Ee c.W c.K c.R c.Q c.O c.S c.F),pointer (some ⟨S,0,none⟩),pointer (some ⟨Kk,0,none⟩)] w λe w'=>∃P H n1 n2 n3 n4 n5 Bb Bu Bd Q QB G GB O OB tv tl,e=.returned (.tuple #[pointer (some ⟨P,0,none⟩),int i64 0])/\GO c m S Kk w P H n1 n2 n3 n4 n5 Bb Bu Bd Q QB G GB O OB tv tl w':=by
 have HR:=NG c.W c.K c.R c.Q c.O c.S c.F;rw[hc]at HR;have bJ:=AA HR;have b3:=Gi.1 hc;have C:=AA b3;have bR:=AA bb;have HK:=AA hk;clear b3 HR bb hk hc;go_enter func54,ntmps54;go_upto_region 5 with(go_at_call 26;refine(bJ.out _).mono ?_;rintro e w1 ⟨rfl,aV⟩)
 obtain⟨H,aF⟩:∃n,n=w.heap.size:=⟨_,rfl⟩;have aT:w1.heap[H]?=some (.cells (cfV c) 26 (0,0)):=by rw[aF];exact(aV.block _ sm).trans (AT _ _)
 have aU:Br w w1:=(AL w _).trans (aV.mono sm);have b1:H<w1.heap.size:=(AD.1 aT).1;rw[<-aF];obtain⟨D,hD⟩:∃D,D=w1.drew:=⟨_,rfl⟩;have U:Br w1 D:=by rw[hD];exact AN w1 1
 have ar:Br w D:=aU.trans (U.mono aU.size);have bj:=bR.out D (HK.out.below ar);have am:D.heap[H]?=some (.cells (cfV c) 26 (0,0)):=(U.block H b1).trans aT;have aZ:IntKind.i64.wrap ((c.L:Int)-1)=(c.L:Int)-1:=by rw[BK];omega
 have bD:max (0:Int) ((c.L:Int)-1)=(c.wm:Int):=by unfold CfM.wm;omega
 have aL:=AA ar;have aO:=AA bj;have hP:(∀o:Obj,(D.alloc o).heap[H]?=some (.cells (cfV c) 26 (0,0))):=λo=>((AL D o).block H (AD.1 am).1).trans am;have HP:=AA hP;have bQ:=AA aF;clear aU U ar bj aV hP aF;refine Vh ?_;refine Vg (S:=λY=>Y.heap[H]?=some (.cells (cfV c) 26 (0,0))) kr (by rw[<-hD];exact am) (λhHeld=>?_);rw[<-hD]at hHeld⊢;clear hD aT;refine tkA 0 ?_;refine tkW 1 (v:=?_) ?_ ?_;rotate_left
 ·intro V hV;have q0:V.cell? ⟨H,0,none⟩=some (int i64 (c.W:Int)):=by simp only[cell?,hV];rfl
  have B:V.cell? ⟨H,1,none⟩=some (int i64 (c.K:Int)):=by simp only[cell?,hV];rfl
  have q2:V.cell? ⟨H,2,none⟩=some (int i64 (c.R:Int)):=by simp only[cell?,hV];rfl
  have q3:V.cell? ⟨H,3,none⟩=some (int i64 (c.Q:Int)):=by simp only[cell?,hV];rfl
  have q4:V.cell? ⟨H,4,none⟩=some (int i64 (c.O:Int)):=by simp only[cell?,hV];rfl
  have q5:V.cell? ⟨H,5,none⟩=some (int i64 (c.S:Int)):=by simp only[cell?,hV];rfl
  have q6:V.cell? ⟨H,6,none⟩=some (int i64 (c.F:Int)):=by simp only[cell?,hV];rfl
  first|(go_simp;done)|(go_simp;with_reducible rfl)
 try simp only[pq]
 refine tkA 2 ?_;refine tkA 6 ?_;refine tkA 7 ?_;refine rdy 3 (λK Z=>?_);go_simp
 go_at_call 95;refine(aO.out).mono ?_;rintro e w5 ⟨rfl,rfl⟩
 refine Z.out _ _ (am) (λh3=>?_);clear Z K
 try simp only[pq]
 refine tkA 4 ?_;refine rdy 5 (λK Z=>?_);go_simp;refine Z.out _ _ hHeld (λh5=>?_);clear Z K
 try simp only[pq]
 refine tkA 8 ?_;refine rdy 9 (λK Z=>?_);go_simp;refine Z.out _ _ (HP.out _) (λh9=>?_);clear Z K
 try simp only[pq]
 refine tkA 10 ?_;refine Vj kr ?_ _;refine At ?_;obtain⟨P,aA⟩:∃P,P=D.heap.size:=⟨_,rfl⟩;obtain⟨W5,az⟩:∃V,V=D.alloc (.cells (npV c m S Kk (pointer none) (pointer none) (pointer none) (pointer none) (slice none 0 0)) 109):=⟨_,rfl⟩;have b9:NpS c m S Kk H P (pointer none) (pointer none) (pointer none) (pointer none) (slice none 0 0) W5:=⟨by rw[az,aA];exact AT _ _,by rw[az];exact HP.out _,by rw[aA];exact(AD.1 am).1⟩;have bd:Br w W5:=by rw[az];exact aL.out.trans ((AL D _).mono aL.out.size)
 have b7:w.heap.size<=P:=by rw[aA];exact aL.out.size
 have af:=az;unfold npV at af;rw[<-af,<-aA];have bP:=AA b9;have bx:=AA bd;have bf:=AA b7;clear az aA af b9 bd h9 h5 h3 hHeld am HP aO aL b1 bD aZ b7;obtain⟨D6,hD⟩:∃D6,D6=W5.drew:=⟨_,rfl⟩;have U:Br W5 D6:=by rw[hD];exact AN W5 1
 have b8:=bP.out.keep U;have ar:=bx.out.trans (U.mono bx.out.size);have bT:c.wm<=31:=by unfold CfM.wm;omega
 obtain⟨sz,aS⟩:∃sz,sz=c.K+c.wm:=⟨_,rfl⟩;have bW:IntKind.i64.wrap ((c.K:Int)+(c.wm:Int))=(sz:Int):=by have:=C.out;rw[BK,aS];omega
 have bp:=AA (alQ c.R sz D6 (by have:=C.out;omega) (by have:=C.out;omega) (by have:=C.out;omega) (by have:=C.out;omega));have ak:=AA b8;have aP:=AA ar;have bI:=AA aS;clear U b8 ar aS;go_upto_region 6 with fail
 refine Vh ?_;refine Vg (S:=λY=>Y.heap[H]?=some (.cells (cfV c) 26 (0,0))/\Y.cell? ⟨P,8,none⟩=some (int i64 (c.wm:Int))) kr (by rw[<-hD];exact⟨ak.out.conf,ak.out.ce 8 _ rfl⟩) (λhHeld=>?_);rw[<-hD]at hHeld⊢;clear hD;refine tkA 0 ?_;refine tkA 1 ?_;refine tkW 2 (v:=?_) ?_ ?_;rotate_left
 ·intro V hV;have q2:V.cell? ⟨H,2,none⟩=some (int i64 (c.R:Int)):=by simp only[cell?,hV.1];rfl
  first|(go_simp;done)|(go_simp;with_reducible rfl)
 try simp only[pq]
 refine tkA 3 ?_;refine tkW 4 (v:=?_) ?_ ?_;rotate_left
 ·intro V hV;have B:V.cell? ⟨H,1,none⟩=some (int i64 (c.K:Int)):=by simp only[cell?,hV.1];rfl
  first|(go_simp;done)|(go_simp;with_reducible rfl)
 try simp only[pq]
 refine tkA 5 ?_;refine tkA 6 ?_;refine tkA 7 ?_;refine tkW 8 (v:=?_) ?_ ?_;rotate_left
 ·intro V hV;have q8:=hV.2
  first|(go_simp;done)|(go_simp;with_reducible rfl)
 try simp only[pq]
 refine tkA 9 ?_;refine rdy 10 (λK Z=>?_);go_simp
 go_at_call 96;refine bp.out.mono ?_;rintro e w6 ⟨Bb,Bu,Bd,rfl,aM,hb⟩
 have ap:=ak.out.keep hb;refine Z.out _ _ ⟨ap.conf,ap.ce 8 _ rfl⟩ (λh10=>?_);clear Z K
 try simp only[pq]
 have j1:=ap.fr 11;have j2:=ap.ce 11 _ rfl;have bO:=AA ap;have bw:=AA (aP.out.trans (hb.mono aP.out.size));have bS:=AA hb.size;have bq:=AA aM;clear ap hb aM bp;refine tkA 11 ?_;refine tkA 12 ?_;refine tkA 13 ?_;refine tkA 14 ?_;refine tkA 15 ?_;refine rdy 16 (λK Z=>?_);go_simp;have aH:=bO.out.set (b':=pointer (some ⟨Bb,0,none⟩)) 11 (pointer (some ⟨Bb,0,none⟩)) rfl;refine Z.out _ _ ⟨aH.conf,aH.ce 8 _ rfl⟩ (λbH=>?_);clear Z K
 try simp only[pq]
 have aD:=AA ((Chg.refl (λk=>k=P) w6).set (g:=P) (i:=11) (v:=pointer (some ⟨Bb,0,none⟩)) rfl);have aK:=AA aH;clear aH bH h10 j1 j2;refine Vj kr ?_ _;refine At ?_;obtain⟨W6,b6⟩:∃V,V=w6.setCell ⟨P,11,none⟩ (pointer (some ⟨Bb,0,none⟩)):=⟨_,rfl⟩;rw[<-b6]at aD aK⊢;clear b6;have bo:=AA (alF c.Q W6 (by have:=C.out;omega) (by have:=C.out;omega));have k7:=aK.out.cc 3 (int i64 (c.Q:Int)) rfl;go_upto_region 8 with(go_at_call 97;refine bo.out.mono ?_;rintro e w7 ⟨Q,QB,rfl,ac,hb⟩;have hN:=aK.out.keep hb;have j1:=hN.fr 12;have j2:=hN.ce 12 _ rfl;have bi:=AA hN;have bv:=AA hb;have bN:=AA ac;clear hN hb ac)
 have aJ:=AA (bi.out.set (q':=pointer (some ⟨Q,0,none⟩)) 12 (pointer (some ⟨Q,0,none⟩)) rfl);have aY:=AA ((Chg.refl (λk=>k=P) w7).set (g:=P) (i:=12) (v:=pointer (some ⟨Q,0,none⟩)) rfl);obtain⟨W7,b5⟩:∃V,V=w7.setCell ⟨P,12,none⟩ (pointer (some ⟨Q,0,none⟩)):=⟨_,rfl⟩;rw[<-b5]at aY aJ⊢;clear b5 j1 j2 k7 bo bi aK;have bm:=AA (akT c.R W7 (by have:=C.out;omega) (by have:=C.out;omega));have k8:=aJ.out.cc 2 (int i64 (c.R:Int)) rfl;go_upto_region 9 with(go_at_call 98;refine bm.out.mono ?_;rintro e w8 ⟨G,GB,rfl,ac,hb⟩;have hN:=aJ.out.keep hb;have j1:=hN.fr 13;have j2:=hN.ce 13 _ rfl;have bh:=AA hN;have bu:=AA hb;have bL:=AA ac;clear hN hb ac)
 have aI:=AA (bh.out.set (g':=pointer (some ⟨G,0,none⟩)) 13 (pointer (some ⟨G,0,none⟩)) rfl);have aX:=AA ((Chg.refl (λk=>k=P) w8).set (g:=P) (i:=13) (v:=pointer (some ⟨G,0,none⟩)) rfl);obtain⟨W8,ao⟩:∃V,V=w8.setCell ⟨P,13,none⟩ (pointer (some ⟨G,0,none⟩)):=⟨_,rfl⟩;rw[<-ao]at aX aI⊢;clear ao j1 j2 k8 bm bh aJ;have bl:=AA (alW c.O W8 (by have:=C.out;omega) (by have:=C.out;omega));have k9:=aI.out.cc 4 (int i64 (c.O:Int)) rfl;go_upto_region 10 with(go_at_call 99;refine bl.out.mono ?_;rintro e w9 ⟨O,OB,rfl,ac,hb⟩;have hN:=aI.out.keep hb;have j1:=hN.fr 14;have j2:=hN.ce 14 _ rfl;have bg:=AA hN;have bt:=AA hb;have bK:=AA ac;clear hN hb ac)
 have aC:=AA (bg.out.set (o':=pointer (some ⟨O,0,none⟩)) 14 (pointer (some ⟨O,0,none⟩)) rfl);have aW:=AA ((Chg.refl (λk=>k=P) w9).set (g:=P) (i:=14) (v:=pointer (some ⟨O,0,none⟩)) rfl);obtain⟨W9,b4⟩:∃V,V=w9.setCell ⟨P,14,none⟩ (pointer (some ⟨O,0,none⟩)):=⟨_,rfl⟩;rw[<-b4]at aW aC⊢;clear b4 j1 j2 k9 bl bg aI;obtain⟨n5,ay⟩:∃n,n=W9.heap.size:=⟨_,rfl⟩;obtain⟨D,hD⟩:∃D,D=W9.drew:=⟨_,rfl⟩;have U:Br W9 D:=by rw[hD];exact AN W9 1
 have pD:=aC.out.keep U;have zD:=pD.ce 15 _ rfl;have a6:=AA (TkI.nil n5 D);have J:=AA (Vd (show P<n5 by rw[ay];exact aC.out.plt) (show n5<=D.heap.size by rw[ay];exact U.size));have a2:Hid (([]:List Tk).length<=1000):=by show 0<=1000;omega
 have a7:Hid (Fj c.W P []):=λj t ht=>by simp at ht
 have aE:Hid (Mn P D.heap.size=CY c.W P ([]:List Tk).length (Mn P D.heap.size).a):=rfl;have aa:Hid (Chg (λk=>k=P∨n5<=k) W9 D):=Chg.of_same U;have ai:=AA (aiF P D);have aN:=AA ay;have aQ:=AA (bw.out.trans (((((((aD.out.then (Chg.of_same bv.out)).then aY.out).then (Chg.of_same bu.out)).then aX.out).then (Chg.of_same bt.out)).then aW.out).below bw.out.size λk hk hx=>by have:=bf.out;omega));have bk:Hid (Im c P D6.heap.size W6.heap.size W7.heap.size W8.heap.size n5 Bb Bu Bd Q QB G GB O OB W9):=by rw[ay];exact Im.mk2 (by rw[<-bI.out];exact bq.out) ak.out.plt bS.out aD.out bv.out bN.out aY.out bu.out bL.out aX.out bt.out bK.out aW.out
 clear U ay;go_upto_region 10 with fail
 refine Vh ?_;refine Vg (S:=λY=>True) kr trivial (λhHeld=>?_);rw[<-hD];clear hD;refine tkA 0 ?_;refine tkA 1 ?_;refine tkA 2 ?_;refine tkA 3 ?_;refine tkA 5 ?_;refine apE 4 6 (λK Z=>?_) (λK Z=>?_)
 focus
  go_simp;refine Z.out _ _ trivial (λh4=>?_);clear Z K h4
  try simp only[pq]
  refine rdy 6 (λK Z=>?_);go_simp
  go_at_call 100;refine ai.out.mono ?_;rintro e aR X
  obtain rfl:=X.1;have A:=X.2.2.2.2;have pV:=pD.keep A;have zV:=(pV.ce 15 _ rfl);have zA:=pV.plt;have ab:=AA X;clear X A pV;refine Z.out _ _ trivial (λh6=>?_);clear Z K h6
  try simp only[pq]
  refine tkA 7 ?_;refine rdy 8 (λK Z=>?_);go_simp;refine Z.out _ _ trivial (λh8=>?_);clear Z K h8
  try simp only[pq]
 rotate_left
 focus
  go_simp
  go_at_call 100;refine ai.out.mono ?_;rintro e aR X
  obtain rfl:=X.1;have A:=X.2.2.2.2;have pV:=pD.keep A;have zV:=(pV.ce 15 _ rfl);have zA:=pV.plt;have ab:=AA X;clear X A pV;refine Z.out _ _ trivial (λh6=>?_);clear Z K h6
  try simp only[pq]
  refine tkA 7 ?_;refine apE 4 8 (λK Z=>?_) (λK Z=>?_)
  focus
   go_simp;refine Z.out _ _ trivial (λh4=>?_);clear Z K h4
   try simp only[pq]
   refine rdy 8 (λK Z=>?_);go_simp;refine Z.out _ _ trivial (λh8=>?_);clear Z K h8
   try simp only[pq]
  rotate_left
  focus
   go_simp;refine Z.out _ _ trivial (λh8=>?_);clear Z K h8
   try simp only[pq]
   refine rdy 4 (λK Z=>?_);go_simp;refine Z.out _ _ trivial (λh4=>?_);clear Z K h4
   try simp only[pq]
 all_goals
  clear zV zA;have a8:=AA pD;clear pD zD;obtain⟨a1,nn,c1,W1,hr,B,q2,q3,q4,q5⟩:=a6.out.one (W:=c.W) (t:=Mn P D.heap.size) a8.out J.out.1 J.out.2 a2.out ab.out.2.2.2.2 (ab.out.tkm rfl rfl rfl rfl) a7.out aE.out;have HR:=AA hr;have j1:=B.fr 15;have j2:=B.ce 15 _ rfl;have Q2:=AA q2;have Q3:=AA q3;have Q4:=AA q4;have Q5:=AA (aa.out.trans q5 λk _ hk=>hk);clear hr B q2 q3 q4 q5;refine rdy 9 (λK Z=>?_);refine GU (.tmp 73) (.tmp 77) 103 rfl _ _ rfl rfl rfl HR.out ?_;refine Z.out _ _ trivial (λh9=>?_);clear Z K h9
  try simp only[pq]
  refine tkA 10 ?_;refine tkA 11 ?_;refine rdy 12 (λK Z=>?_);go_simp;refine Z.out _ _ trivial (λy=>?_);clear Z K y
  try simp only[pq]
  clear j1 j2;obtain⟨WN,I⟩:∃V,V=W1.setCell ⟨P,15,none⟩ (slice a1 nn c1):=⟨_,rfl⟩;rw[<-I]at Q2 Q3 Q5⊢;clear I HR ab;refine Vj kr ?_ _;refine At ?_;have aB:Hid (∃tv tl,tl.length=0+1/\TkI n5 tv tl WN/\NpS c m S Kk H P (pointer (some ⟨Bb,0,none⟩)) (pointer (some ⟨Q,0,none⟩)) (pointer (some ⟨G,0,none⟩)) (pointer (some ⟨O,0,none⟩)) tv WN/\Fj c.W P tl):=⟨_,_,rfl,Q3.out,Q2.out,Q4.out⟩;clear Q2 Q3 Q4 a6 a2 a7 aE aa ai a8
 all_goals
  obtain⟨bU,bV,bF,bB,b2,bC⟩:=aB.out;have bA:=b2.cc 0 (int i64 (c.W:Int)) rfl;clear bB b2 bC bF;go_upto_region 12 with fail
  clear bA
  go_loopw[83] (λbz wr=>∃(i:Nat),i<=c.W/\bz=int i64 i/\Hid (∃tv tl,tl.length=i+1/\TkI n5 tv tl wr/\NpS c m S Kk H P (pointer (some ⟨Bb,0,none⟩)) (pointer (some ⟨Q,0,none⟩)) (pointer (some ⟨G,0,none⟩)) (pointer (some ⟨O,0,none⟩)) tv wr/\Fj c.W P tl)/\Hid (Chg (λk=>k=P∨n5<=k) W9 wr)) (λs _=>c.W-(intOf s).toNat)
  case atStart=>exact⟨0,AR _,rfl,aB,Q5⟩
  case round=>
   clear aB Q5;obtain⟨i,bY,rfl,aG,aq⟩:=hrel
   by_cases bG:i<c.W
   ·have hd:decide ((i:Int)<(c.W:Int))=true:=by simp;omega
    obtain⟨tv,tl,hl,av,ax,aw⟩:=aG.out;obtain⟨D,hD⟩:∃D,D=wr.drew:=⟨_,rfl⟩;have U:Br wr D:=by rw[hD];exact AN wr 1
    have ao:=C.out.1.2;have pD:=ax.keep U;have zD:=pD.ce 15 _ rfl;have a6:=AA (av.keep U);have ae:=AA (Vd J.out.1 (show n5<=D.heap.size by have:=aq.out.size;have:=U.size;have:=aN.out;omega));have a2:Hid (tl.length<=1000):=by show tl.length<=1000;omega
    have N:=AA hl;have a7:=AA aw;have aE:Hid (Mm P D.heap.size=CY c.W P tl.length (Mm P D.heap.size).a):=by
     show _=_;unfold CY;rw[Va om,Vb om]
     rfl
    have aa:=AA (aq.out.then (Chg.of_same U));have ai:=AA (als P D);have i1:(0:Int)<=(i:Int):=by omega
    have i2:(i:Int)<(c.W:Int):=by omega
    have bX:IntKind.i64.wrap ((i:Int)+1)=((i+1:Nat):Int):=by rw[BK];omega
    have b0:wrap64 ((i:Int)+1)=((i+1:Nat):Int):=aoQ (n:=c.W) om bG;clear U av ax aw hl aq aG J ao;have J:=ae;clear ae;go_upto_region 13 with fail
    refine Vh ?_;refine Vg (S:=λY=>True) kr trivial (λhHeld=>?_);rw[<-hD];clear hD;refine tkA 0 ?_;refine tkA 1 ?_;refine tkA 2 ?_;refine tkA 3 ?_;refine tkA 5 ?_;refine apE 4 6 (λK Z=>?_) (λK Z=>?_)
    focus
     go_simp;refine Z.out _ _ trivial (λh4=>?_);clear Z K h4
     try simp only[pq]
     refine rdy 6 (λK Z=>?_);go_simp
     go_at_call 101;refine ai.out.mono ?_;rintro e aR X
     obtain rfl:=X.1;have A:=X.2.2.2.2;have pV:=pD.keep A;have zV:=(pV.ce 15 _ rfl);have zA:=pV.plt;have ab:=AA X;clear X A pV;refine Z.out _ _ trivial (λh6=>?_);clear Z K h6
     try simp only[pq]
     refine tkA 7 ?_;refine rdy 8 (λK Z=>?_);go_simp;refine Z.out _ _ trivial (λh8=>?_);clear Z K h8
     try simp only[pq]
    rotate_left
    focus
     go_simp
     go_at_call 101;refine ai.out.mono ?_;rintro e aR X
     obtain rfl:=X.1;have A:=X.2.2.2.2;have pV:=pD.keep A;have zV:=(pV.ce 15 _ rfl);have zA:=pV.plt;have ab:=AA X;clear X A pV;refine Z.out _ _ trivial (λh6=>?_);clear Z K h6
     try simp only[pq]
     refine tkA 7 ?_;refine apE 4 8 (λK Z=>?_) (λK Z=>?_)
     focus
      go_simp;refine Z.out _ _ trivial (λh4=>?_);clear Z K h4
      try simp only[pq]
      refine rdy 8 (λK Z=>?_);go_simp;refine Z.out _ _ trivial (λh8=>?_);clear Z K h8
      try simp only[pq]
     rotate_left
     focus
      go_simp;refine Z.out _ _ trivial (λh8=>?_);clear Z K h8
      try simp only[pq]
      refine rdy 4 (λK Z=>?_);go_simp;refine Z.out _ _ trivial (λh4=>?_);clear Z K h4
      try simp only[pq]
    all_goals
     clear zV zA;have a8:=AA pD;clear pD zD;obtain⟨a1,nn,c1,W1,hr,B,q2,q3,q4,q5⟩:=a6.out.one (W:=c.W) (t:=Mm P D.heap.size) a8.out J.out.1 J.out.2 a2.out ab.out.2.2.2.2 (ab.out.tkm rfl rfl rfl rfl) a7.out aE.out;have HR:=AA hr;have j1:=B.fr 15;have j2:=B.ce 15 _ rfl;have Q2:=AA q2;have Q3:=AA q3;have Q4:=AA q4;have Q5:=AA (aa.out.trans q5 λk _ hk=>hk);clear hr B q2 q3 q4 q5;refine rdy 9 (λK Z=>?_);refine GU (.tmp 89) (.tmp 93) 103 rfl _ _ rfl rfl rfl HR.out ?_;refine Z.out _ _ trivial (λh9=>?_);clear Z K h9
     try simp only[pq]
     refine tkA 10 ?_;refine tkA 11 ?_;refine rdy 12 (λK Z=>?_);go_simp;refine Z.out _ _ trivial (λy=>?_);clear Z K y
     try simp only[pq]
     clear j1 j2;obtain⟨WN,I⟩:∃V,V=W1.setCell ⟨P,15,none⟩ (slice a1 nn c1):=⟨_,rfl⟩;rw[<-I]at Q2 Q3 Q5⊢;clear I HR ab;refine Vj kr ?_ _;refine At ?_;have be:Hid (∃tv tl,tl.length=(i+1)+1/\TkI n5 tv tl WN/\NpS c m S Kk H P (pointer (some ⟨Bb,0,none⟩)) (pointer (some ⟨Q,0,none⟩)) (pointer (some ⟨G,0,none⟩)) (pointer (some ⟨O,0,none⟩)) tv WN/\Fj c.W P tl):=⟨_,_,by rw[List.length_append,N.out];rfl,Q3.out,Q2.out,Q4.out⟩;clear Q2 Q3 Q4 a6 a2 a7 aE aa ai a8 N;go_wp2
     go_roundw
     case rel=>exact⟨i+1,by omega,by first|rfl|simp[b0],be,Q5⟩
     case measure=>(try simp only[b0]);simp[intOf];omega
   ·obtain rfl:i=c.W:=by omega
    have hd:decide ((c.W:Int)<(c.W:Int))=false:=by simp
    go_upto_region 15 with fail
    obtain⟨tv,tl,hl,av,ax,aw⟩:=aG.out;obtain⟨D,hD⟩:∃D,D=wr.drew:=⟨_,rfl⟩;have U:Br wr D:=by rw[hD];exact AN wr 1
    have ao:=C.out.1.2;have pD:=ax.keep U;have zD:=pD.ce 15 _ rfl;have a8:=AA pD;have a6:=AA (av.keep U);have ae:=AA (Vd J.out.1 (show n5<=D.heap.size by have:=aq.out.size;have:=U.size;have:=aN.out;omega));have a2:Hid (tl.length<=1000):=by show tl.length<=1000;omega
    have N:=AA hl;have a7:=AA aw;have aa:=AA (aq.out.then (Chg.of_same U));have au:=AA (alo P);have aj:=AA (alb P);have al:Hid (∀tv tl V,NpS c m S Kk H P (pointer (some ⟨Bb,0,none⟩)) (pointer (some ⟨Q,0,none⟩)) (pointer (some ⟨G,0,none⟩)) (pointer (some ⟨O,0,none⟩)) tv V->TkI n5 tv tl V->Fj c.W P tl->tl.length=c.W+3->Chg (λk=>k=P∨n5<=k) W9 V->∃P' H n1 n2 n3 n4 n5 Bb Bu Bd Q QB G GB O OB tv tl,Ending.returned (.tuple #[pointer (some ⟨P,0,none⟩),int i64 0])=Ending.returned (.tuple #[pointer (some ⟨P',0,none⟩),int i64 0])/\GO c m S Kk w P' H n1 n2 n3 n4 n5 Bb Bu Bd Q QB G GB O OB tv tl V):=λtv tl V r1 r2 r3 r4 r5=>⟨P,H,_,_,_,_,n5,Bb,Bu,Bd,Q,QB,G,GB,O,OB,tv,tl,rfl,r1,r2,r3,r4,bk.out.keep r5,by rw[bQ.out];exact AC _,aQ.out.trans (r5.below aQ.out.size λk hk hx=>by have:=bf.out;have:=J.out.1;omega)⟩;clear U av ax aw hl aq aG J ao;have J:=ae;clear ae;go_upto_region 15 with fail
    refine Vh ?_;refine Vg (S:=λY=>True) kr trivial (λhHeld=>?_);rw[<-hD];clear hD;refine tkA 0 ?_;refine tkA 1 ?_;refine tkA 2 ?_;refine tkA 3 ?_;refine tkA 5 ?_;refine tkA 8 ?_;refine apE 4 6 (λK Z=>?_) (λK Z=>?_)
    ·go_simp;refine Z.out _ _ trivial (λh4=>?_);clear Z K h4
     try simp only[pq]
     refine rdy 6 (λK Z=>?_);go_simp
     go_at_call 102;refine(au.out _).mono ?_;rintro e wa X
     obtain rfl:=X.1;have bM:=X.2.2.2.2;have kM:=AA (X.tkm (t:=JD P D.heap.size) rfl rfl rfl rfl);have sM:=AA X.2.2.2.1;clear X;have za:=((pD.keep bM).ce 15 _ rfl);have pa:=pD.keep bM;have la:=pa.plt;refine Z.out _ _ trivial (λh6=>?_);clear Z K h6
     try simp only[pq]
     refine tkA 7 ?_;refine rdy 9 (λK Z=>?_);go_simp
     go_at_call 103;refine(aj.out _).mono ?_;rintro e wb X
     obtain rfl:=X.1;have bE:=X.2.2.2.2;have kE:=AA (X.tkm (t:=IQ P wa.heap.size) rfl rfl rfl rfl);have sE:=AA X.2.2.2.1;clear X;have zb:=((pa.keep bE).ce 15 _ rfl);have pb:=pa.keep bE;have lb:=pb.plt;refine Z.out _ _ trivial (λh9=>?_);clear Z K h9
     try simp only[pq]
     refine tkA 10 ?_;refine rdy 11 (λK Z=>?_);go_simp;refine Z.out _ _ trivial (λh11=>?_);clear Z K h11
     try simp only[pq]
     obtain⟨a1,nn,c1,W1,hr,B,q2,q3,q4,q5⟩:=a6.out.two (W:=c.W) (t:=JD P D.heap.size) (u:=IQ P wa.heap.size) a8.out J.out.1 J.out.2 a2.out (bM.trans (bE.mono bM.size)) (⟨kM.out.1.below bE,kM.out.2⟩) (⟨kE.out.1,by have:=kE.out.2;have:=bM.size;omega⟩) (.inl (by have:=sM.out;show D.heap.size+2<=wa.heap.size;omega)) a7.out (by rw[N.out];unfold CY;rw[Va om,Va om,Vb rfl];rfl) (by rw[N.out];unfold CY;rw[Va om,Va om,Va om];rfl);have HR:=AA hr;have j1:=B.fr 15;have j2:=B.ce 15 _ rfl;have Q2:=AA q2;have Q3:=AA q3;have Q4:=AA q4;have Q5:=AA (aa.out.trans q5 λk _ hk=>hk);clear hr B q2 q3 q4 q5 kM kE bM bE sM sE pD zD au aj;refine rdy 12 (λK Z=>?_);refine GU (.tmp 102) (.tmp 109) 103 rfl _ _ rfl rfl rfl HR.out ?_;refine Z.out _ _ trivial (λy=>?_);clear Z K y
     try simp only[pq]
     refine tkA 13 ?_;refine tkA 14 ?_;refine rdy 15 (λK Z=>?_);go_simp;refine Z.out _ _ trivial (λag=>?_);clear Z K ag
     try simp only[pq]
     clear j1 j2;obtain⟨WN,I⟩:∃V,V=W1.setCell ⟨P,15,none⟩ (slice a1 nn c1):=⟨_,rfl⟩;rw[<-I]at Q2 Q3 Q5⊢;clear I HR;refine Vj kr ?_ _;refine At ?_;go_wp2;go_ret2;exact al.out _ _ _ Q2.out Q3.out Q4.out (by simp[N.out]) Q5.out
    ·go_simp
     go_at_call 102;refine(au.out _).mono ?_;rintro e wa X
     obtain rfl:=X.1;have bM:=X.2.2.2.2;have kM:=AA (X.tkm (t:=JD P D.heap.size) rfl rfl rfl rfl);have sM:=AA X.2.2.2.1;clear X;have za:=((pD.keep bM).ce 15 _ rfl);have pa:=pD.keep bM;have la:=pa.plt;refine Z.out _ _ trivial (λh6=>?_);clear Z K h6
     try simp only[pq]
     refine tkA 7 ?_;refine apE 4 9 (λK Z=>?_) (λK Z=>?_)
     ·go_simp;refine Z.out _ _ trivial (λh4=>?_);clear Z K h4
      try simp only[pq]
      refine rdy 9 (λK Z=>?_);go_simp
      go_at_call 103;refine(aj.out _).mono ?_;rintro e wb X
      obtain rfl:=X.1;have bE:=X.2.2.2.2;have kE:=AA (X.tkm (t:=IQ P wa.heap.size) rfl rfl rfl rfl);have sE:=AA X.2.2.2.1;clear X;have zb:=((pa.keep bE).ce 15 _ rfl);have pb:=pa.keep bE;have lb:=pb.plt;refine Z.out _ _ trivial (λh9=>?_);clear Z K h9
      try simp only[pq]
      refine tkA 10 ?_;refine rdy 11 (λK Z=>?_);go_simp;refine Z.out _ _ trivial (λh11=>?_);clear Z K h11
      try simp only[pq]
      obtain⟨a1,nn,c1,W1,hr,B,q2,q3,q4,q5⟩:=a6.out.two (W:=c.W) (t:=JD P D.heap.size) (u:=IQ P wa.heap.size) a8.out J.out.1 J.out.2 a2.out (bM.trans (bE.mono bM.size)) (⟨kM.out.1.below bE,kM.out.2⟩) (⟨kE.out.1,by have:=kE.out.2;have:=bM.size;omega⟩) (.inl (by have:=sM.out;show D.heap.size+2<=wa.heap.size;omega)) a7.out (by rw[N.out];unfold CY;rw[Va om,Va om,Vb rfl];rfl) (by rw[N.out];unfold CY;rw[Va om,Va om,Va om];rfl);have HR:=AA hr;have j1:=B.fr 15;have j2:=B.ce 15 _ rfl;have Q2:=AA q2;have Q3:=AA q3;have Q4:=AA q4;have Q5:=AA (aa.out.trans q5 λk _ hk=>hk);clear hr B q2 q3 q4 q5 kM kE bM bE sM sE pD zD au aj;refine rdy 12 (λK Z=>?_);refine GU (.tmp 102) (.tmp 109) 103 rfl _ _ rfl rfl rfl HR.out ?_;refine Z.out _ _ trivial (λy=>?_);clear Z K y
      try simp only[pq]
      refine tkA 13 ?_;refine tkA 14 ?_;refine rdy 15 (λK Z=>?_);go_simp;refine Z.out _ _ trivial (λag=>?_);clear Z K ag
      try simp only[pq]
      clear j1 j2;obtain⟨WN,I⟩:∃V,V=W1.setCell ⟨P,15,none⟩ (slice a1 nn c1):=⟨_,rfl⟩;rw[<-I]at Q2 Q3 Q5⊢;clear I HR;refine Vj kr ?_ _;refine At ?_;go_wp2;go_ret2;exact al.out _ _ _ Q2.out Q3.out Q4.out (by simp[N.out]) Q5.out
     ·go_simp
      go_at_call 103;refine(aj.out _).mono ?_;rintro e wb X
      obtain rfl:=X.1;have bE:=X.2.2.2.2;have kE:=AA (X.tkm (t:=IQ P wa.heap.size) rfl rfl rfl rfl);have sE:=AA X.2.2.2.1;clear X;have zb:=((pa.keep bE).ce 15 _ rfl);have pb:=pa.keep bE;have lb:=pb.plt;refine Z.out _ _ trivial (λh9=>?_);clear Z K h9
      try simp only[pq]
      refine tkA 10 ?_;refine apE 4 11 (λK Z=>?_) (λK Z=>?_)
      ·go_simp;refine Z.out _ _ trivial (λh4=>?_);clear Z K h4
       try simp only[pq]
       refine rdy 11 (λK Z=>?_);go_simp;refine Z.out _ _ trivial (λh11=>?_);clear Z K h11
       try simp only[pq]
       obtain⟨a1,nn,c1,W1,hr,B,q2,q3,q4,q5⟩:=a6.out.two (W:=c.W) (t:=JD P D.heap.size) (u:=IQ P wa.heap.size) a8.out J.out.1 J.out.2 a2.out (bM.trans (bE.mono bM.size)) (⟨kM.out.1.below bE,kM.out.2⟩) (⟨kE.out.1,by have:=kE.out.2;have:=bM.size;omega⟩) (.inl (by have:=sM.out;show D.heap.size+2<=wa.heap.size;omega)) a7.out (by rw[N.out];unfold CY;rw[Va om,Va om,Vb rfl];rfl) (by rw[N.out];unfold CY;rw[Va om,Va om,Va om];rfl);have HR:=AA hr;have j1:=B.fr 15;have j2:=B.ce 15 _ rfl;have Q2:=AA q2;have Q3:=AA q3;have Q4:=AA q4;have Q5:=AA (aa.out.trans q5 λk _ hk=>hk);clear hr B q2 q3 q4 q5 kM kE bM bE sM sE pD zD au aj;refine rdy 12 (λK Z=>?_);refine GU (.tmp 102) (.tmp 109) 103 rfl _ _ rfl rfl rfl HR.out ?_;refine Z.out _ _ trivial (λy=>?_);clear Z K y
       try simp only[pq]
       refine tkA 13 ?_;refine tkA 14 ?_;refine rdy 15 (λK Z=>?_);go_simp;refine Z.out _ _ trivial (λag=>?_);clear Z K ag
       try simp only[pq]
       clear j1 j2;obtain⟨WN,I⟩:∃V,V=W1.setCell ⟨P,15,none⟩ (slice a1 nn c1):=⟨_,rfl⟩;rw[<-I]at Q2 Q3 Q5⊢;clear I HR;refine Vj kr ?_ _;refine At ?_;go_wp2;go_ret2;exact al.out _ _ _ Q2.out Q3.out Q4.out (by simp[N.out]) Q5.out
      ·go_simp;refine Z.out _ _ trivial (λh11=>?_);clear Z K h11
       try simp only[pq]
       refine rdy 4 (λK Z=>?_);go_simp;refine Z.out _ _ trivial (λh4=>?_);clear Z K h4
       try simp only[pq]
       obtain⟨a1,nn,c1,W1,hr,B,q2,q3,q4,q5⟩:=a6.out.two (W:=c.W) (t:=JD P D.heap.size) (u:=IQ P wa.heap.size) a8.out J.out.1 J.out.2 a2.out (bM.trans (bE.mono bM.size)) (⟨kM.out.1.below bE,kM.out.2⟩) (⟨kE.out.1,by have:=kE.out.2;have:=bM.size;omega⟩) (.inl (by have:=sM.out;show D.heap.size+2<=wa.heap.size;omega)) a7.out (by rw[N.out];unfold CY;rw[Va om,Va om,Vb rfl];rfl) (by rw[N.out];unfold CY;rw[Va om,Va om,Va om];rfl);have HR:=AA hr;have j1:=B.fr 15;have j2:=B.ce 15 _ rfl;have Q2:=AA q2;have Q3:=AA q3;have Q4:=AA q4;have Q5:=AA (aa.out.trans q5 λk _ hk=>hk);clear hr B q2 q3 q4 q5 kM kE bM bE sM sE pD zD au aj;refine rdy 12 (λK Z=>?_);refine GU (.tmp 102) (.tmp 109) 103 rfl _ _ rfl rfl rfl HR.out ?_;refine Z.out _ _ trivial (λy=>?_);clear Z K y
       try simp only[pq]
       refine tkA 13 ?_;refine tkA 14 ?_;refine rdy 15 (λK Z=>?_);go_simp;refine Z.out _ _ trivial (λag=>?_);clear Z K ag
       try simp only[pq]
       clear j1 j2;obtain⟨WN,I⟩:∃V,V=W1.setCell ⟨P,15,none⟩ (slice a1 nn c1):=⟨_,rfl⟩;rw[<-I]at Q2 Q3 Q5⊢;clear I HR;refine Vj kr ?_ _;refine At ?_;go_wp2;go_ret2;exact al.out _ _ _ Q2.out Q3.out Q4.out (by simp[N.out]) Q5.out
end
section
def CC(tl:List Tk)(j:Nat):Nat:=(tl[j]?.map Tk.a).getD 0
open Classical in
noncomputable def Cp (o0:Nat->Nat) (sz W P n1 n2 n3 n4 n5 Z:Nat) (tl:List Tk) (k:Nat):Nat:=
 if k<sz then o0 k else if Z<=k then 1000000 else if k=P then 1 else if n1<=k/\k<n2 then 4 else if n2<=k/\k<n3 then 5 else if n3<=k/\k<n4 then 6 else if n4<=k/\k<n5 then 7 else
  if k=CC tl 0 then 8 else if k=CC tl (W+1) then 9 else if k=CC tl (W+2) then 10 else if h:∃i,i<W/\CC tl (i+1)=k then 11+Classical.choose h else 0
section
variable {c:CfM}{m S Kk:Nat}{w V:World}{P n0 n1 n2 n3 n4 n5 Bb Bu Bd Q QB G GB O OB:Nat}{tv:Value}{tl:List Tk}{o0:Nat->Nat}
theorem GO.get(h:GO c m S Kk w P n0 n1 n2 n3 n4 n5 Bb Bu Bd Q QB G GB O OB tv tl V){j:Nat}(Y:j<c.W+3):∃t,tl[j]?=some t/\t.a=CC tl j/\t=CY c.W P j t.a:=by
 have Z:j<tl.length:=by rw[h.len];exact Y
 have e:tl[j]?=some tl[j]:=Ar Z;exact⟨_,e,by unfold CC;rw[e];rfl,h.sh j _ e⟩
theorem GO.apart(h:GO c m S Kk w P n0 n1 n2 n3 n4 n5 Bb Bu Bd Q QB G GB O OB tv tl V){i j:Nat}(U:i<c.W+3)(X:j<c.W+3)(Y:i≠j):CC tl i+2<=CC tl j∨CC tl j+2<=CC tl i:=by
 obtain⟨t,h1,h2,_⟩:=h.get U;obtain⟨u,h3,h4,_⟩:=h.get X;rw[<-h2,<-h4]
 rcases Nat.lt_or_gt_of_ne Y with Z|Z
 ·exact h.ti.dj i j t u h1 h3 Z
 ·exact(h.ti.dj j i u t h3 h1 Z).symm
theorem GO.own(h:GO c m S Kk w P n0 n1 n2 n3 n4 n5 Bb Bu Bd Q QB G GB O OB tv tl V){j:Nat}(D:j<c.W+3):Cp o0 w.heap.size c.W P n1 n2 n3 n4 n5 V.heap.size tl (CC tl j)=(if j=0 then 8 else if j<=c.W then 10+j else if j=c.W+1 then 9 else 10)/\Cp o0 w.heap.size c.W P n1 n2 n3 n4 n5 V.heap.size tl (CC tl j+1)=0:=by
 obtain⟨t,h1,h2,_⟩:=h.get D;obtain⟨v,y,g3,g4⟩:=h.ti.el j t h1;have s:=h.grp.lt;have C:=v.2.2;have A:=h.lo;have B:=h.np.lt;rw[h2]at C y;have Y:=λi (N:i<c.W+3) (X:i≠j)=>h.apart N D X
 constructor
 ·unfold Cp;rw[Va om,Va om,Va om,Va om,Va om,Va om,Va om]
  by_cases J:j=0
  ·subst J;rw[Vb rfl,Vb rfl]
  ·rw[Va (by have:=Y 0 om (Ne.symm J);omega),Va J]
   by_cases H:j=c.W+1
   ·subst H;rw[Vb rfl,Va om,Vb rfl]
   ·rw[Va (by have:=Y (c.W+1) om (Ne.symm H);omega)]
    by_cases I:j=c.W+2
    ·subst I;rw[Vb rfl,Va om,Va om]
    ·rw[Va (by have:=Y (c.W+2) om (Ne.symm I);omega),Vb om];have U:∃i,i<c.W/\CC tl (i+1)=CC tl j:=⟨j-1,by omega,by rw[show j-1+1=j by omega]⟩;rw[dif_pos U];have o:=Classical.choose_spec U;have:Classical.choose U+1=j:=Md λZ=>by
      have:=Y (Classical.choose U+1) om Z;omega
     omega
 ·unfold Cp;have Z:∀i,i<c.W+3->CC tl j+1≠CC tl i:=λi N e=>by
   by_cases X:i=j
   ·subst X;omega
   ·have:=Y i N X;omega
  rw[Va om,Va om,Va om,Va om,Va om,Va om,Va om,Va (Z 0 om),Va (Z (c.W+1) om),Va (Z (c.W+2) om),dif_neg λ⟨i,N,e⟩=>Z (i+1) om e.symm]
theorem GO.row(h:GO c m S Kk w P n0 n1 n2 n3 n4 n5 Bb Bu Bd Q QB G GB O OB tv tl V):∃g cap,tv=slice (some ⟨g,0,none⟩) (c.W+3) cap/\c.W+3<=cap/\g<V.heap.size/\Cp o0 w.heap.size c.W P n1 n2 n3 n4 n5 V.heap.size tl g=0/\g≠P/\∀j t,tl[j]?=some t->V.cell? ⟨g,j,none⟩=some (ifV t):=by
 have s:=h.grp.lt;have H:=h.lo;have I:=h.np.lt
 rcases h.ti.row.2 with⟨_,h0⟩|⟨g,cap,B,e,v,U,X,y,A,Y⟩
 ·have:=h.len;omega
 ·rw[h.len]at e X Y;have D:=(AD.1 U).1;have Z:∀i,i<c.W+3->g≠CC tl i:=λi J C=>by
   obtain⟨t,h1,h2,_⟩:=h.get J;exact(h.ti.el i t h1).2.2.1 (by rw[e,h2,<-C];rfl)
  refine⟨g,cap,e,X,D,?_,by omega,λj t N=>?_⟩
  ·unfold Cp;rw[Va om,Va om,Va om,Va om,Va om,Va om,Va om,Va (Z 0 om),Va (Z (c.W+1) om),Va (Z (c.W+2) om),dif_neg λ⟨i,J,e⟩=>Z (i+1) om e.symm]
  ·have o:j<c.W+3:=by rw[<-h.len];exact(AP.1 N).1
   have:(tl.map ifV)[j]?=some (ifV t):=by rw[BU,N];rfl
   rw[<-Y,MW om,Array.getElem?_toList]at this;simp only[cell?,U];exact this
def adN(P m S Kk Bb Bu Bd Q QB G GB O OB g cap W q:Nat)(tl:List Tk)(Wm:World):PAd:=
 ⟨P,m,S,Kk,Bb,Bu,Bd,Q,QB,G,GB,O,OB,g,cap,CC tl 0,λi=>CC tl (i+1),CC tl (W+1),CC tl (W+2),CC tl 0+1,λi=>CC tl (i+1)+1,CC tl (W+1)+1,CC tl (W+2)+1,q,Wm⟩
theorem ao8(h:GO c m S Kk w P n0 n1 n2 n3 n4 n5 Bb Bu Bd Q QB G GB O OB tv tl V){q:Nat}{Wm:World}{rs:Lq}{s:List TVw}{o ka:Option Addr}{D sc kn kc:Nat}(ho:∀k,w.heap.size<=k->o0 k=1000000)(hs:BY (λk=>o0 k=2) S o D sc s rs c.br 0 w)(B:D<=1000000)
  (hk:CN (λk=>o0 k=3) Kk ka kn kc (slice none 0 0) c.ans [] 0 w) (hm:∀V,Fk q Wm V->Nz m c V) (J:Fk q Wm w) (hz:∀k,q<=k->k<Wm.heap.size->o0 k=0) (hr:1<=c.R) (hq:1<=c.Q) (a1:1<=c.O) :
  ∃g cap,AI (adN P m S Kk Bb Bu Bd Q QB G GB O OB g cap c.W q tl Wm) c (Cp o0 w.heap.size c.W P n1 n2 n3 n4 n5 V.heap.size tl) (Bn c rs) V:=by
 obtain⟨g,cap,v,r2,r3,r4,r5,r6⟩:=h.row (o0:=o0);subst v;have hl:=h.grp.lt;have a6:=h.lo;have a2:=h.np.lt;have a7:=h.below.size;obtain⟨A,hA⟩:∃A,adN P m S Kk Bb Bu Bd Q QB G GB O OB g cap c.W q tl Wm=A:=⟨_,rfl⟩;have X:∀k,k<w.heap.size->Cp o0 w.heap.size c.W P n1 n2 n3 n4 n5 V.heap.size tl k=o0 k:=λk hk=>Vb hk;have hcw:Chg (λ_=>False) w V:=.of_same h.below;refine⟨g,cap,λt C=>?_,λk hk=>?_⟩
 ·match t,C with
  |0,_=>
   have mk:∀j,j<c.W+3->∀f:Nat->Option Value,(∀t,t=CY c.W P j t.a->t.a=CC tl j->t.f=f)->ES V (CC tl j+1) f/\Cp o0 w.heap.size c.W P n1 n2 n3 n4 n5 V.heap.size tl (CC tl j+1)=0:=λj hj f hf=>by obtain⟨t,h1,h2,h3⟩:=h.get hj;have:=(h.ti.el j t h1).1.2.1;rw[hf t h3 h2,h2]at this;exact⟨this,(h.own hj).2⟩
   refine⟨λt C=>?_,⟨r4,r3⟩,mk 0 om _ λt h1 h2=>?_,λi U=>mk (i+1) om _ λt h1 h2=>?_,mk (c.W+1) om _ λt h1 h2=>?_,mk (c.W+2) om _ λt h1 h2=>?_,⟨hm,J.below h.below,λk h1 h2=>by rw[X k (Af h2 J.1)];exact hz k h1 h2⟩,r2⟩
   ·obtain⟨u,h1,h2,h3⟩:=h.get C;refine(r6 t u h1).trans ?_;rw[h3,h2];unfold CY Mo adN
    by_cases t0:t=0
    ·subst t0;rfl
    ·rw[Va t0,Va t0]
     by_cases I:t<=c.W
     ·rw[Vb I,Vb I];show some (Value.iface _ (pointer (some ⟨CC tl t,0,none⟩)))=some (Value.iface _ (pointer (some ⟨CC tl (t-1+1),0,none⟩)));rw[show t-1+1=t by omega]
      rfl
     ·rw[Va I,Va I]
      by_cases H:t=c.W+1
      ·subst H;rw[Vb rfl,Vb rfl];rfl
      ·rw[Va H,Va H];obtain rfl:t=c.W+2:=by omega
       rfl
   ·rw[h1];unfold CY;rw[Vb rfl,h2];rfl
   ·rw[h1];unfold CY;rw[Va om,Vb om,h2];rfl
   ·rw[h1];unfold CY;rw[Va om,Va om,Vb rfl,h2];rfl
   ·rw[h1];unfold CY;rw[Va om,Va om,Va om,h2];rfl
  |1,_=>
   refine⟨slice none 0 0,h.np.box,?_,CO.nil _ _ _ _,by simp[Value.ownBlock]⟩;show Cp o0 w.heap.size c.W P n1 n2 n3 n4 n5 V.heap.size tl P=1;unfold Cp;rw[Va om,Va om,Vb rfl]
  |2,_=>exact⟨o,D,sc,s,(hs.keep hcw λ_ _ _ h=>h).wide λk hk Z=>by
    have N:k<w.heap.size:=Nat.lt_of_not_le λy=>by have:=ho k y;have Z:o0 k=2:=Z;omega
    exact(X k N).trans Z,B⟩
  |3,_=>exact⟨ka,kn,kc,slice none 0 0,(hk.keep hcw λ_ _ _ h=>h).wide λk hk Z=>by
    have N:k<w.heap.size:=Nat.lt_of_not_le λy=>by have:=ho k y;have Z:o0 k=3:=Z;omega
    exact(X k N).trans Z⟩
  |4,_=>
   refine h.grp.buf.wide6 λk hk Z=>?_;show Cp o0 w.heap.size c.W P n1 n2 n3 n4 n5 V.heap.size tl k=4;unfold Cp;rw[Va om,Va om,Va om,Vb Z]
  |5,_=>
   refine⟨0,_,h.grp.que.wide λk hk Z=>?_,CS,λi b U=>by simp[Bn]at U⟩;show Cp o0 w.heap.size c.W P n1 n2 n3 n4 n5 V.heap.size tl k=5;unfold Cp;rw[Va om,Va om,Va om,Va om,Vb Z]
  |6,_=>
   refine⟨_,h.grp.rng.wide λk hk Z=>?_,CS,CS,λi x U=>?_⟩
   ·show Cp o0 w.heap.size c.W P n1 n2 n3 n4 n5 V.heap.size tl k=6;unfold Cp;rw[Va om,Va om,Va om,Va om,Va om,Vb Z]
   ·have Z:=Ho (AX (show(List.replicate c.R (none:Option (List AF)))[i]?=some x from U));subst Z;exact⟨((none,0,0),false),List.getElem?_replicate_of_lt (Ek _ om),rfl⟩
  |7,_=>
   refine⟨0,_,h.grp.out.wide λk hk Z=>?_,CS,λi b U=>by simp[Bn]at U⟩;show Cp o0 w.heap.size c.W P n1 n2 n3 n4 n5 V.heap.size tl k=7;unfold Cp;rw[Va om,Va om,Va om,Va om,Va om,Va om,Vb Z]
  |8,_=>
   obtain⟨t,h1,h2,h3⟩:=h.get (j:=0) om;have Y:=(h.ti.el 0 t h1).1.1;rw[h3,h2]at Y;refine⟨slice none 0 0,Y,?_,Cv.nil _ _,by simp[Value.ownBlock]⟩;exact(h.own (o0:=o0) (j:=0) om).1.trans (Vb rfl)
  |9,_=>
   obtain⟨t,h1,h2,h3⟩:=h.get (j:=c.W+1) om;have Y:=(h.ti.el _ t h1).1.1;rw[h3,h2]at Y;unfold CY at Y;rw[Va om,Va om,Vb rfl]at Y;refine⟨none,0,0,Y,?_,⟨⟨rfl,.inl rfl⟩,λh=>absurd rfl h⟩,AC _⟩;exact(h.own (o0:=o0) (j:=c.W+1) om).1.trans (by rw[Va om,Va om,Vb rfl])
  |10,_=>
   obtain⟨t,h1,h2,h3⟩:=h.get (j:=c.W+2) om;have Y:=(h.ti.el _ t h1).1.1;rw[h3,h2]at Y;unfold CY at Y;rw[Va om,Va om,Va om]at Y;refine⟨Y,?_⟩;exact(h.own (o0:=o0) (j:=c.W+2) om).1.trans (by rw[Va om,Va om,Va om])
  |i+11,_=>
   show CP (adN P m S Kk Bb Bu Bd Q QB G GB O OB g cap c.W q tl Wm) (Bn c rs) (λk=>Cp o0 w.heap.size c.W P n1 n2 n3 n4 n5 V.heap.size tl k=i+11) (λk=>Cp o0 w.heap.size c.W P n1 n2 n3 n4 n5 V.heap.size tl k=0) V i;unfold CP
   by_cases U:i<c.W
   ·have e:(Bn c rs).wk[i]?=some (wk0 1):=List.getElem?_replicate_of_lt U;rw[e];obtain⟨t,h1,h2,h3⟩:=h.get (j:=i+1) om;have Y:=(h.ti.el _ t h1).1.1;rw[h3,h2]at Y;unfold CY at Y;rw[Va om,Vb om]at Y;refine⟨⟨0,0,0,none,0,0,0⟩,slice none 0 0,Y,?_,⟨rfl,rfl,rfl,rfl,⟨⟨⟨rfl,.inl rfl⟩,λx Z=>by cases Z⟩,λh=>absurd rfl h⟩⟩,CO.nil _ _ _ _,by simp[Value.ownBlock],λ_ g hg=>by simp[Value.ownBlock]at hg⟩;exact(h.own (o0:=o0) (j:=i+1) om).1.trans (by rw[Va om,Vb om];omega)
   ·have e:(Bn c rs).wk[i]?=none:=by show(List.replicate c.W (wk0 1))[i]?=none;simp;omega
    rw[e]
    trivial
 ·unfold Cp;rw[Va om,Vb hk]
end
end
theorem ajG(a:Option Addr)(n c:Nat)(ans:List Bool)(w:World)(h:Sl1 bool w a n ans)(A:n<=1000000) :Calls ZP 53 #[slice a n c] w λe w'=>∃K o s,e=.returned (pointer (some ⟨K,0,none⟩))/\CN (λk=>w.heap.size<=k) K o n s (slice none 0 0) ans [] 0 w'/\Br w w':=by
 have HC:=AA (ahR a n c (ans.map bool) w (Jz h) (λu C=>by obtain⟨x,_,rfl⟩:=Be.1 C;rfl) A);have HL:=AA h.1;clear h;go_enter func53,ntmps53
 go_wp2_with (go_at_call 94;refine HC.out.mono ?_;rintro e Y ⟨v1,rfl,ho,H⟩;obtain⟨N,c1,V,_,X⟩:=SlK.own ho;subst V;have HO:=AA ho;have j:=AA X;have J:=AA H;clear ho X H)
 go_ret;obtain⟨W,hW⟩:∃U,U=Y.alloc (.cells #[slice N n c1,slice none 0 0,int i64 0] 113):=⟨_,rfl⟩;have Z:Br Y W:=by rw[hW];exact AL _ _
 have D:W.heap[Y.heap.size]?=some (.cells #[slice N n c1,slice none 0 0,int i64 0] 113 (0,0)):=by rw[hW];exact AT _ _
 refine⟨Y.heap.size,N,c1,rfl,⟨by rw[<-hW];exact D,J.out.size,?_,λh0 q B=>?_,CO.nil _ _ _ _,by simp[Value.ownBlock]⟩,by rw[<-hW];exact J.out.trans (Z.mono J.out.size)⟩
 ·refine⟨HL.out,?_⟩
  rcases j.out.2 with h|⟨b,off,e,I,v⟩
  ·exact .inl h
  ·refine .inr ⟨b,off,e,by rw[<-hW];exact Af I Z.size,λi x y=>?_⟩;rw[<-hW,Z.cell (p:=⟨b,off+i,none⟩) I];exact v i _ (by rw[BU,y];rfl)
 ·subst B;have:=Gw HO.out q.block rfl;refine⟨this.1,by omega,by simp[Value.ownBlock]⟩
theorem Wds.rds{w:World}{a:Option Addr}{n:Nat}{Z:Lq}(h:Wds w a n Z):∃Y,aph w a n Y Z:=by obtain⟨Y,h1,h2,h3⟩:=h;exact⟨Y,h1,h2,λi v xs V X=>(h3 i v xs V X).1⟩
theorem AE.base{A:PAd}{c:CfM}{s:PlM}{o:Nat->Nat}{Z w w':World}(h:AE A c o s w w')(Y:Br Z w)(X:∀k,k<Z.heap.size->o k=0):Br Z w':=by obtain⟨U,h1,h2,h3⟩:=h;exact Y.trans (h3.below Y.size λk hk V=>V (X k hk))
theorem alN{c:CfM}{fold:Bool}{wss Z:Lq}{q m S Kk:Nat}{y J C D N V:World}{P n0 n1 n2 n3 n4 n5 Bb Bu Bd Q QB G GB O OB:Nat}{tv:Value}{tl:List Tk}{vs:List TVw}{sa ka:Option Addr}{sc kn kc:Nat}
  (hF:Hj q m fold wss J) (hr:An fold wss=true) (v:c.scan=scF fold wss c.S) (U:OkC c) (hq:q=y.heap.size) (a1:Br y J) (B:Br J C) (I:Br C D) (H:Br D N)
  (hk:CN (λk=>J.heap.size<=k) Kk ka kn kc (slice none 0 0) c.ans [] 0 C) (hs:BY (λk=>D.heap.size<=k) S sa Z.length sc vs Z c.br 0 N) (hn:Z.length<=1000000) (h:GO c m S Kk N P n0 n1 n2 n3 n4 n5 Bb Bu Bd Q QB G GB O OB tv tl V) :
  ∃A o,A.P=P/\A.Kk=Kk/\AI A c o (Bn c Z) V/\∀k,k<y.heap.size->o k=0:=by
 have s1:=B.size;have s2:=I.size;have s3:=H.size;have s0:=a1.size;obtain⟨o0,X⟩:∃o0:Nat->Nat,o0=λk=>if k<J.heap.size then 0 else if k<C.heap.size then 3 else if k<N.heap.size then 2 else 1000000:=⟨_,rfl⟩
 have e:CN (λk=>o0 k=3) Kk ka kn kc (slice none 0 0) c.ans [] 0 N:=by refine(hk.wide (Y:=λk=>o0 k=3) λk hk hx=>?_).keep (Y:=λ_=>False) (Chg.of_same (I.trans (H.mono s2))) λ_ _ _ h=>h;rw[X];dsimp only;rw[Va om,Vb hk]
 have s:BY (λk=>o0 k=2) S sa Z.length sc vs Z c.br 0 N:=by refine hs.wide λk hk hx=>?_;rw[X];dsimp only;rw[Va om,Va om,Vb hk]
 have j:Fk q J N:=EF.of_below (B.trans ((I.trans (H.mono s2)).mono s1));obtain⟨g,cap,hP⟩:=ao8 h (o0:=o0) (λk hk=>by rw[X];dsimp only;rw[Va om,Va om,Va om]) s hn e (λV hV=>ap3 hF hr v U.S.2 V hV) j (λk _ hk=>by rw[X];exact Vb hk) U.R.1 U.Q.1 U.O.1;refine⟨_,_,rfl,rfl,hP,λk hk=>?_⟩;unfold Cp;rw[Vb om,X];exact Vb om
theorem ahW(c:CfM)(fold:Bool)(a:Option Addr)(I ca:Nat)(b:Option Addr)(n cb:Nat)(d:Option Addr)(m cd:Nat)(wss Z:Lq)(w:World)(hA:Wds w a I wss)(hR:Wds w b n Z)(s:Sl1 bool w d m c.ans)
  (hr:An fold wss=true) (al:I<=1000000) (hM:∀x∈wss,x.length<=1000000) (hT:(Ad fold wss).length<=1000000) (hL:Au wss=(c.L:Int)) (H:c.L<=32) (a6:c.scan=scF fold wss c.S) (a2:OkC c) (ac:Ce c.W c.K c.R c.Q c.O c.S c.F=true) (hn:n<=1000000) (hl:∀x∈Z,x.length<=1000000) (hm:m<=1000000) :
  Calls ZP 14 #[.agg (DS fold a I ca c.W c.K c.R c.Q c.O c.S c.F c.br b n cb d m cd)] w λe w'=>∃A o,e=.returned (.tuple #[pointer (some ⟨A.P,0,none⟩),pointer (some ⟨A.Kk,0,none⟩)])/\AI A c o (Bn c Z) w'/\Br w w'/\∀k,k<w.heap.size->o k=0:=by
 obtain⟨W,hW⟩:∃W,W=w.alloc (.cells (DS fold a I ca c.W c.K c.R c.Q c.O c.S c.F c.br b n cb d m cd) 29):=⟨_,rfl⟩;have U:Br w W:=by rw[hW];exact(AH _ _).alloc (AC _) _
 have hO:Bx w.heap.size [.cells (DS fold a I ca c.W c.K c.R c.Q c.O c.S c.F c.br b n cb d m cd) 29] W:=by rw[hW];exact(Bx.nil _ w).snoc _ rfl
 have N:Hid (∀V,Br W V->V.cell? ⟨w.heap.size,0,none⟩=some (bool fold)/\V.cell? ⟨w.heap.size,1,none⟩=some (slice a I ca)/\V.cell? ⟨w.heap.size,2,none⟩=some (int i64 c.W)/\V.cell? ⟨w.heap.size,3,none⟩=some (int i64 c.K)/\V.cell? ⟨w.heap.size,4,none⟩=some (int i64 c.R)/\V.cell? ⟨w.heap.size,5,none⟩=some (int i64 c.Q)/\V.cell? ⟨w.heap.size,6,none⟩=some (int i64 c.O)/\V.cell? ⟨w.heap.size,7,none⟩=some (int i64 c.S)/\V.cell? ⟨w.heap.size,8,none⟩=some (int i64 c.F)/\V.cell? ⟨w.heap.size,9,none⟩=some (bool c.br)/\V.cell? ⟨w.heap.size,10,none⟩=some (slice b n cb)/\V.cell? ⟨w.heap.size,11,none⟩=some (slice d m cd)):=λV v=>by have h:=hO.below v;exact⟨h.cell (i:=0) rfl rfl,h.cell (i:=0) rfl rfl,h.cell (i:=0) rfl rfl,h.cell (i:=0) rfl rfl,h.cell (i:=0) rfl rfl,h.cell (i:=0) rfl rfl,h.cell (i:=0) rfl rfl,h.cell (i:=0) rfl rfl,h.cell (i:=0) rfl rfl,h.cell (i:=0) rfl rfl,h.cell (i:=0) rfl rfl,h.cell (i:=0) rfl rfl⟩
 have k1:Hid (Calls ZP 52 #[.agg (AM fold a I ca)] W λe w'=>∃B,e=.returned (.tuple #[pointer (some ⟨B,0,none⟩),int i64 0])/\Hj W.heap.size B fold wss w'/\Br W w'):=adn fold a I ca wss W (hA.below U) al hM hT hr;have k2:Hid (∀V,Br W V->Calls ZP 53 #[slice d m cd] V λe w'=>∃K a' c',e=.returned (pointer (some ⟨K,0,none⟩))/\CN (λk=>V.heap.size<=k) K a' m c' (slice none 0 0) c.ans [] 0 w'/\Br V w'):=λV v=>ajG d m cd c.ans V ((s.below U).below v) hm;have a8:Z.length=n:=hR.len;have k3:Hid (∀V,Br W V->Calls ZP 55 #[bool c.br,slice b n cb] V λe w'=>∃S a' c' aj,e=.returned (pointer (some ⟨S,0,none⟩))/\BY (λk=>V.heap.size<=k) S a' Z.length c' aj Z c.br 0 w'/\Br V w'):=λV v=>by obtain⟨vs,ak⟩:=((hR.below U).below v).rds;exact aiT b n cb vs Z c.br V ak hn hl
 have HB:=AA U;have HR:=AA hr;have HL:=AA hL;have HK:=AA H;have HS:=AA a6;have ap:=AA a2;have HF:=AA ac;have HN:Hid (Z.length<=1000000):=by rw[Hid,a8];exact hn
 obtain⟨q0,q1,q2,q3,q4,q5,q6,q7,q8,q9,X,Y⟩:=N.out W (AH _ _);clear hA hR s hr hM hT hL H a6 a2 ac hl hO U a8;go_enter func14,ntmps14;go_upto_region 1 with fail
 rw[<-hW];clear hW
 go_wp2_with fail
 refine k1.out.mono ?_;rintro e w1 ⟨B,rfl,ag,af⟩;have X1:=AA af;have ai:=AA ag;clear q0 q1 q2 q3 q4 q5 q6 q7 q8 q9 X Y af ag k1;obtain⟨q0,q1,q2,q3,q4,q5,q6,q7,q8,q9,X,Y⟩:=N.out w1 X1.out;have K2:=AA (k2.out w1 X1.out);clear k2
 go_wp2_with fail
 refine K2.out.mono ?_;rintro e w2 ⟨Kk,ka,kc,rfl,ab,y⟩;have a1:=AA y;have X2:=AA (X1.out.trans (y.mono X1.out.size));have aq:=AA ab;clear q0 q1 q2 q3 q4 q5 q6 q7 q8 q9 X Y y ab K2;obtain⟨q0,q1,q2,q3,q4,q5,q6,q7,q8,q9,X,Y⟩:=N.out w2 X2.out;go_upto_region 3 with fail
 obtain⟨D,s⟩:∃D,D=w2.drew:=⟨_,rfl⟩;have J:Hid (Br w2 D):=by rw[Hid,s];exact AN w2 1
 have XD:=AA (X2.out.trans (J.out.mono X2.out.size));have K3:=AA (k3.out D XD.out);clear q0 q1 q2 q3 q4 q5 q6 q7 q8 q9 X Y k3;refine Vh ?_;refine Vg (S:=λV=>Br W V) kr (by rw[<-s];exact XD.out) (λhHeld=>?_);rw[<-s];clear s;refine tkB 0 N.out ?_;refine tkB 1 N.out ?_;refine tkB 2 N.out ?_;refine tkB 3 N.out ?_;refine tkB 4 N.out ?_;refine tkB 5 N.out ?_;refine tkB 6 N.out ?_;refine tkA 8 ?_;refine rdy 7 (λK hK=>?_);go_simp
 go_at_call 55;refine K3.out.mono ?_;rintro e w3 ⟨S,sa,sc,vs,rfl,a7,ae⟩
 have j:=AA ae;have am:=AA a7;clear ae a7;have X3:=AA (XD.out.trans (j.out.mono XD.out.size));refine hK.out _ _ X3.out (λh7=>?_);clear hK K
 try simp only[pq]
 have aa:Fk W.heap.size w1 w3:=EF.of_below (a1.out.trans ((J.out.trans (j.out.mono J.out.size)).mono a1.out.size));have K4:=AA (aiL c B S Kk W.heap.size w1 w3 HF.out HK.out (λV v=>ap2 ai.out HL.out V v) aa);clear aa;refine rdy 9 (λK hK=>?_);go_simp
 go_at_call 54;refine K4.out.mono ?_;rintro e w4 ⟨P,n0,n1,n2,n3,n4,n5,Bb,Bu,Bd,Q,QB,G,GB,O,OB,tv,tl,rfl,C⟩
 have ao:=AA C;have X4:=AA (X3.out.trans (C.below.mono X3.out.size));clear C;refine hK.out _ _ X4.out (λh9=>?_);clear hK K
 try simp only[pq]
 refine tkA 10 ?_;refine tkA 11 ?_;refine tkA 12 ?_;refine tkA 13 ?_;refine tkA 14 ?_;refine Vj kr ?_ _;refine At ?_;go_wp2;go_ret2;obtain⟨A,o,e1,e2,e3,e4⟩:=alN ai.out HR.out HS.out ap.out rfl X1.out a1.out J.out j.out aq.out am.out HN.out ao.out;refine⟨A,o,?_,e3,HB.out.trans (X4.out.mono HB.out.size),λk hk=>e4 k (Af hk HB.out.size)⟩;rw[e1,e2]
 rfl
theorem abc{fold:Bool}{wss Z:Lq}{wk bl rg X V Y fr:Int}{m:Nat}(h:GV fold wss wk bl rg X V Y fr Z m=true):Ev wss=false/\An fold wss=true/\Ce wk bl rg X V Y fr=true/\Z.length<=20/\Z.flatten.length<=60/\m<=12:=by unfold GV at h;simp only[Bq,decide_eq_true_eq,Bool.not_eq_true']at h;obtain⟨⟨⟨⟨⟨⟨h1,h2⟩,h3⟩,h4⟩,h5⟩,h6⟩,h7⟩:=h;exact⟨h1,by rw[NF];exact h2,h3,h4,h6,h7⟩
theorem ajF{Z:Lq}{N:Nat}(h:Z.flatten.length<=N):∀x∈Z,x.length<=N:=λx Y=>by
 induction Z with
 |nil=>cases Y
 |cons y l ih=>
  rw[List.flatten_cons,List.length_append]at h
  rcases CR.1 Y with rfl|Y
  ·omega
  ·exact ih om Y
theorem amg{wk bl rg Y X Z fr:Int}(h:Ce wk bl rg Y X Z fr=true):∃W K R Q O S F:Nat,wk=W/\bl=K/\rg=R/\Y=Q/\X=O/\Z=S/\fr=F:=by have h:=Gi.1 h;exact⟨wk.toNat,bl.toNat,rg.toNat,Y.toNat,X.toNat,Z.toNat,fr.toNat,by omega,by omega,by omega,by omega,by omega,by omega,by omega⟩
theorem aok{c:CfM}(h:Ce c.W c.K c.R c.Q c.O c.S c.F=true)(Z:c.L<=32):OkC c:=by have h:=Gi.1 h;exact⟨by omega,by omega,by omega,by omega,by omega,by omega,by omega,by unfold CfM.wm;omega⟩
def dtB(K wm:Nat)(text:List Int)(j:Nat):List Int:=(text.take (j*K+K)).drop (j*K-min wm (j*K))
structure GQ(c:CfM)(text:List Int)(b:Bc):Prop where
 st:b.start=c.F+b.num*c.K
 wm:b.warm=min c.wm (b.num*c.K)
 dt:b.data=dtB c.K c.wm text b.num
 lt:b.num*c.K<text.length
structure RdX(c:CfM)(text:List Int)(s:PlM):Prop where
 rs:text.drop s.read=s.rs.flatten
 le:s.read<=text.length
 tl:s.rd.tail=(text.take s.read).drop (s.read-min c.wm s.read)
 p1:s.rd.ph=1->s.read=s.number*c.K/\s.rd.ended=false
 ah:s.rd.ph=2∨s.rd.ph=3->s.rd.ahead=s.number*c.K/\s.read=s.rd.ahead+s.rd.own/\s.rd.warm=min c.wm s.rd.ahead/\s.rd.buf<s.ds.length/\s.ds.getD s.rd.buf []=(text.take s.read).drop (s.rd.ahead-s.rd.warm)
 p2:s.rd.ph=2->s.rd.own<c.K/\s.rd.ended=false
 p3:s.rd.ph=3->1<=s.rd.own/\(s.rd.ended=false/\s.rd.own=c.K∨s.rd.ended=true/\s.rs=[]/\s.rd.own<=c.K)
 p4:s.rd.ph=4∨s.rd.ph=5->s.rs=[]/\text.length<=s.number*c.K
section
variable {c:CfM}{s t:PlM}{text:List Int}{i:Nat}{x:WkM}
theorem ae0{α:Type}{l:List α}{n:Nat}(h:n<l.length)(a d:α):(l.set n a).getD n d=a:=by rw[DZ,FU h];rfl
theorem akr{α:Type}{l:List α}{n m:Nat}(h:n≠m)(a d:α):(l.set n a).getD m d=l.getD m d:=by rw[DZ,DZ,FH h]
theorem RdX.same(h:RdX c text s)(h1:t.rs=s.rs)(h2:t.read=s.read)(h3:t.rd=s.rd)(h4:t.number=s.number)(h5:t.ds.length=s.ds.length)(h6:s.rd.ph=2∨s.rd.ph=3->t.ds.getD s.rd.buf []=s.ds.getD s.rd.buf []):RdX c text t:=by
 refine⟨?_,?_,?_,?_,λZ=>?_,?_,?_,?_⟩
 ·rw[h1,h2];exact h.rs
 ·rw[h2];exact h.le
 ·rw[h2,h3];exact h.tl
 ·rw[h2,h3,h4];exact h.p1
 ·rw[h3]at Z;obtain⟨N,U,V,X,Y⟩:=h.ah Z;rw[h2,h3,h4,h5,h6 Z];exact⟨N,U,V,X,Y⟩
 ·rw[h3];exact h.p2
 ·rw[h1,h3];exact h.p3
 ·rw[h1,h3,h4];exact h.p4
theorem aiu(s:PlM)(n m:Nat)(h:n≠m):(Bv s n).ds.getD m []=s.ds.getD m []/\(Bv s n).ds.length=s.ds.length:=by
 unfold Bv;dsimp only
 split
 ·exact⟨akr h _ _,BG⟩
 ·exact⟨rfl,rfl⟩
theorem RdX.takeR(h:RdX c text s)(Y:s.rd.ph=1)(hB:s.fr.getLast?.getD 0<s.ds.length)(X:1<=c.K):RdX c text (takeR s):=by
 obtain⟨h1,h2⟩:=h.p1 Y;have Z:s.rd.tail.length=min c.wm s.read:=by rw[h.tl,List.length_drop,Ag];have:=h.le;omega
 refine⟨h.rs,h.le,h.tl,(λe=>by cases e),λ_=>⟨h1,by show s.read=s.read+0;rfl,Z,?_,?_⟩,λ_=>⟨?_,h2⟩,(λe=>by cases e),(λe=>by rcases e with e|e<;>cases e)⟩
 ·show s.fr.getLast?.getD 0<(((s.ds.set _ []).set _ s.rd.tail)).length;rw[BG,BG];exact hB
 ·show((s.ds.set (s.fr.getLast?.getD 0) []).set (s.fr.getLast?.getD 0) s.rd.tail).getD (s.fr.getLast?.getD 0) []=(text.take s.read).drop (s.read-s.rd.tail.length);rw[ae0 (by rw[BG];exact hB),Z];exact h.tl
 ·show 0<c.K;omega
theorem aeq{Z:Int}{x:List Int}{l:Lq}(X:1<=Z):BR Z (x::l)++(EB Z (x::l)).flatten=(x::l).flatten/\((BR Z (x::l)).length:Int)<=Z/\((BR Z (x::l)).length=Z∨EB Z (x::l)=l)/\(EB Z (x::l)).length<=l.length+1:=by
 unfold BR EB;dsimp only;rw[Va om,Va om];unfold Dg GX
 by_cases Y:(x.length:Int)<=Z
 ·rw[Vb Y,Vb Y];exact⟨rfl,Y,.inr rfl,by omega⟩
 ·rw[Va Y,Va Y];refine⟨?_,?_,.inl ?_,by simp⟩
  ·rw[List.flatten_cons,List.flatten_cons,<-CE,Dx]
  ·rw[Ag];omega
  ·rw[Ag];omega
theorem ajn{A B D:List Int}{k:Nat}(h:A.drop k=B++D)(hk:k<=A.length):A.drop (k+B.length)=D/\A.take (k+B.length)=A.take k++B/\k+B.length<=A.length:=by
 have e:A=A.take k++(B++D):=by rw[<-h,Dx]
 have Y:(A.take k).length=k:=by rw[Ag];omega
 have Z:=congrArg List.length h;rw[List.length_drop,List.length_append]at Z;refine⟨?_,?_,by omega⟩
 ·rw[<-List.drop_drop,h,List.drop_left'];rfl
 ·rw[List.take_add,h,List.take_left'];rfl
theorem akX{A b:List Int}{wm:Nat}:(A.drop (A.length-min wm A.length)++b).drop ((A.drop (A.length-min wm A.length)++b).length-wm)=(A++b).drop ((A++b).length-min wm (A++b).length):=by
 have e:A.drop (A.length-min wm A.length)++b=(A++b).drop (A.length-min wm A.length):=by rw[List.drop_append_of_le_length om]
 rw[e,List.drop_drop];congr 1;rw[List.length_drop,List.length_append];omega
theorem RdX.readR(h:RdX c text s)(U:s.rd.ph=2):RdX c text (readR c s):=by
 obtain⟨C,a2,a3,a4,a5⟩:=h.ah (.inl U);obtain⟨b1,D⟩:=h.p2 U;unfold Proofs.YtaamacoicojhnaaGreat.readR
 rcases(show s.rs=[]∨∃x l,s.rs=x::l by cases s.rs with|nil=>exact .inl rfl|cons x l=>exact .inr ⟨x,l,rfl⟩)with Y|⟨x,l,Y⟩
 ·have h0:=h.rs;rw[Y,List.flatten_nil,List.drop_eq_nil_iff]at h0;rw[Vb (show s.rs.isEmpty=true by rw[Y];rfl)]
  by_cases ho:0<s.rd.own
  ·rw[Vb ho];exact⟨by show text.drop s.read=s.rs.flatten;exact h.rs,h.le,h.tl,(λe=>by cases e),λ_=>⟨C,a2,a3,a4,a5⟩,(λe=>by cases e),λ_=>⟨ho,.inr ⟨rfl,Y,by show s.rd.own<=c.K;omega⟩⟩,(λe=>by rcases e with e|e<;>cases e)⟩
  ·rw[Va ho];refine⟨by show text.drop s.read=s.rs.flatten;exact h.rs,h.le,h.tl,(λe=>by cases e),(λe=>by rcases e with e|e<;>cases e),(λe=>by cases e),(λe=>by cases e),λ_=>⟨Y,?_⟩⟩;show text.length<=s.number*c.K;omega
 ·rw[Va (show ¬s.rs.isEmpty=true by rw[Y];simp)];have B:(1:Int)<=(c.K:Int)-s.rd.own:=by omega
  obtain⟨N,I,j,o⟩:=aeq (x:=x) (l:=l) B;rw[<-Y]at N I;obtain⟨b,J⟩:∃b,BR ((c.K:Int)-s.rd.own) s.rs=b:=⟨_,rfl⟩;obtain⟨r,V⟩:∃r,EB ((c.K:Int)-s.rd.own) s.rs=r:=⟨_,rfl⟩;rw[J,V]at N;rw[J]at I;rw[J,V];have h0:=h.rs;rw[<-N]at h0;obtain⟨v,H,y⟩:=ajn h0 h.le;have Z:(text.take s.read).length=s.read:=by rw[Ag];have:=h.le;omega
  have X:(text.take (s.read+b.length)).length=s.read+b.length:=by rw[Ag];omega
  refine⟨v,y,?_,λe=>?_,λ_=>⟨C,?_,a3,?_,?_⟩,λe=>⟨?_,D⟩,λe=>?_,λe=>?_⟩
  ·show(s.rd.tail++b).drop ((s.rd.tail++b).length-c.wm)=(text.take (s.read+b.length)).drop (s.read+b.length-min c.wm (s.read+b.length));have e:=akX (A:=text.take s.read) (b:=b) (wm:=c.wm);rw[<-H,Z,X,<-h.tl]at e;exact e
  ·have e:(if s.rd.own+b.length=c.K then 3 else s.rd.ph)=1:=e;rw[U]at e
   split at e<;>cases e
  ·show s.read+b.length=s.rd.ahead+(s.rd.own+b.length);omega
  ·show s.rd.buf<(s.ds.set _ _).length;rw[BG];exact a4
  ·show(s.ds.set s.rd.buf (s.ds.getD s.rd.buf []++b)).getD s.rd.buf []=(text.take (s.read+b.length)).drop (s.rd.ahead-s.rd.warm);rw[ae0 a4,a5,H,List.drop_append_of_le_length (by rw[Z];omega)]
  ·have e:(if s.rd.own+b.length=c.K then 3 else s.rd.ph)=2:=e;show s.rd.own+b.length<c.K
   split at e
   ·cases e
   ·omega
  ·have e:(if s.rd.own+b.length=c.K then 3 else s.rd.ph)=3:=e;rw[U]at e;show 1<=s.rd.own+b.length/\_
   split at e
   ·rename_i hk
    exact⟨by omega,.inl ⟨D,hk⟩⟩
   ·cases e
  ·have e:(if s.rd.own+b.length=c.K then 3 else s.rd.ph)=4∨(if s.rd.own+b.length=c.K then 3 else s.rd.ph)=5:=e;rw[U]at e
   split at e<;>(rcases e with e|e<;>cases e)
theorem RdX.putR(h:RdX c text s)(I:s.rd.ph=3):RdX c text (putR c s)/\GQ c text ⟨s.number,c.F+s.rd.ahead,s.rd.warm,s.ds.getD s.rd.buf [],s.rd.buf⟩:=by
 obtain⟨V,a2,a3,a4,a5⟩:=h.ah (.inr I);obtain⟨D,N⟩:=h.p3 I;have H:=h.le;have U:s.number*c.K<text.length:=by omega
 have X:=h.rs
 constructor
 ·refine⟨h.rs,h.le,h.tl,λe=>?_,λe=>?_,λe=>?_,λe=>?_,λe=>?_⟩
  ·have e:(if s.rd.ended then 4 else 1)=1:=e
   rcases N with⟨Y,Z⟩|⟨Y,Z,J⟩
   ·refine⟨?_,Y⟩;show s.read=(s.number+1)*c.K;rw[Nat.succ_mul];omega
   ·rw[Y]at e;cases e
  ·have e:(if s.rd.ended then 4 else 1)=2∨(if s.rd.ended then 4 else 1)=3:=e
   split at e<;>(rcases e with e|e<;>cases e)
  ·have e:(if s.rd.ended then 4 else 1)=2:=e
   split at e<;>cases e
  ·have e:(if s.rd.ended then 4 else 1)=3:=e
   split at e<;>cases e
  ·have e:(if s.rd.ended then 4 else 1)=4∨(if s.rd.ended then 4 else 1)=5:=e
   rcases N with⟨Y,Z⟩|⟨Y,Z,J⟩
   ·rw[Y]at e;rcases e with e|e<;>cases e
   ·refine⟨Z,?_⟩;show text.length<=(s.number+1)*c.K;rw[Z,List.flatten_nil,List.drop_eq_nil_iff]at X;rw[Nat.succ_mul];omega
 ·refine⟨by rw[V],by rw[a3,V],?_,U⟩;show s.ds.getD s.rd.buf []=dtB c.K c.wm text s.number;rw[a5,a3,V];unfold dtB;congr 1
  rcases N with⟨Y,Z⟩|⟨Y,Z,J⟩
  ·rw[a2,V,Z]
  ·rw[Z,List.flatten_nil,List.drop_eq_nil_iff]at X;rw[Ap X,Ap om]
theorem RdX.shutR(h:RdX c text s)(Z:s.rd.ph=4):RdX c text (shutR s):=⟨h.rs,h.le,h.tl,(λe=>by cases e),(λe=>by rcases e with e|e<;>cases e),(λe=>by cases e),(λe=>by cases e),λ_=>h.p4 (.inl Z)⟩
theorem akN(rs:Lq)(c:CfM):RdX c rs.flatten (Bn c rs):=⟨rfl,AR _,by show([]:List Int)=_;simp[Bn],λ_=>⟨by show 0=0*c.K;rw[Nat.zero_mul],rfl⟩,(λe=>by rcases e with e|e<;>cases e),(λe=>by cases e),(λe=>by cases e),(λe=>by rcases e with e|e<;>cases e)⟩
end
def whH(fold:Bool)(wss:Lq)(st wm:Int)(bs:List Int):List AF:=slH fold wss st wm bs 0 0 (bs.length:Int)
structure apm where
 nu:Int
 st:Int
 wm:Int
 ad:Option Addr
 n:Nat
 c:Nat
 bs:List Int
def prZ(fold:Bool)(wss:Lq)(bs:List Int)(d:Nat):Nat:=Bp fold wss 0 (bs.take d)
def prH(fold:Bool)(wss:Lq)(st wm:Int)(bs:List Int)(d:Nat):List AF:=Dj st (BQ fold wss 0 (st-wm) (bs.take d))
section
variable {fold:Bool}{wss:Lq}{st wm:Int}{bs:List Int}
theorem agT{d:Nat}{m:Int}(Z:d<=bs.length):bs.take (d+Am bs.length d m)=bs.take d++CU bs d m:=by unfold CU;rw[Aa,List.take_add]
theorem aoI(h:DI fold wss st wm bs.length 0 0=true)(d:Nat):prZ fold wss bs d<(AB wss).length:=JY (by have:=(NP h).2.2.1;omega) _
theorem aou(h:DI fold wss st wm bs.length 0 0=true){d:Nat}(Z:d<=bs.length):DI fold wss st wm bs.length (prZ fold wss bs d) d=true:=by
 obtain⟨h1,h2,_⟩:=NP h;have h3:=aoI h d;unfold DI KA;rw[h1,h2,Ve (show(0:Int)<=(d:Int)/\(d:Int)<=(bs.length:Int) by omega),Ve (show((0:Int)<=(prZ fold wss bs d:Int)/\(prZ fold wss bs d:Int)<((AB wss).length:Int))/\(0:Int)<=0/\(0:Int)<=4611686020574871551 by omega)]
 rfl
theorem amp(h:DI fold wss st wm bs.length 0 0=true){d:Nat}(Y:d<=bs.length)(m:Int) :slZ fold wss st wm bs (prZ fold wss bs d) d m=(prZ fold wss bs (d+Am bs.length d m):Nat)/\slD fold wss st wm bs (prZ fold wss bs d) d m=((d+Am bs.length d m:Nat):Int)/\
  prH fold wss st wm bs d++slH fold wss st wm bs (prZ fold wss bs d) d m=prH fold wss st wm bs (d+Am bs.length d m)/\slO fold wss st wm bs (prZ fold wss bs d) d m=(((d+Am bs.length d m:Nat):Int)==(bs.length:Int))/\d+Am bs.length d m<=bs.length:=by
 have Z:=aou h Y;have X:=Jw (n:=bs.length) (d:=(d:Int)) (m:=m) om om;rw[Aa]at X;unfold slZ slD slH slO;rw[Vb Z,Vb Z,Vb Z,Vb Z];refine⟨?_,by omega,?_,?_,X⟩
 ·unfold prZ;rw[agT Y,No,Aa]
 ·unfold prH Fs;rw[agT Y,JE,aa5,Ag,Nat.min_eq_left Y,Aa]
  rfl
 ·rw[show(d:Int)+((Am bs.length d m:Nat):Int)=((d+Am bs.length d m:Nat):Int) by omega]
  rfl
theorem akg(h:DI fold wss st wm bs.length 0 0=true):whH fold wss st wm bs=prH fold wss st wm bs bs.length:=by
 have h3:=(amp h (AR _) (bs.length:Int)).2.2.1;have Z:Am bs.length ((0:Nat):Int) (bs.length:Int)=bs.length:=by unfold Am;omega
 rw[Z,DD]at h3;rw[<-h3]
 rfl
end
section
variable {fold:Bool}{wss:Lq}
theorem Lj(Z:An fold wss=true)(frm:Int)(text:List Int):EL fold wss frm text=BQ fold wss 0 frm text:=by rw[amt (Fv Z).1 (λy Y=>((EI Z).2.2.1 y Y).1) (Fv Z).2 frm text,aaJ Z]
theorem aiO(Y:An fold wss=true):∃M:Nat,Au wss=(M:Int)/\(∀y∈wss,y.length<=M)/\1<=M/\M<=32:=by obtain⟨M,h1,h2,h3⟩:=acs wss;refine⟨M,h1,h2,?_,h3 32 (λv Z=>((EI Y).2.2.1 v Z).2)⟩;obtain⟨_,h4,h5,_⟩:=EI Y;obtain⟨v,Z⟩:=List.exists_mem_of_ne_nil _ h4;have:=(h5 v Z).1;have:=h2 v Z;omega
theorem aiK(Z:An fold wss=true)(frm:Int)(text:List Int)(at_ own:Nat)(k M:Nat)(A:∀y∈wss,y.length<=M)(B:at_+own<=text.length)(hk:k<=at_)(U:k=0∨M<=at_-k+1) :Dj (frm+at_) (BQ fold wss 0 (frm+k) ((text.drop k).take (at_-k+own)))=Gj (frm+at_) (frm+at_+own) (EL fold wss frm text):=by
 have H:(text.take at_).length=at_:=by rw[Ag];omega
 have I:((text.drop at_).take own).length=own:=by rw[Ag,List.length_drop];omega
 have X:=(al8 Z A frm (text.take at_) ((text.drop at_).take own) k (by rw[H];exact hk) (by rw[H];exact U)).1;rw[H,I]at X;have o:(text.take at_).drop k++(text.drop at_).take own=(text.drop k).take (at_-k+own):=by rw[List.take_add,List.drop_take,List.drop_drop,show k+(at_-k)=at_ by omega]
 have e2:text.take at_++(text.drop at_).take own=text.take (at_+own):=by rw[List.take_add]
 rw[o,e2]at X;have Y:(text.drop k).take (at_-k+own)=(text.drop k).take (at_-k+own):=rfl;have C:((text.drop k).take (at_-k+own)).length=at_-k+own:=by rw[Ag,List.length_drop];omega
 have D:0<(AB wss).length:=(AP.1 (CM wss)).1;have s:Dj (frm+at_) (BQ fold wss 0 (frm+k) ((text.drop k).take (at_-k+own)))=Gj (frm+at_) (frm+at_+own) (BQ fold wss 0 (frm+k) ((text.drop k).take (at_-k+own))):=by unfold Dj Gj;refine List.filter_congr λh N=>?_;have J:=(My (Fv Z).1 (λx Y=>((EI Z).2.2.1 x Y).1) _ 0 (frm+k) D h N).1;rw[C]at J;rw[Db];simp;omega
 rw[s,<-X,Lj Z]
 conv=>rhs;rw[<-Dx (at_+own) text,JE]
 unfold Gj;rw[List.filter_append];have v:(BQ fold wss (Bp fold wss 0 (text.take (at_+own))) (frm+((text.take (at_+own)).length:Int)) (text.drop (at_+own))).filter (λh=>decide (frm+(at_:Int)<h.1)&&decide (h.1<=frm+(at_:Int)+(own:Int)))=[]:=by
  rw[List.filter_eq_nil_iff];intro h N;have J:=(My (Fv Z).1 (λx Y=>((EI Z).2.2.1 x Y).1) _ _ _ (JY D _) h N).1;have V:(text.take (at_+own)).length=at_+own:=by rw[Ag];omega
  rw[V]at J;simp;omega
 rw[v,Cx]
theorem akj(V:An fold wss=true)(frm:Int)(text:List Int)(at_ own k M:Nat)(X:Au wss=(M:Int))(H:∀y∈wss,y.length<=M)(Y:at_+own<=text.length)(hk:k<=at_)(Z:k=0∨M<=at_-k+1)(J:at_-k+1<=M)(ho:1<=own)(U:own<=256)(C:0<=frm)(I:frm+at_<=4611686020574871551) :whH fold wss (frm+at_) ((at_-k:Nat):Int) ((text.drop k).take (at_-k+own))=Gj (frm+at_) (frm+at_+own) (EL fold wss frm text):=by
 have N:((text.drop k).take (at_-k+own)).length=at_-k+own:=by rw[Ag,List.length_drop];omega
 have D:0<(AB wss).length:=(AP.1 (CM wss)).1;have h0:DI fold wss (frm+at_) ((at_-k:Nat):Int) ((text.drop k).take (at_-k+own)).length 0 0=true:=by
  rw[N];unfold DI KA Dh;rw[V,X,Ve (show((0:Int)<=0/\(0:Int)<((AB wss).length:Int))/\(0:Int)<=0/\(0:Int)<=4611686020574871551 by omega),Ve (show 0<=frm+(at_:Int)/\frm+(at_:Int)<=4611686020574871551/\0<=((at_-k:Nat):Int)/\((at_-k:Nat):Int)<=(M:Int)-1/\((at_-k:Nat):Int)<=frm+(at_:Int)/\1<=((at_-k+own:Nat):Int)-((at_-k:Nat):Int)/\((at_-k+own:Nat):Int)-((at_-k:Nat):Int)<=256 by omega),Ve (show(0:Int)<=0/\(0:Int)<=((at_-k+own:Nat):Int) by omega)]
  rfl
 rw[akg h0];unfold prH;rw[Ap (AC _),show frm+(at_:Int)-((at_-k:Nat):Int)=frm+(k:Int) by omega];exact aiK V frm text at_ own k M H Y hk Z
end
def apq(S Z:Nat)(frm:Int)(text:List Int)(j:Nat)(x:apm):Prop:=j*S<text.length/\x.st=frm+((j*S:Nat):Int)/\x.wm=((min (Z-1) (j*S):Nat):Int)/\x.bs=(text.drop (j*S-min (Z-1) (j*S))).take (min (j*S+S) text.length-(j*S-min (Z-1) (j*S)))
section
variable {fold:Bool}{wss:Lq}
theorem amj(X:An fold wss=true)(frm:Int)(text:List Int)(F own:Nat)(h:F+own<=text.length) :Gj (frm+F) (frm+F+own) (EL fold wss frm text)=BQ fold wss (Bp fold wss 0 (text.take F)) (frm+F) ((text.drop F).take own):=by
 have V:0<(AB wss).length:=(AP.1 (CM wss)).1;have U:=λ(b:List Int)(z:Nat)(at_:Int)(J:z<(AB wss).length)=>My (fold:=fold) (Fv X).1 (λx Z=>((EI X).2.2.1 x Z).1) b z at_ J;have N:(text.take F).length=F:=by rw[Ag];omega
 have Y:((text.drop F).take own).length=own:=by rw[Ag,List.length_drop];omega
 have e:text=text.take F++((text.drop F).take own++(text.drop F).drop own):=by rw[Dx,Dx]
 rw[Lj X]
 conv=>lhs;rw[e]
 rw[JE,JE,N,Y];unfold Gj;rw[List.filter_append,List.filter_append,List.filter_eq_nil_iff.2,List.filter_eq_self.2,List.filter_eq_nil_iff.2,Av,Cx]
 ·intro x Z;have:=(U _ _ _ (JY (JY V _) _) x Z).1;simp;omega
 ·intro x Z;have:=(U _ _ _ (JY V _) x Z).1;rw[Y]at this;simp;omega
 ·intro x Z;have:=(U _ _ _ V x Z).1;rw[N]at this;simp;omega
theorem aiP(Y:An fold wss=true){S Z:Nat}{frm:Int}{text:List Int}{j:Nat}{x:apm}(I:Au wss=(Z:Int))(N:∀y∈wss,y.length<=Z)(J:1<=Z)(C:1<=S)(U:S<=256)(V:0<=frm)(X:frm<=4611686018427387904)(D:text.length<=200)(h:apq S Z frm text j x) :whH fold wss x.st x.wm x.bs=BQ fold wss (Bp fold wss 0 (text.take (j*S))) (frm+((j*S:Nat):Int)) ((text.drop (j*S)).take (min (j*S+S) text.length-j*S)):=by obtain⟨h1,h2,h3,h4⟩:=h;obtain⟨F,H⟩:∃F,j*S=F:=⟨_,rfl⟩;rw[H]at h1 h2 h3 h4⊢;rw[<-amj Y frm text F _ om,h2,h3,h4];have e:=akj Y frm text F (min (F+S) text.length-F) (F-min (Z-1) F) Z I N om om om om om om V om;rw[show F-(F-min (Z-1) F)=min (Z-1) F by omega]at e;rw[<-e,show min (Z-1) F+(min (F+S) text.length-F)=min (F+S) text.length-(F-min (Z-1) F) by omega]
end
end Go.Proofs.YtaamacoicojhnaaGreat
