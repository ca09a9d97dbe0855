/- Proofs over the given program, part 13. -/
import Derived.Test.YtaamacoicojhnaaGreatZB12
set_option linter.unusedVariables false
set_option linter.unusedSimpArgs false
set_option maxRecDepth 100000
set_option maxHeartbeats 16000000
open Go.Proofs.Tryz
open Go.Proofs.Tryz renaming prog→ZP
namespace Go.Proofs.YtaamacoicojhnaaGreat
open Go.RowKit Go.Sort
structure PcW where
 num:Int
 start:Int
 warm:Int
 a:Option Addr
 m:Nat
 c:Nat
 buf:Int
def avV (p:PcW):List Value:=[.int .i64 p.num,.int .i64 p.start,.int .i64 p.warm,.slice p.a p.m p.c,.int .i64 p.buf]
def alr (l:List PcW):List Value:=l.flatMap avV
theorem aeX (p:PcW)(l:List PcW):alr (p :: l)=avV p++alr l:=by simp [alr]
theorem alx:∀{l:List PcW} {i:Nat} {p:PcW},l[i]?=some p->(alr l)[i*5]?=some (.int .i64 p.num)/\(alr l)[i*5+1]?=some (.int .i64 p.start)/\(alr l)[i*5+2]?=some (.int .i64 p.warm)/\(alr l)[i*5+3]?=some (.slice p.a p.m p.c)/\(alr l)[i*5+4]?=some (.int .i64 p.buf)
 | [],i,p,h=>by simp at h
 | q :: l,0,p,h=>by
  cases awV h
  exact⟨rfl,rfl,rfl,rfl,rfl⟩
 | q :: l,i+1,p,h=>by
  have:=alx (l:=l) (i:=i) (p:=p) (by simpa using h);rw [aeX,show (i+1)*5=i*5+1+1+1+1+1 by omega];exact this
theorem anl:∀(l:List PcW) (i:Nat) (p:PcW),alr (l.set i p)=(((((alr l).set (i*5) (.int .i64 p.num)).set (i*5+1) (.int .i64 p.start)).set (i*5+2) (.int .i64 p.warm)).set (i*5+3) (.slice p.a p.m p.c)).set (i*5+4) (.int .i64 p.buf)
 | [],i,p=>by simp [alr]
 | q :: l,0,p=>by simp [aeX,avV]
 | q :: l,i+1,p=>by
  have:=anl l i p;rw [List.set_cons_succ,aeX,aeX,this,show (i+1)*5=i*5+1+1+1+1+1 by omega]
  rfl
structure abd (X:Nat->Prop)(Q B first many:Nat)(closed:Bool)(ps:List PcW)(w:World):Prop where
 box:w.heap[Q]?=some (.cells #[.slice (some ⟨B,0,none⟩) ps.length ps.length,.int .i64 (first:Int),.int .i64 (many:Int),.bool closed] 214 (0,0))
 places:w.heap[B]?=some (.cells (alr ps).toArray 126 (0,0))
 inX:X Q/\X B
 ne:Q≠B
 room:1<=ps.length/\ps.length<=16/\first<ps.length/\many<=ps.length
section
variable {X Y:Nat->Prop}{Q B first many:Nat}{closed:Bool}{ps:List PcW}{w w':World}
theorem abd.keep (h:abd X Q B first many closed ps w)(J:Chg Y w w')(N:∀k,k<w.heap.size->X k->¬Y k):abd X Q B first many closed ps w':=by
 have V:∀k o,w.heap[k]?=some o->X k->w'.heap[k]?=some o:=fun k o Z U=>(J.block k (awU.1 Z).1 (N k (awU.1 Z).1 U)).trans Z;exact⟨V _ _ h.box h.inX.1,V _ _ h.places h.inX.2,h.inX,h.ne,h.room⟩
theorem abd.below (h:abd X Q B first many closed ps w)(Z:Below w.heap.size w w'):abd X Q B first many closed ps w':=h.keep (Y:=fun _=>False) (.of_same Z) fun _ _ _ h=>h
theorem abd.wide (h:abd X Q B first many closed ps w)(Z:∀k,k<w.heap.size->X k->Y k):abd Y Q B first many closed ps w:=
 ⟨h.box,h.places,⟨Z _ (awU.1 h.box).1 h.inX.1,Z _ (awU.1 h.places).1 h.inX.2⟩,h.ne,h.room⟩
def abd.putW (w:World)(B i:Nat)(p:PcW):World:=((((w.setCell ⟨B,i*5,none⟩ (.int .i64 p.num)).setCell ⟨B,i*5+1,none⟩ (.int .i64 p.start)).setCell ⟨B,i*5+2,none⟩ (.int .i64 p.warm)).setCell ⟨B,i*5+3,none⟩ (.slice p.a p.m p.c)).setCell ⟨B,i*5+4,none⟩ (.int .i64 p.buf)
theorem abd.setP (h:abd X Q B first many closed ps w)(i:Nat)(p:PcW):abd X Q B first many closed (ps.set i p) (abd.putW w B i p)/\Chg X w (abd.putW w B i p):=by
 have h0:=h.places;have h1:=aa4 (i:=i*5) h0 (.int .i64 p.num);have h2:=aa4 (i:=i*5+1) h1 (.int .i64 p.start);have h3:=aa4 (i:=i*5+2) h2 (.int .i64 p.warm);have h4:=aa4 (i:=i*5+3) h3 (.slice p.a p.m p.c);have h5:=aa4 (i:=i*5+4) h4 (.int .i64 p.buf);rw [ayD,ayD,ayD,ayD,ayD,<-anl] at h5;have Z:Chg (fun k=>k=B) w (abd.putW w B i p):=by
  unfold abd.putW;exact (((((Chg.refl (fun k=>k=B) w).set (show B=B from rfl)).set (show B=B from rfl)).set (show B=B from rfl)).set (show B=B from rfl)).set (show B=B from rfl)
 have V:(abd.putW w B i p).heap[Q]?=w.heap[Q]?:=Z.block Q (awU.1 h.box).1 h.ne;exact⟨⟨by rw [axb];exact V.trans h.box,h5,h.inX,h.ne,by rw [axb];exact h.room⟩,Z.mono fun k _ e=>by rw [e];exact h.inX.2⟩
theorem abd.setM (h:abd X Q B first many closed ps w)(Z:Nat)(V:Z<=ps.length):abd X Q B first Z closed ps (w.setCell ⟨Q,2,none⟩ (.int .i64 (Z:Int)))/\Chg X w (w.setCell ⟨Q,2,none⟩ (.int .i64 (Z:Int))):=
 ⟨⟨aa4 (i:=2) h.box _,(axn w ⟨Q,2,none⟩ _ B h.ne.symm).trans h.places,h.inX,h.ne,h.room.1,h.room.2.1,h.room.2.2.1,V⟩,(Chg.refl X w).set h.inX.1⟩
theorem abd.setF (h:abd X Q B first many closed ps w)(Z:Nat)(V:Z<ps.length):abd X Q B Z many closed ps (w.setCell ⟨Q,1,none⟩ (.int .i64 (Z:Int)))/\Chg X w (w.setCell ⟨Q,1,none⟩ (.int .i64 (Z:Int))):=
 ⟨⟨aa4 (i:=1) h.box _,(axn w ⟨Q,1,none⟩ _ B h.ne.symm).trans h.places,h.inX,h.ne,h.room.1,h.room.2.1,V,h.room.2.2.2⟩,(Chg.refl X w).set h.inX.1⟩
theorem abd.setC (h:abd X Q B first many closed ps w)(c2:Bool):abd X Q B first many c2 ps (w.setCell ⟨Q,3,none⟩ (.bool c2))/\Chg X w (w.setCell ⟨Q,3,none⟩ (.bool c2)):=
 ⟨⟨aa4 (i:=3) h.box _,(axn w ⟨Q,3,none⟩ _ B h.ne.symm).trans h.places,h.inX,h.ne,h.room⟩,(Chg.refl X w).set h.inX.1⟩
end
theorem ajZ {X:Nat->Prop}{Q B first many:Nat}{closed:Bool}{ps:List PcW}(w:World)(h:abd X Q B first many closed ps w) :
  Calls ZP 237 #[.pointer (some ⟨Q,0,none⟩)] w fun e w'=>e=.returned (.int .i64 ((ps.length-many:Nat):Int))/\Below w.heap.size w w':=by
 have c0:w.cell? ⟨Q,0,none⟩=some (.slice (some ⟨B,0,none⟩) ps.length ps.length):=by simp [World.cell?,h.box]
 have c2:w.cell? ⟨Q,2,none⟩=some (.int .i64 (many:Int)):=by simp [World.cell?,h.box]
 have J:=ax3 (fun q=>aa2 w q);have N:=h.room;have U:IntKind.i64.wrap ((ps.length:Int)-(many:Int))=((ps.length-many:Nat):Int):=by rw [ax2];omega
 obtain⟨L,V⟩:∃L,ps.length=L:=⟨_,rfl⟩;rw [V] at c0 U ⊢;obtain⟨M,Z⟩:∃M,L-many=M:=⟨_,rfl⟩;rw [Z] at U ⊢;clear h N V Z;go_enter func237,ntmps237;go_upto_region 1 with fail
 go_big_quiet (fail)
 go_wp2;go_ret;exact⟨rfl,J.out _⟩
theorem am6 {X:Nat->Prop}{Q B first many:Nat}{closed:Bool}{ps:List PcW}(w:World)(h:abd X Q B first many closed ps w) :
  Calls ZP 71 #[.pointer (some ⟨Q,0,none⟩)] w fun e w'=>e=.returned (.bool closed)/\Below w.heap.size w w':=by
 have c0:w.cell? ⟨Q,3,none⟩=some (.bool closed):=by simp [World.cell?,h.box]
 clear h;go_enter func71,ntmps71;go_wp2;go_ret;exact⟨rfl,axf _ _⟩
theorem at6 {X:Nat->Prop}{Q B first many:Nat}{closed:Bool}{ps:List PcW}(w:World)(h:abd X Q B first many closed ps w) :
  Calls ZP 198 #[.pointer (some ⟨Q,0,none⟩)] w fun e w'=>e=.returned (.int .i64 (many:Int))/\Below w.heap.size w w':=by
 have c0:w.cell? ⟨Q,2,none⟩=some (.int .i64 (many:Int)):=by simp [World.cell?,h.box]
 clear h;go_enter func198,ntmps198;go_wp2;go_ret;exact⟨rfl,axf _ _⟩
theorem apC {X:Nat->Prop}{Q B first many:Nat}{closed:Bool}{ps:List PcW}(w:World)(h:abd X Q B first many closed ps w) :
  Calls ZP 194 #[.pointer (some ⟨Q,0,none⟩)] w fun e w'=>e=.returned (.int .i64 ((ps.length-many:Nat):Int))/\Below w.heap.size w w':=by
 have V:=ax3 (ajZ w h);clear h;go_enter func194,ntmps194
 go_wp2_with (go_at_call 237;refine V.out.mono ?_;rintro e N ⟨rfl,Z⟩;have U:=ax3 Z;clear Z)
 go_ret;exact⟨rfl,U.out⟩
theorem aow {X:Nat->Prop}{Q B first many:Nat}{closed:Bool}{ps:List PcW}(w:World)(h:abd X Q B first many closed ps w) :
  Calls ZP 197 #[.pointer (some ⟨Q,0,none⟩)] w fun e w'=>e=.returned (.bool (!closed))/\abd X Q B first many true ps w'/\Chg X w w':=by
 have c3:w.cell? ⟨Q,3,none⟩=some (.bool closed):=by simp [World.cell?,h.box]
 have I:w.frozen? ⟨Q,3,none⟩=false:=by simp [World.frozen?,h.box]
 obtain⟨V,Z⟩:=h.setC true;have J:=ax3 V;have N:=ax3 Z;have U:=ax3 h;clear h V Z
 cases closed with
 | true=>
  go_enter func197,ntmps197;go_wp2;go_ret;exact⟨rfl,U.out,Chg.refl _ _⟩
 | false=>
  go_enter func197,ntmps197;go_wp2;go_ret;exact⟨rfl,J.out,N.out⟩
theorem aqg {X:Nat->Prop}{Q B first many:Nat}{closed:Bool}{ps:List PcW}(p:PcW)(w:World)(h:abd X Q B first many closed ps w)(hm:many<ps.length) :
  Calls ZP 239 #[.pointer (some ⟨Q,0,none⟩),.agg #[.int .i64 p.num,.int .i64 p.start,.int .i64 p.warm,.slice p.a p.m p.c,.int .i64 p.buf]] w fun e w'=>(∃v,e=.returned v)/\abd X Q B first (many+1) closed (ps.set ((first+many) % ps.length) p) w'/\Chg X w w':=by
 obtain⟨W,hW⟩:∃W,W=w.alloc (.cells #[.int .i64 p.num,.int .i64 p.start,.int .i64 p.warm,.slice p.a p.m p.c,.int .i64 p.buf] 126):=⟨_,rfl⟩;have C:Below w.heap.size w W:=by rw [hW];exact aa1 _ _
 have Z:=h.below C;have U:W.heap[w.heap.size]?=some (.cells #[.int .i64 p.num,.int .i64 p.start,.int .i64 p.warm,.slice p.a p.m p.c,.int .i64 p.buf] 126 (0,0)):=by rw [hW];exact axg _ _
 have x0:W.cell? ⟨w.heap.size,0,none⟩=some (.int .i64 p.num):=by simp [World.cell?,U]
 have x1:W.cell? ⟨w.heap.size,1,none⟩=some (.int .i64 p.start):=by simp [World.cell?,U]
 have x2:W.cell? ⟨w.heap.size,2,none⟩=some (.int .i64 p.warm):=by simp [World.cell?,U]
 have x3:W.cell? ⟨w.heap.size,3,none⟩=some (.slice p.a p.m p.c):=by simp [World.cell?,U]
 have x4:W.cell? ⟨w.heap.size,4,none⟩=some (.int .i64 p.buf):=by simp [World.cell?,U]
 have c0:W.cell? ⟨Q,0,none⟩=some (.slice (some ⟨B,0,none⟩) ps.length ps.length):=by simp [World.cell?,Z.box]
 have c1:W.cell? ⟨Q,1,none⟩=some (.int .i64 (first:Int)):=by simp [World.cell?,Z.box]
 have c2:W.cell? ⟨Q,2,none⟩=some (.int .i64 (many:Int)):=by simp [World.cell?,Z.box]
 obtain⟨r1,r2,r3,r4⟩:=h.room;obtain⟨L,hL⟩:∃L,ps.length=L:=⟨_,rfl⟩;have e1:IntKind.i64.wrap ((first:Int)+(many:Int))=((first+many:Nat):Int):=by rw [ax2];omega
 have e2:((first+many:Nat):Int).tmod (L:Int)=(((first+many) % L:Nat):Int):=by rw [ay2 (by omega)];simp
 have J:(first+many) % L<L:=ay3 _ (by omega);obtain⟨s,j⟩:∃s,first+many=s:=⟨_,rfl⟩;obtain⟨i,hi⟩:∃i,s % L=i:=⟨_,rfl⟩;rw [hL] at c0 ⊢;rw [j] at e1 e2 J ⊢;rw [hi] at e2 J ⊢;have i0:(0:Int)<=(i:Int):=by omega
 have i1:(i:Int)<(L:Int):=by omega
 have z0:¬(L:Int)=0:=by omega
 have z1:¬L=0:=by omega
 obtain⟨q,hq⟩:∃q,ps[i]?=some q:=⟨_,ay4 (by omega)⟩;obtain⟨o,x,y,z,A⟩:=alx hq;have d0:W.cell? ⟨B,i*5,none⟩=some (.int .i64 q.num):=by simp [World.cell?,Z.places];exact o
 have f0:W.frozen? ⟨B,i*5,none⟩=false:=by simp [World.frozen?,Z.places]
 have d1:W.cell? ⟨B,i*5+1,none⟩=some (.int .i64 q.start):=by simp [World.cell?,Z.places];exact x
 have f1:W.frozen? ⟨B,i*5+1,none⟩=false:=by simp [World.frozen?,Z.places]
 have d2:W.cell? ⟨B,i*5+2,none⟩=some (.int .i64 q.warm):=by simp [World.cell?,Z.places];exact y
 have f2:W.frozen? ⟨B,i*5+2,none⟩=false:=by simp [World.frozen?,Z.places]
 have d3:W.cell? ⟨B,i*5+3,none⟩=some (.slice q.a q.m q.c):=by simp [World.cell?,Z.places];exact z
 have f3:W.frozen? ⟨B,i*5+3,none⟩=false:=by simp [World.frozen?,Z.places]
 have d4:W.cell? ⟨B,i*5+4,none⟩=some (.int .i64 q.buf):=by simp [World.cell?,Z.places];exact A
 have f4:W.frozen? ⟨B,i*5+4,none⟩=false:=by simp [World.frozen?,Z.places]
 have H:abd X Q B first many closed ps W.drew:=Z.below (aa2 W 1);obtain⟨N,D⟩:=H.setP i p;obtain⟨V,I⟩:∃V,V=(abd.putW W B i p).drew:=⟨_,rfl⟩;have N:abd X Q B first many closed (ps.set i p) V:=by rw [I];exact N
 have D:Chg X W V:=by rw [I];exact (Chg.of_same (aa2 W 1)).then D
 have k2:V.cell? ⟨Q,2,none⟩=some (.int .i64 (many:Int)):=by simp [World.cell?,N.box]
 have l2:V.frozen? ⟨Q,2,none⟩=false:=by simp [World.frozen?,N.box]
 have ew:IntKind.i64.wrap ((many:Int)+1)=(many:Int)+1:=by rw [ax2];omega
 obtain⟨s1,s2⟩:=N.setM (many+1) (by rw [axb];omega);have S1:=ax3 s1;have S2:=ax3 (((Chg.of_same C).then D).then s2);unfold abd.putW at I;clear h Z U hL j hi hq o x y z A H N D s1 s2 r1 r2 r3 r4 C;go_enter func239,ntmps239;go_upto_region 1 with fail
 rw [<-hW];clear hW
 go_region
 rw [<-I];clear I c0 c1 c2 d0 f0 x0 d1 f1 x1 d2 f2 x2 d3 f3 x3 d4 f4 x4;go_wp2
 go_end0
 exact⟨⟨_,rfl⟩,S1.out,S2.out⟩
structure PAd where
 P:Nat
 m:Nat
 S:Nat
 Kk:Nat
 Bb:Nat
 Bu:Nat
 Bd:Nat
 Q:Nat
 QB:Nat
 G:Nat
 GB:Nat
 O:Nat
 OB:Nat
 TT:Nat
 tc:Nat
 R:Nat
 Wk:Nat->Nat
 M:Nat
 E:Nat
 mR:Nat
 mW:Nat->Nat
 mM:Nat
 mE:Nat
 q:Nat
 Wm:World
def mvP (f r:Nat):Value:=.func (.func f) #[.pointer (some ⟨r,0,none⟩)] #[]
def acw:Value:=.func (.func 141) #[] #[]
def ary (U V:Value):Value:=.agg #[U,V]
def akJ (w:World)(r:Nat)(f:Nat->Option Value):Prop:=∃es V,w.heap[r]?=some (.map es V)/\∀k v,f k=some v->∃i,Instr.findNow (.int .u8) (.int .u8 (k:Int)) es.toList 0=some (some (i,v))
def al9 (P at_ V mp:Nat)(N U:Value):List Value:=[.pointer (some ⟨P,0,none⟩),.int .u8 (at_:Int),.int .u8 (V:Int),.map (some mp),N,U]
def SlD (Z:Nat->Prop)(w:World)(a:Option Addr)(m:Nat)(h:List aam):Prop:=SlK 2 w a m (aad h)/\(m≠0->∀q,a=some q->Z q.block)
def ByD (Z:Nat->Prop)(w:World)(a:Option Addr)(m:Nat)(h:List Int):Prop:=Bys w a m h/\(m≠0->∀q,a=some q->Z q.block)
def PcD (Z:Nat->Prop)(w:World)(p:PcW)(b:aeG):Prop:=p.num=b.num/\p.start=b.start/\p.warm=b.warm/\p.buf=b.buf/\ByD Z w p.a p.m b.data
def RgD (Z:Nat->Prop)(w:World)(p:PlW)(x:Option (List aam)):Prop:=match x with
 | none=>p.2=false
 | some h=>p.2=true/\SlD Z w p.1.1 p.1.2.1 h/\p.1.2.1<=p.1.2.2
def adz (A:PAd)(c:CfM)(s:PlM)(V:Value):Array Value:=
 #[.pointer (some ⟨A.m,0,none⟩),.int .i64 (c.W:Int),.int .i64 (c.K:Int),.int .i64 (c.R:Int),.int .i64 (c.Q:Int),.int .i64 (c.O:Int),.int .i64 (c.S:Int),.int .i64 (c.F:Int),.int .i64 (c.wm:Int),
  .pointer (some ⟨A.S,0,none⟩),.pointer (some ⟨A.Kk,0,none⟩),.pointer (some ⟨A.Bb,0,none⟩),.pointer (some ⟨A.Q,0,none⟩),.pointer (some ⟨A.G,0,none⟩),.pointer (some ⟨A.O,0,none⟩),
  .slice (some ⟨A.TT,0,none⟩) (c.W+3) A.tc,.int .i64 (s.number:Int),.int .i64 (s.read:Int),V,.bool s.cancelled]
def rdV (A:PAd)(r:RdM)(V:Value):Array Value:=
 (al9 A.P r.ph 5 A.mR acw (mvP 146 A.R)++[.bool r.holds,.int .i64 (r.buf:Int),.int .i64 (r.warm:Int),.int .i64 (r.own:Int),.int .i64 (r.ahead:Int),V,.bool r.ended]).toArray
def wkV (A:PAd)(i:Nat)(x:WkM)(p:PcW)(V:Value):Array Value:=
 (al9 A.P x.ph 4 (A.mW i) (mvP 151 (A.Wk i)) (mvP 152 (A.Wk i))++avV p++[.int .i64 (x.node:Int),.int .i64 (x.done:Int),V]).toArray
def mgV (A:PAd)(ph:Nat)(V:Value):Array Value:=(al9 A.P ph 3 A.mM acw (mvP 157 A.M)++[V]).toArray
def emV (A:PAd)(ph:Nat):Array Value:=(al9 A.P ph 2 A.mE (mvP 158 A.E) (mvP 160 A.E)).toArray
def stR (A:PAd):Nat->Option Value
 | 1=>some (ary (mvP 139 A.R) (mvP 140 A.R))
 | 2=>some (ary acw (mvP 142 A.R))
 | 3=>some (ary (mvP 143 A.R) (mvP 144 A.R))
 | 4=>some (ary acw (mvP 145 A.R))
 | _=>none
def stW (A:PAd)(i:Nat):Nat->Option Value
 | 1=>some (ary (mvP 147 (A.Wk i)) (mvP 148 (A.Wk i)))
 | 2=>some (ary acw (mvP 149 (A.Wk i)))
 | 3=>some (ary acw (mvP 150 (A.Wk i)))
 | _=>none
def stM (A:PAd):Nat->Option Value
 | 1=>some (ary (mvP 153 A.M) (mvP 154 A.M))
 | 2=>some (ary (mvP 155 A.M) (mvP 156 A.M))
 | _=>none
def stE (A:PAd):Nat->Option Value
 | 1=>some (ary (mvP 158 A.E) (mvP 159 A.E))
 | _=>none
def as3 (A:PAd)(c:CfM)(t:Nat):Value:=
 if t=0 then .iface 175 (.pointer (some ⟨A.R,0,none⟩)) else if t<=c.W then .iface 177 (.pointer (some ⟨A.Wk (t-1),0,none⟩)) else if t=c.W+1 then .iface 179 (.pointer (some ⟨A.M,0,none⟩)) else .iface 181 (.pointer (some ⟨A.E,0,none⟩))
def afj (q:Nat)(W V:World):Prop:=W.heap.size<=V.heap.size/\∀k,q<=k->k<W.heap.size->(∀l,W.heap[k]?≠some (Obj.deferred l))->V.heap[k]?=W.heap[k]?
def asm (m:Nat)(c:CfM)(V:World):Prop:=∀(J U wm:Nat) (b:Option Addr) (n I:Nat) (N:List Int) (z d:Nat),Bys V b n N->n<=900000->
 Calls ZP 200 #[.pointer (some ⟨m,0,none⟩),.agg #[.int .i64 (J:Int),.int .i64 (U:Int),.int .i64 (wm:Int),.slice b n I],.agg #[.int .i64 (z:Int),.int .i64 (d:Int)],.int .i64 (c.S:Int)] V fun e w'=>
  ∃v,e=.returned (.tuple #[.agg #[.int .i64 ((c.scan U wm N z d).1:Int),.int .i64 ((c.scan U wm N z d).2.1:Int)],v,.bool (c.scan U wm N z d).2.2.2])/\adV w' V.heap.size v (c.scan U wm N z d).2.2.1/\Below V.heap.size V w'
section
variable (A:PAd)(c:CfM)(s:PlM)(X Z:Nat->Prop)(w:World)
structure apx:Prop where
 tasks:∀t,t<c.W+3->w.cell? ⟨A.TT,t,none⟩=some (as3 A c t)
 tasksZ:Z A.TT/\A.TT<w.heap.size
 mR:akJ w A.mR (stR A)/\Z A.mR
 mW:∀i,i<c.W->akJ w (A.mW i) (stW A i)/\Z (A.mW i)
 mM:akJ w A.mM (stM A)/\Z A.mM
 mE:akJ w A.mE (stE A)/\Z A.mE
 mach:(∀V,afj A.q A.Wm V->asm A.m c V)/\afj A.q A.Wm w/\∀k,A.q<=k->k<A.Wm.heap.size->Z k
 tc:c.W+3<=A.tc
def aqq:Prop:=∃V,w.heap[A.P]?=some (.cells (adz A c s V) 109 (0,0))/\X A.P/\afd X w 116 2 V s.took.length (aad s.took)/\V.ownBlock≠some A.P
def ar4:Prop:=∃a n U V,adS X A.S a n U V s.rs c.br s.told w/\n<=1000000
def aq2:Prop:=∃a n U V,afh X A.Kk a n U V c.ans s.tk s.off w
def aln:Prop:=ahM X A.Bb A.Bu A.Bd (c.K+c.wm) (s.fr.map fun x:Nat=>(x:Int)) s.us s.ds w
def ahl:Prop:=∃first V,abd X A.Q A.QB first s.q.length s.shut V w/\V.length=c.Q/\∀i b,s.q[i]?=some b->∃p,V[(first+i) % c.Q]?=some p/\PcD Z w p b
def agp:Prop:=∃V,adQ X A.G A.GB s.next V w/\V.length=c.R/\s.rg.length=c.R/\∀i x,s.rg[i]?=some x->∃p,V[(s.next+i) % c.R]?=some p/\RgD Z w p x
def ag2:Prop:=∃first V,ab9 X A.O A.OB first s.out.length s.ended V w/\V.length=c.O/\∀i h,s.out[i]?=some h->V[(first+i) % c.O]?=some h
def ap5:Prop:=∃V,w.heap[A.R]?=some (.cells (rdV A s.rd V) 245 (0,0))/\X A.R/\ack X w V s.rd.tail/\V.ownBlock≠some A.R
def arR:Prop:=∃a m V,w.heap[A.M]?=some (.cells (mgV A s.mph (.slice a m V)) 251 (0,0))/\X A.M/\SlD Z w a m s.left/\m<=V
def ano:Prop:=w.heap[A.E]?=some (.cells (emV A s.eph) 253 (0,0))/\X A.E
def abH (i:Nat):Prop:=match s.wk[i]? with
 | none=>True
 | some x=>∃p V,w.heap[A.Wk i]?=some (.cells (wkV A i x p V) 249 (0,0))/\X (A.Wk i)/\PcD Z w p x.blk/\afd (fun k=>X k∨Z k) w 116 2 V x.hits.length (aad x.hits)/\V.ownBlock≠some (A.Wk i)/\(x.ph≠3->∀g,V.ownBlock=some g->X g)
def aar:Nat->Prop
 | 0=>apx A c Z w
 | 1=>aqq A c s X w
 | 2=>ar4 A c s X w
 | 3=>aq2 A c s X w
 | 4=>aln A c s X w
 | 5=>ahl A c s X Z w
 | 6=>agp A c s X Z w
 | 7=>ag2 A c s X w
 | 8=>ap5 A s X w
 | 9=>arR A s X Z w
 | 10=>ano A s X w
 | i+11=>abH A s X Z w i
end
section
variable {A:PAd}{c:CfM}{s s':PlM}{X X' Y Z Z':Nat->Prop}{w w':World}
theorem akJ.keep {r:Nat}{f:Nat->Option Value}(h:akJ w r f)(U:Chg Y w w')(V:¬Y r):akJ w' r f:=by
 obtain⟨es,N,h1,h2⟩:=h;exact⟨es,N,(U.block r (awU.1 h1).1 V).trans h1,h2⟩
theorem SlD.keep {a:Option Addr}{m:Nat}{h:List aam}(V:SlD Z w a m h)(N:Chg Y w w')(J:∀k,k<w.heap.size->Z k->¬Y k):SlD Z w' a m h:=by
 refine⟨⟨V.1.1,?_⟩,V.2⟩
 by_cases h0:m=0
 · exact .inl h0
 · obtain⟨b,o,e,U,I⟩:=V.1.2.resolve_left h0;refine .inr ⟨b,o,e,ax6 U N.size,fun i u H=>?_⟩;have D:w'.heap[b]?=w.heap[b]?:=N.block b U (J b U (V.2 h0 _ e));rw [axp (a:=⟨b,o+i,none⟩) D];exact I i u H
theorem ByD.keep {a:Option Addr}{m:Nat}{h:List Int}(V:ByD Z w a m h)(U:Chg Y w w')(N:∀k,k<w.heap.size->Z k->¬Y k):ByD Z w' a m h:=
 ⟨V.1.same U.size fun h0 q e=>U.block _ (V.1.lt h0 q e) (N _ (V.1.lt h0 q e) (V.2 h0 q e)),V.2⟩
theorem SlD.lt {a:Option Addr}{m:Nat}{h:List aam}(V:SlD Z w a m h)(h0:m≠0):∀q,a=some q->q.block<w.heap.size:=fun q U=>by
 obtain⟨g,o,e,N,_⟩:=V.1.2.resolve_left h0;rw [U] at e
 cases awV e
 exact N
theorem SlD.wide {a:Option Addr}{m:Nat}{h:List aam}(V:SlD Z w a m h)(U:∀k,k<w.heap.size->Z k->Z' k):SlD Z' w a m h:=⟨V.1,fun h0 q e=>U _ (V.lt h0 q e) (V.2 h0 q e)⟩
theorem ByD.wide {a:Option Addr}{m:Nat}{h:List Int}(V:ByD Z w a m h)(U:∀k,k<w.heap.size->Z k->Z' k):ByD Z' w a m h:=⟨V.1,fun h0 q e=>U _ (V.1.lt h0 q e) (V.2 h0 q e)⟩
theorem PcD.keep {p:PcW}{b:aeG}(h:PcD Z w p b)(U:Chg Y w w')(V:∀k,k<w.heap.size->Z k->¬Y k):PcD Z w' p b:=⟨h.1,h.2.1,h.2.2.1,h.2.2.2.1,h.2.2.2.2.keep U V⟩
theorem PcD.wide {p:PcW}{b:aeG}(h:PcD Z w p b)(V:∀k,k<w.heap.size->Z k->Z' k):PcD Z' w p b:=⟨h.1,h.2.1,h.2.2.1,h.2.2.2.1,h.2.2.2.2.wide V⟩
theorem RgD.keep {p:PlW}{x:Option (List aam)}(h:RgD Z w p x)(U:Chg Y w w')(V:∀k,k<w.heap.size->Z k->¬Y k):RgD Z w' p x:=by
 cases x with
 | none=>exact h
 | some l=>exact⟨h.1,h.2.1.keep U V,h.2.2⟩
theorem RgD.wide {p:PlW}{x:Option (List aam)}(h:RgD Z w p x)(V:∀k,k<w.heap.size->Z k->Z' k):RgD Z' w p x:=by
 cases x with
 | none=>exact h
 | some l=>exact⟨h.1,h.2.1.wide V,h.2.2⟩
theorem aar.keep {t:Nat}(h:aar A c s X Z w t)(V:Chg Y w w')(N:∀k,k<w.heap.size->X k->¬Y k)(U:∀k,k<w.heap.size->Z k->¬Y k):aar A c s X Z w' t:=by
 have D:∀k o,w.heap[k]?=some o->X k->w'.heap[k]?=some o:=fun k o C h=>(V.block k (awU.1 C).1 (N k (awU.1 C).1 h)).trans C
 match t,h with
 | 0,h=>
  have I:∀r f,akJ w r f->r<w.heap.size:=fun r f ⟨es,v,h1,_⟩=>(awU.1 h1).1;have h:apx A c Z w:=h;exact⟨fun t y=>by rw [axp (a:=⟨A.TT,t,none⟩) (V.block _ h.tasksZ.2 (U _ h.tasksZ.2 h.tasksZ.1))];exact h.tasks t y,⟨h.tasksZ.1,ax6 h.tasksZ.2 V.size⟩,
   ⟨h.mR.1.keep V (U _ (I _ _ h.mR.1) h.mR.2),h.mR.2⟩,fun i J=>⟨(h.mW i J).1.keep V (U _ (I _ _ (h.mW i J).1) (h.mW i J).2),(h.mW i J).2⟩,⟨h.mM.1.keep V (U _ (I _ _ h.mM.1) h.mM.2),h.mM.2⟩,⟨h.mE.1.keep V (U _ (I _ _ h.mE.1) h.mE.2),h.mE.2⟩,
   ⟨h.mach.1,⟨awT h.mach.2.1.1 V.size,fun k h1 h2 h3=>(V.block k (ax6 h2 h.mach.2.1.1) (U k (ax6 h2 h.mach.2.1.1) (h.mach.2.2 k h1 h2))).trans (h.mach.2.1.2 k h1 h2 h3)⟩,h.mach.2.2⟩,h.tc⟩
 | 1,h=>exact let ⟨tv,h1,h2,h3,h4⟩:=h;⟨tv,D _ _ h1 h2,h2,h3.keep V fun g H=>N g (h3.lt g H) (h3.2 g H),h4⟩
 | 2,h=>exact let ⟨a,n,cc,vs,h1,h2⟩:=h;⟨a,n,cc,vs,h1.keep V N,h2⟩
 | 3,h=>exact let ⟨a,n,cc,tv,h1⟩:=h;⟨a,n,cc,tv,h1.keep V N⟩
 | 4,h=>exact let ⟨lab,fv,dv,h1⟩:=h;⟨lab,fv,dv,h1.keep V N⟩
 | 5,h=>exact let ⟨first,ps,h1,h2,h3⟩:=h;⟨first,ps,h1.keep V N,h2,fun i b J=>let ⟨p,g1,g2⟩:=h3 i b J;⟨p,g1,g2.keep V U⟩⟩
 | 6,h=>exact let ⟨pl,h1,h2,h0,h3⟩:=h;⟨pl,h1.keep V N,h2,h0,fun i b J=>let ⟨p,g1,g2⟩:=h3 i b J;⟨p,g1,g2.keep V U⟩⟩
 | 7,h=>exact let ⟨first,ps,h1,h2,h3⟩:=h;⟨first,ps,h1.keep V N,h2,h3⟩
 | 8,h=>exact let ⟨tv,h1,h2,h3,h4⟩:=h;⟨tv,D _ _ h1 h2,h2,h3.keep V fun g H=>N g (h3.lt g H).1 (h3.lt g H).2,h4⟩
 | 9,h=>exact let ⟨a,m,cc,h1,h2,h3,h4⟩:=h;⟨a,m,cc,D _ _ h1 h2,h2,h3.keep V U,h4⟩
 | 10,h=>exact⟨D _ _ h.1 h.2,h.2⟩
 | i+11,h=>
  show abH A s X Z w' i;have h:abH A s X Z w i:=h;unfold abH at h ⊢
  cases J:s.wk[i]? with
  | none=>trivial
  | some x=>
   rw [J] at h;obtain⟨p,z,h1,h2,h3,h4,h5,h6⟩:=h;exact⟨p,z,D _ _ h1 h2,h2,h3.keep V U,h4.keep V fun g H B=>(h4.2 g H).elim (fun e=>N g (h4.lt g H) e B) fun e=>U g (h4.lt g H) e B,h5,h6⟩
theorem aar.wide {t:Nat}(h:aar A c s X Z w t)(U:∀k,k<w.heap.size->X k->X' k)(V:∀k,k<w.heap.size->Z k->Z' k):aar A c s X' Z' w t:=by
 have I:∀k o,w.heap[k]?=some o->X k->X' k:=fun k o H h=>U k (awU.1 H).1 h
 match t,h with
 | 0,h=>
  have N:∀r f,akJ w r f->r<w.heap.size:=fun r f ⟨es,B,h1,_⟩=>(awU.1 h1).1;have h:apx A c Z w:=h;exact⟨h.tasks,⟨V _ h.tasksZ.2 h.tasksZ.1,h.tasksZ.2⟩,⟨h.mR.1,V _ (N _ _ h.mR.1) h.mR.2⟩,fun i J=>⟨(h.mW i J).1,V _ (N _ _ (h.mW i J).1) (h.mW i J).2⟩,⟨h.mM.1,V _ (N _ _ h.mM.1) h.mM.2⟩,⟨h.mE.1,V _ (N _ _ h.mE.1) h.mE.2⟩,
   ⟨h.mach.1,h.mach.2.1,fun k h1 h2=>V k (ax6 h2 h.mach.2.1.1) (h.mach.2.2 k h1 h2)⟩,h.tc⟩
 | 1,h=>exact let ⟨tv,h1,h2,h3,h4⟩:=h;⟨tv,h1,I _ _ h1 h2,h3.wide U,h4⟩
 | 2,h=>exact let ⟨a,n,cc,vs,h1,h2⟩:=h;⟨a,n,cc,vs,h1.wide U,h2⟩
 | 3,h=>exact let ⟨a,n,cc,tv,h1⟩:=h;⟨a,n,cc,tv,h1.wide U⟩
 | 4,h=>exact let ⟨lab,fv,dv,h1⟩:=h;⟨lab,fv,dv,h1.wide U⟩
 | 5,h=>exact let ⟨first,ps,h1,h2,h3⟩:=h;⟨first,ps,h1.wide U,h2,fun i b J=>let ⟨p,g1,g2⟩:=h3 i b J;⟨p,g1,g2.wide V⟩⟩
 | 6,h=>exact let ⟨pl,h1,h2,h0,h3⟩:=h;⟨pl,h1.wide U,h2,h0,fun i b J=>let ⟨p,g1,g2⟩:=h3 i b J;⟨p,g1,g2.wide V⟩⟩
 | 7,h=>exact let ⟨first,ps,h1,h2,h3⟩:=h;⟨first,ps,h1.wide U,h2,h3⟩
 | 8,h=>exact let ⟨tv,h1,h2,h3,h4⟩:=h;⟨tv,h1,I _ _ h1 h2,h3.wide U,h4⟩
 | 9,h=>exact let ⟨a,m,cc,h1,h2,h3,h4⟩:=h;⟨a,m,cc,h1,I _ _ h1 h2,h3.wide V,h4⟩
 | 10,h=>exact⟨h.1,I _ _ h.1 h.2⟩
 | i+11,h=>
  show abH A s X' Z' w i;have h:abH A s X Z w i:=h;unfold abH at h ⊢
  cases J:s.wk[i]? with
  | none=>trivial
  | some x=>
   rw [J] at h;obtain⟨p,C,h1,h2,h3,h4,h5,h6⟩:=h;exact⟨p,C,h1,I _ _ h1 h2,h3.wide V,h4.wide fun k H e=>e.imp (U k H) (V k H),h5,fun e g D=>U g (h4.lt g D) (h6 e g D)⟩
end
structure aa8 (A:PAd)(c:CfM)(o:Nat->Nat)(s:PlM)(w:World):Prop where
 part:∀t,t<1000->aar A c s (fun k=>o k=t) (fun k=>o k=0) w t
 out:∀k,w.heap.size<=k->o k=1000000
def alp (o:Nat->Nat)(n V t:Nat)(k:Nat):Nat:=if k<n then o k else if k<V then t else 1000000
def as1 (o:Nat->Nat)(g:Option Nat)(k:Nat):Nat:=if g=some k then 0 else o k
section
variable {A:PAd}{c:CfM}{s s':PlM}{o:Nat->Nat}{w w':World}
theorem abK {n V t k:Nat}(h:k<n):alp o n V t k=o k:=if_pos h
theorem ajw {n V t k:Nat}(h:n<=k)(h2:k<V):alp o n V t k=t:=by unfold alp;rw [if_neg (by omega),if_pos h2]
theorem agl {n V t k:Nat}(h:n<=k)(h2:V<=k):alp o n V t k=1000000:=by unfold alp;rw [if_neg (by omega),if_neg (by omega)]
theorem aa8.upd (h:aa8 A c o s w)(t:Nat)(z:t≠0)(B:t<1000)(C:Chg (fun k=>o k=t) w w')(x:aar A c s' (fun k=>o k=t∨w.heap.size<=k) (fun k=>o k=0) w' t)
  (y:∀u X Z V,u≠t->aar A c s X Z V u->aar A c s' X Z V u):aa8 A c (alp o w.heap.size w'.heap.size t) s' w':=by
 have D:∀k,k<w'.heap.size->o k=0->alp o w.heap.size w'.heap.size t k=0:=fun k U h0=>by
  by_cases N:k<w.heap.size
  · rw [abK N];exact h0
  · have:=h.out k (by omega);omega
 refine⟨fun u I=>?_,fun k U=>agl (awT C.size U) U⟩
 by_cases H:u=t
 ·
  subst H;refine x.wide (fun k U J=>?_) D
  by_cases N:k<w.heap.size
  · rw [abK N];exact J.resolve_right (by omega)
  · exact ajw (by omega) U
 ·
  refine ((y u _ _ _ H (h.part u I)).keep C (fun k _ h1 h2=>H (h1.symm.trans h2)) (fun k _ h1 h2=>z (h2.symm.trans h1))).wide (fun k U J=>?_) D
  by_cases N:k<w.heap.size
  · rw [abK N];exact J
  · have:=h.out k (by omega);omega
theorem aa8.grow (h:aa8 A c o s w)(t:Nat)(I:t<1000)(J:Below w.heap.size w w'):aa8 A c (alp o w.heap.size w'.heap.size t) s w':=by
 refine⟨fun u U=>?_,fun k V=>agl (awT J.size V) V⟩;refine (((h.part u U).keep (Y:=fun _=>False) (.of_same J) (fun _ _ _ h=>h) (fun _ _ _ h=>h))).wide (fun k V N=>?_) (fun k V N=>?_)
 all_goals
  by_cases H:k<w.heap.size
  · rw [abK H];exact N
  · have:=h.out k (by omega);omega
theorem aa8.freeze (h:aa8 A c o s w)(t:Nat)(g:Option Nat)(H:∀k,g=some k->k<w.heap.size/\(o k=t∨o k=0))(z:t≠0)(C:aar A c s' (fun k=>o k=t/\g≠some k) (fun k=>o k=0∨g=some k) w t)
  (D:∀u X Z V,u≠t->aar A c s X Z V u->aar A c s' X Z V u):aa8 A c (as1 o g) s' w:=by
 refine⟨fun u J=>?_,fun k N=>?_⟩
 ·
  by_cases I:u=t
  ·
   subst I;refine C.wide (fun k N U=>?_) (fun k N U=>?_)
   · unfold as1;rw [if_neg U.2];exact U.1
   ·
    unfold as1;split
    · rfl
    · exact U.resolve_right (by assumption)
  ·
   refine (D u _ _ _ I (h.part u J)).wide (fun k N U=>?_) (fun k N U=>?_)
   ·
    unfold as1;split
    ·
     rename_i e
     rcases (H k e).2 with B | B<;>omega
    · exact U
   ·
    unfold as1;split
    · rfl
    · exact U
 · unfold as1;rw [if_neg fun e=>by have:=(H k e).1;omega];exact h.out k N
end
section
variable {A:PAd}{c:CfM}{s s':PlM}{o:Nat->Nat}{w w':World}
theorem aar.congr (t:Nat)
  (h1:t=1∨s'.number=s.number/\s'.read=s.read/\s'.took=s.took/\s'.cancelled=s.cancelled:=by first | exact .inl rfl | exact .inr ⟨rfl,rfl,rfl,rfl⟩)
  (h2:t=2∨s'.rs=s.rs/\s'.told=s.told:=by first | exact .inl rfl | exact .inr ⟨rfl,rfl⟩)
  (h3:t=3∨s'.tk=s.tk/\s'.off=s.off:=by first | exact .inl rfl | exact .inr ⟨rfl,rfl⟩)
  (h4:t=4∨s'.fr=s.fr/\s'.us=s.us/\s'.ds=s.ds:=by first | exact .inl rfl | exact .inr ⟨rfl,rfl,rfl⟩)
  (h5:t=5∨s'.q=s.q/\s'.shut=s.shut:=by first | exact .inl rfl | exact .inr ⟨rfl,rfl⟩)
  (h6:t=6∨s'.next=s.next/\s'.rg=s.rg:=by first | exact .inl rfl | exact .inr ⟨rfl,rfl⟩)
  (h7:t=7∨s'.out=s.out/\s'.ended=s.ended:=by first | exact .inl rfl | exact .inr ⟨rfl,rfl⟩)
  (h8:t=8∨s'.rd=s.rd:=by first | exact .inl rfl | exact .inr rfl)
  (h9:t=9∨s'.mph=s.mph/\s'.left=s.left:=by first | exact .inl rfl | exact .inr ⟨rfl,rfl⟩)
  (h10:t=10∨s'.eph=s.eph:=by first | exact .inl rfl | exact .inr rfl)
  (h11:∀j,t≠j+11->s'.wk[j]?=s.wk[j]?:=by exact fun _ _=>rfl) :
  ∀u X Z V,u≠t->aar A c s X Z V u->aar A c s' X Z V u:=fun u X Z V Y h=>by
 match u,Y,h with
 | 0,_,h=>exact h
 | 1,Y,h=>
  obtain⟨U,N,J,I⟩:=h1.resolve_left fun e=>Y e.symm;show aqq A c s' X V;have h:aqq A c s X V:=h;unfold aqq adz at h ⊢;rw [U,N,J,I];exact h
 | 2,Y,h=>
  obtain⟨U,N⟩:=h2.resolve_left fun e=>Y e.symm;show ar4 A c s' X V;have h:ar4 A c s X V:=h;unfold ar4 at h ⊢;rw [U,N];exact h
 | 3,Y,h=>
  obtain⟨U,N⟩:=h3.resolve_left fun e=>Y e.symm;show aq2 A c s' X V;have h:aq2 A c s X V:=h;unfold aq2 at h ⊢;rw [U,N];exact h
 | 4,Y,h=>
  obtain⟨U,N,J⟩:=h4.resolve_left fun e=>Y e.symm;show aln A c s' X V;have h:aln A c s X V:=h;unfold aln at h ⊢;rw [U,N,J];exact h
 | 5,Y,h=>
  obtain⟨U,N⟩:=h5.resolve_left fun e=>Y e.symm;show ahl A c s' X Z V;have h:ahl A c s X Z V:=h;unfold ahl at h ⊢;rw [U,N];exact h
 | 6,Y,h=>
  obtain⟨U,N⟩:=h6.resolve_left fun e=>Y e.symm;show agp A c s' X Z V;have h:agp A c s X Z V:=h;unfold agp at h ⊢;rw [U,N];exact h
 | 7,Y,h=>
  obtain⟨U,N⟩:=h7.resolve_left fun e=>Y e.symm;show ag2 A c s' X V;have h:ag2 A c s X V:=h;unfold ag2 at h ⊢;rw [U,N];exact h
 | 8,Y,h=>
  have U:=h8.resolve_left fun e=>Y e.symm;show ap5 A s' X V;have h:ap5 A s X V:=h;unfold ap5 at h ⊢;rw [U];exact h
 | 9,Y,h=>
  obtain⟨U,N⟩:=h9.resolve_left fun e=>Y e.symm;show arR A s' X Z V;have h:arR A s X Z V:=h;unfold arR at h ⊢;rw [U,N];exact h
 | 10,Y,h=>
  have U:=h10.resolve_left fun e=>Y e.symm;show ano A s' X V;have h:ano A s X V:=h;unfold ano at h ⊢;rw [U];exact h
 | j+11,Y,h=>
  have U:=h11 j fun e=>Y e.symm;show abH A s' X Z V j;have h:abH A s X Z V j:=h;unfold abH at h ⊢;rw [U];exact h
theorem aa8.tag_same (h:aa8 A c o s w)(t:Nat):alp o w.heap.size w.heap.size t=o:=by
 funext k
 by_cases Z:k<w.heap.size
 · exact abK Z
 · rw [agl (by omega) (by omega),h.out k (by omega)]
theorem aa8.updB (h:aa8 A c o s w)(t:Nat)(I:t≠0)(Y:t<1000)(U:w'.heap.size=w.heap.size)(C:Chg (fun k=>o k=t) w w')(D:aar A c s' (fun k=>o k=t) (fun k=>o k=0) w' t)
  (H:∀u X Z V,u≠t->aar A c s X Z V u->aar A c s' X Z V u):aa8 A c o s' w':=by
 have:=h.upd t I Y C (D.wide (fun k _ J=>.inl J) fun k _ N=>N) H;rw [U,h.tag_same] at this;exact this
theorem aa8.setP (h:aa8 A c o s w)(i:Nat)(v:Value)(s':PlM)(U:∀Y,(adz A c s Y).setIfInBounds i v=adz A c s' Y)(N:s'.took=s.took)(J:∀u X Z V,u≠1->aar A c s X Z V u->aar A c s' X Z V u) :
  aa8 A c o s' (w.setCell ⟨A.P,i,none⟩ v)/\w.frozen? ⟨A.P,i,none⟩=false:=by
 obtain⟨Y,h1,h2,h3,h4⟩:=h.part 1 (by omega);have H:Chg (fun k=>o k=1) w (w.setCell ⟨A.P,i,none⟩ v):=(Chg.refl _ w).set h2;refine⟨h.updB 1 (by omega) (by omega) (by simp [World.setCell]) H ⟨Y,?_,h2,?_,h4⟩ J,by simp [World.frozen?,h1]⟩
 · have:=aa4 (i:=i) h1 v;rw [U] at this;exact this
 · rw [N];exact⟨aaX h3.1 fun g I=>axn w ⟨A.P,i,none⟩ _ g fun e=>h4 (I.trans (congrArg some e)),h3.2⟩
theorem aa8.setR (h:aa8 A c o s w)(i:Nat)(v:Value)(Y:RdM)(V:∀Z,(rdV A s.rd Z).setIfInBounds i v=rdV A Y Z)(U:Y.tail=s.rd.tail) :
  aa8 A c o { s with rd:=Y } (w.setCell ⟨A.R,i,none⟩ v)/\w.frozen? ⟨A.R,i,none⟩=false:=by
 obtain⟨Z,h1,h2,h3,h4⟩:=h.part 8 (by omega);have J:Chg (fun k=>o k=8) w (w.setCell ⟨A.R,i,none⟩ v):=(Chg.refl _ w).set h2;have X:Chg (fun k=>k=A.R) w (w.setCell ⟨A.R,i,none⟩ v):=(Chg.refl _ w).set rfl;refine⟨h.updB 8 (by omega) (by omega) (by simp [World.setCell]) J ⟨Z,?_,h2,?_,h4⟩ (aar.congr 8),by simp [World.frozen?,h1]⟩
 · have:=aa4 (i:=i) h1 v;rw [V] at this;exact this
 · show ack _ _ Z Y.tail;rw [U];exact h3.keep X fun g N e=>h4 (by rw [<-e];exact N)
theorem aa8.setM (h:aa8 A c o s w)(ph:Nat):aa8 A c o { s with mph:=ph } (w.setCell ⟨A.M,1,none⟩ (.int .u8 (ph:Int)))/\w.frozen? ⟨A.M,1,none⟩=false:=by
 obtain⟨a,m,Y,h1,h2,h3,h4⟩:=h.part 9 (by omega);have Z:Chg (fun k=>o k=9) w (w.setCell ⟨A.M,1,none⟩ (.int .u8 (ph:Int))):=(Chg.refl _ w).set h2;refine⟨h.updB 9 (by omega) (by omega) (by simp [World.setCell]) Z ⟨a,m,Y,aa4 (i:=1) h1 _,h2,h3.keep Z (fun k _ e=>by rw [e];decide),h4⟩ (aar.congr 9),by simp [World.frozen?,h1]⟩
theorem aa8.setML (h:aa8 A c o s w)(l:List aam)(a:Option Addr)(m Z:Nat)(V:SlD (fun k=>o k=0) w a m l)(X:m<=Z) :
  aa8 A c o { s with left:=l } (w.setCell ⟨A.M,6,none⟩ (.slice a m Z))/\w.frozen? ⟨A.M,6,none⟩=false:=by
 obtain⟨a0,N,U,h1,h2,h3,h4⟩:=h.part 9 (by omega);have Y:Chg (fun k=>o k=9) w (w.setCell ⟨A.M,6,none⟩ (.slice a m Z)):=(Chg.refl _ w).set h2;refine⟨h.updB 9 (by omega) (by omega) (by simp [World.setCell]) Y ⟨a,m,Z,aa4 (i:=6) h1 _,h2,V.keep Y (fun k _ e=>by rw [e];decide),X⟩ (aar.congr 9),by simp [World.frozen?,h1]⟩
theorem aa8.setE (h:aa8 A c o s w)(ph:Nat):aa8 A c o { s with eph:=ph } (w.setCell ⟨A.E,1,none⟩ (.int .u8 (ph:Int)))/\w.frozen? ⟨A.E,1,none⟩=false:=by
 obtain⟨h1,h2⟩:=h.part 10 (by omega);have Z:Chg (fun k=>o k=10) w (w.setCell ⟨A.E,1,none⟩ (.int .u8 (ph:Int))):=(Chg.refl _ w).set h2;exact⟨h.updB 10 (by omega) (by omega) (by simp [World.setCell]) Z ⟨aa4 (i:=1) h1 _,h2⟩ (aar.congr 10),by simp [World.frozen?,h1]⟩
theorem aa8.setWk (h:aa8 A c o s w){i:Nat}{x:WkM}(N:s.wk[i]?=some x)(hi:i<900)(Y:WkM)(w':World)(J:w'.heap.size=w.heap.size)(H:∀k,k≠A.Wk i->w'.heap[k]?=w.heap[k]?)(X:w'.os=w.os/\w'.tape=w.tape/\w'.output=w.output)
  (B:∀p V,w.heap[A.Wk i]?=some (.cells (wkV A i x p V) 249 (0,0))->PcD (fun k=>o k=0) w p x.blk->afd (fun k=>o k=i+11∨o k=0) w 116 2 V x.hits.length (aad x.hits)->V.ownBlock≠some (A.Wk i)->(x.ph≠3->∀g,V.ownBlock=some g->o g=i+11)->
   ∃U Z,w'.heap[A.Wk i]?=some (.cells (wkV A i Y U Z) 249 (0,0))/\PcD (fun k=>o k=0) w U Y.blk/\afd (fun k=>o k=i+11∨o k=0) w 116 2 Z Y.hits.length (aad Y.hits)/\Z.ownBlock≠some (A.Wk i)/\(Y.ph≠3->∀g,Z.ownBlock=some g->o g=i+11)) :
  aa8 A c o (setW s i fun _=>Y) w':=by
 have h0:=h.part (i+11) (by omega);have h0:abH A s (fun k=>o k=i+11) (fun k=>o k=0) w i:=h0;unfold abH at h0;rw [N] at h0;obtain⟨p,V,h1,h2,h3,h4,h5,h6⟩:=h0;obtain⟨U,Z,g1,g3,C,D,g6⟩:=B p V h1 h3 h4 h5 h6;have I:Chg (fun k=>k=A.Wk i) w w':=⟨X.1,X.2.1,X.2.2,by omega,fun k _ z=>H k z⟩;have v:i<s.wk.length:=(awR.1 N).1;refine h.updB (i+11) (by omega) (by omega) J (I.mono fun k _ e=>by rw [e];exact h2) ?_ (aar.congr (i+11) (h1:=.inr ⟨rfl,rfl,rfl,rfl⟩) (h2:=.inr ⟨rfl,rfl⟩) (h3:=.inr ⟨rfl,rfl⟩) (h4:=.inr ⟨rfl,rfl,rfl⟩) (h5:=.inr ⟨rfl,rfl⟩) (h6:=.inr ⟨rfl,rfl⟩) (h7:=.inr ⟨rfl,rfl⟩) (h8:=.inr rfl) (h9:=.inr ⟨rfl,rfl⟩) (h10:=.inr rfl) (h11:=fun j y=>?_))
 ·
  show abH A (setW s i fun _=>Y) (fun k=>o k=i+11) (fun k=>o k=0) w' i;unfold abH setW;have e:(s.wk.modify i fun _=>Y)[i]?=some Y:=by rw [aye,N];simp
  show (match (s.wk.modify i fun _=>Y)[i]? with | none=>True | some x=>_);rw [e];refine⟨U,Z,g1,h2,g3.keep I fun k _ e1 e2=>?_,⟨aaX C.1 fun g hg=>H g fun e=>D (by rw [<-e];exact hg),C.2⟩,D,g6⟩;rw [e2] at e1;omega
 · show (s.wk.modify i fun _=>Y)[j]?=s.wk[j]?;rw [aye];have:i≠j:=fun e=>y (by rw [e]);simp [this]
end
def avM (X:Nat->Prop)(B U D size:Nat)(fr:List Int)(us:List Bool)(ds:List (List Int))(n:Int)(w:World)(e:Ending)(w':World):Prop:=
 e=.returned (.bool (ah0 us n))/\Chg X w w'/\ahM (fun k=>X k∨w.heap.size<=k) B U D size (if ah0 us n then fr++[n] else fr) (if ah0 us n then us.set n.toNat false else us) (if ah0 us n then ds.set n.toNat [] else ds) w'
theorem aqJ {us:List Bool}{n:Int}(h:ah0 us n=true):∃k:Nat,n=k/\k<us.length/\us[k]?=some true:=by
 unfold ah0 at h;rw [ayz] at h;obtain⟨k,rfl⟩:=axr (of_decide_eq_true h.1);rw [axs,ay5] at h
 by_cases Z:k<us.length
 · refine⟨k,rfl,Z,?_⟩;have:=h.2;rw [ay4 Z,ayr] at this;rw [ay4 Z,this]
 ·
  have:=h.2;rw [az0 (by omega)] at this
  cases this
theorem amj {X:Nat->Prop}{B U D size:Nat}{fr:List Int}{us:List Bool}{ds:List (List Int)}(n:Int)(w:World)(h:ahM X B U D size fr us ds w)(hn:fr.length<=100000) :
  Calls ZP 236 #[.pointer (some ⟨B,0,none⟩),.int .i64 n] w (avM X B U D size fr us ds n w):=by
 obtain⟨x,fv,dv,h⟩:=h;have HP:=ax3 (afe n w h);unfold avM
 cases hh:ah0 us n with
 | false=>
  rw [hh] at HP;have HH:=ax3 h;clear h hn hh;go_enter func236,ntmps236
  go_wp2_with (go_at_call 233;refine HP.out.mono ?_;rintro e A ⟨rfl,J⟩;have HB:=ax3 J;clear J)
  go_ret;have hk:=HH.out.keep (Y:=fun _=>False) (.of_same HB.out) fun _ _ _ h=>h;exact⟨rfl,.of_same HB.out,x,fv,dv,hk.wide fun _ _ v=>.inl v⟩
 | true=>
  rw [hh] at HP;obtain⟨k,rfl,j,a6⟩:=aqJ hh;obtain⟨L,hL⟩:∃L,us.length=L:=⟨_,rfl⟩;have i0:(0:Int)<=(k:Int):=by omega
  have i1:(k:Int)<(L:Int):=by omega
  have HL:=ax3 hL;have H:=ax3 j;have HH:=ax3 h;clear h hh j a6 hL;go_enter func236,ntmps236;go_upto_region 3 with (go_at_call 233;refine HP.out.mono ?_;rintro e A ⟨rfl,V⟩)
  have J:=HH.out.keep (Y:=fun _=>False) (.of_same V) fun _ _ _ h=>h;obtain⟨u1,u2⟩:=J.setU k false;have c2:A.cell? ⟨B,2,none⟩=some (.slice (some ⟨U,0,none⟩) L L):=by have:=HL.out;simp [World.cell?,J.box,this]
  have f2:A.frozen? ⟨U,k,none⟩=false:=by simp [World.frozen?,J.used]
  have g2:A.cell? ⟨U,k,none⟩=some (.bool (us[k]'H.out)):=by simp [World.cell?,J.used,H.out]
  obtain⟨Z,I⟩:∃W,W=A.setCell ⟨U,k,none⟩ (.bool false):=⟨_,rfl⟩;rw [<-I] at u1 u2;have a1:acG X x B U D fv dv size fr (us.set k false) ds Z.drew:=u1.keep (Y:=fun _=>False) (.of_same (aa2 Z 1)) fun _ _ _ h=>h;obtain⟨a,m,c,q1,C,z⟩:=a1.cut0 k (by rw [axb];exact H.out);have o:(us.set k false).length=L:=by rw [axb];exact HL.out
  have c3:Z.cell? ⟨B,3,none⟩=some (.slice (some ⟨D,0,none⟩) L L):=by simp [World.cell?,u1.box,o]
  have f3:Z.frozen? ⟨D,k,none⟩=false:=by simp [World.frozen?,u1.data]
  have g3:Z.cell? ⟨D,k,none⟩=some (.slice a m c):=by simp [World.cell?,u1.data];exact q1
  obtain⟨W3,N⟩:∃W,W=(Z.setCell ⟨D,k,none⟩ (.slice a 0 c)).drew:=⟨_,rfl⟩;have C:ahM (fun k=>X k∨Z.drew.heap.size<=k) B U D size fr (us.set k false) (ds.set k []) W3:=by rw [N];exact C
  have z:Chg X Z.drew W3:=by rw [N];exact z
  have s:w.heap.size<=Z.drew.heap.size:=awT V.size u2.size;obtain⟨ad,ae,a8,C⟩:=C;have ab:=ax3 (agB (k:Int) W3 C (by omega));have HC:=ax3 ((Chg.of_same V).then ((u2.same (aa2 Z 1)).then z));have aa:=ax3 (And.intro s z.size);clear J V u1 u2 a1 q1 C z o s;go_upto_region 4 with fail
  rw [<-I];clear I c2 f2 g2
  go_region
  rw [<-N];clear N c3 f3 g3
  go_wp2_with fail
  refine ab.out.mono ?_;rintro e w4 ⟨⟨v4,rfl⟩,⟨a7,y,hq⟩,a2⟩;have HQ:=ax3 hq;have ac:=ax3 a2;clear hq a2;go_wp2;go_ret;have hs:=aa.out;refine⟨rfl,HC.out.trans ac.out (fun i hi v=>v.elim id fun h=>by have:=hs.1;omega),y,a7,a8,?_⟩
  try simp only [if_true,axs]
  exact HQ.out.wide fun i _ v=>v.elim (fun h=>h.elim .inl fun h=>.inr (by have:=hs.1;omega)) fun h=>.inr (by have:=hs.1;have:=hs.2;omega)
theorem aq8 {us:List Bool}{k:Nat}(h:us[k]?=some true):ah0 us (k:Int)=true:=by
 unfold ah0;rw [axs,ay5,h];simp
theorem ao7 {X:Nat->Prop}{B U D size:Nat}{fr:List Int}{us:List Bool}{ds:List (List Int)}(k n c:Nat)(b:Option Addr)(bs H:List Int)(w:World)(h:ahM X B U D size fr us ds w)(hB:Bys w b n bs)(hk:us[k]?=some true)(hx:ds[k]?=some H)(ab:H.length+n<=size)(ah:size<=100000) :
  Calls ZP 191 #[.pointer (some ⟨B,0,none⟩),.int .i64 (k:Int),.slice b n c] w fun e w'=>e=.returned (.bool true)/\Chg X w w'/\ahM (fun k=>X k∨w.heap.size<=k) B U D size fr us (ds.set k (H++bs)) w':=by
 obtain⟨al,fv,dv,h⟩:=h;have aa:=(awR.1 hk).1;obtain⟨v,C⟩:∃v,dv[k]?=some v:=⟨_,ay4 (by rw [h.dl.1];exact aa)⟩;obtain⟨r1,r2⟩:=h.rows k v H C hx;obtain⟨a,cc,rfl,_,_⟩:=SlK.own r1.1;obtain⟨m,N⟩:∃m,H.length=m:=⟨_,rfl⟩;obtain⟨L,hL⟩:∃L,us.length=L:=⟨_,rfl⟩;have ae:Hid (∀d os,Calls ZP 233 #[.pointer (some ⟨B,0,none⟩),.int .i64 (k:Int)] (grow (redrawn w d) os) fun e w'=>e=.returned (.bool true)/\RowKit.Below (grow (redrawn w d) os).heap.size (grow (redrawn w d) os) w'):=fun d os=>by
  have:=afe (k:Int) _ (h.keep (Y:=fun _=>False) (.of_same (below_regrown w d os)) fun _ _ _ h=>h)
  rwa [aq8 hk] at this
 have hh:=ae.out;have k1:∀d os,(grow (redrawn w d) os).cell? ⟨B,1,none⟩=some (.int .i64 (size:Int)):=cell_regrown (by simp [World.cell?,h.box]);have k3:∀d os,(grow (redrawn w d) os).cell? ⟨B,3,none⟩=some (.slice (some ⟨D,0,none⟩) L L):=cell_regrown (by simp [World.cell?,h.box,hL]);have kD:∀d os,(grow (redrawn w d) os).cell? ⟨D,k,none⟩=some (.slice a m cc):=cell_regrown (by rw [N] at C;simp [World.cell?,h.data];exact C);have i0:(0:Int)<=(k:Int):=by omega
 have i1:(k:Int)<(L:Int):=by omega
 have e1:IntKind.i64.wrap ((size:Int)-(m:Int))=(size:Int)-(m:Int):=by rw [ax2];omega
 have e2:decide ((n:Int) > (size:Int)-(m:Int))=false:=by simp;omega
 have ai:decide ((size:Int)-(m:Int)<(n:Int))=false:=by simp;omega
 have HH:=ax3 h;have HV:=ax3 C;have HX:=ax3 hx;have ak:=ax3 hB;have HM:=ax3 N;have ad:=ax3 hL;have am:m+n<=100000:=by omega
 clear h hB hk hx ab ah C N hL aa r1 r2 ae;go_enter func191,ntmps191;go_upto_region 1 with fail
 refine wp_region_quiet_below mixed (by kernel_rfl) ?_
 repeat (go_big_quiet_step (exact aax (hh _ _)))
 refine wpQuiet_nil ?_;rintro _ ⟨⟨dq,a1⟩,rfl⟩;have I:=below_regrown w dq a1;obtain⟨V,hV⟩:∃V,V=grow (redrawn w dq) a1:=⟨_,rfl⟩;rw [<-hV] at I ⊢;clear hV hh k1 k3 kD e1 e2 ai;go_upto_region 3 with fail
 obtain⟨W,hW⟩:∃W,W=V.drew:=⟨_,rfl⟩;have J:Below w.heap.size w W:=I.trans (by rw [hW];exact (aa2 V 1).mono I.size);have hS:=HH.out.keep (Y:=fun _=>False) (.of_same J) fun _ _ _ h=>h;have hB:=ak.out.below J;have c3:V.cell? ⟨B,3,none⟩=some (.slice (some ⟨D,0,none⟩) L L):=by
  have:=(HH.out.keep (Y:=fun _=>False) (.of_same I) fun _ _ _ h=>h).box;have hl:=ad.out;simp [World.cell?,this,hl]
 have cD:W.cell? ⟨D,k,none⟩=some (.slice a m cc):=by
  have N:=HM.out;have C:=HV.out;rw [N] at C;simp [World.cell?,hS.data];exact C
 obtain⟨r1,r2⟩:=hS.rows k _ H HV.out HX.out;obtain⟨af,hi,a8,a7,a6⟩:=info_parts acy;have Z:=r1.1;have N:=HM.out;rw [N] at Z;obtain⟨v1,W1,hr,o,j,A⟩:=aaq (P:=ZP) W 0 32 32 5 af (.int .u8 0) 1 1 underlying32 hi a8 a7 a6 rfl (by decide) (.slice a m cc) m (H.map (Value.int .u8)) Z b n c (bs.map (Value.int .u8)) (anH hB.1) (fun u hu=>by obtain⟨x,_,rfl⟩:=axE.1 hu;rfl) (by unfold maxLen;omega) (by omega) (axh _);obtain⟨a2,c2,ag,_,_⟩:=SlK.own o;subst ag;have s:=HV.out;rw [N] at s;obtain⟨q1,q2,q3,u,q4⟩:=hS.setD (v:=.slice a m cc) (v':=.slice a2 (m+n) c2) (xs':=H++bs) (V:=W1) k s (by rw [List.length_append,N,hB.1.1,ay7];exact o) ((Chg.refl _ _).grown j fun g e _=>e) (fun g e=>by
  rcases A with e2 | e2
  · rw [e2] at e;exact .inl e
  · rw [e2] at e;exact .inr (axL (awV e)))
 obtain⟨l1,l2,l3⟩:=hS.labs;have ac:=(awU.1 hS.box).1;have s1:W1.cell? ⟨B,3,none⟩=some (.slice (some ⟨D,0,none⟩) L L):=by
  have e:W1.heap[B]?=W.heap[B]?:=j.block B ac fun e=>by have:=r2 B (by rw [N];exact e.symm);omega
  have hl:=ad.out;simp [World.cell?,e,hS.box,hl]
 have s2:(W1.setCell ⟨D,k,none⟩ (.slice a2 (m+n) c2)).cell? ⟨B,3,none⟩=some (.slice (some ⟨D,0,none⟩) L L):=by
  have e:(W1.setCell ⟨D,k,none⟩ (.slice a2 (m+n) c2)).heap[B]?=W1.heap[B]?:=axn W1 ⟨D,k,none⟩ _ B (fun e=>by have e:B=D:=e;rw [e,l3] at l1;omega);rw [axp (a:=⟨B,3,none⟩) e];exact s1
 have HR:=ax3 hr;have y:=ax3 (And.intro s1 s2);have Q1:=ax3 q1;have Q2:=ax3 ((Chg.of_same J).then q2);have aj:=ax3 J.size;clear hS hB r1 r2 hi a8 a7 a6 Z N hr o j A s q1 q2 l1 l2 l3 ac s1 s2 J I;refine wp_region_noPanic ?_;refine wp_region_held_drew (S:=fun Y=>Y.cell? ⟨B,3,none⟩=some (.slice (some ⟨D,0,none⟩) L L)) (by kernel_rfl) c3 (fun hHeld=>?_);rw [<-hW] at hHeld ⊢;clear hW;refine tkA 0 ?_;refine tkA 1 ?_;refine tkA 2 ?_;refine tkW 3 (v:=?_) ?_ ?_;rotate_left
 ·
  intro V hV;have q0:V.cell? ⟨B,3,none⟩=some (.slice (some ⟨D,0,none⟩) L L):=hV
  first | (go_simp;done) | (go_simp;with_reducible rfl)
 try simp only [Act.put,pA,pB,pC]
 refine tkA 4 ?_;refine tkA 5 ?_;refine tkA 6 ?_;refine tkA 7 ?_;refine tkW 8 (v:=?_) ?_ ?_;rotate_left
 ·
  intro V hV;have q0:V.cell? ⟨B,3,none⟩=some (.slice (some ⟨D,0,none⟩) L L):=hV
  first | (go_simp;done) | (go_simp;with_reducible rfl)
 try simp only [Act.put,pA,pB,pC]
 refine tkA 9 ?_;refine tkA 10 ?_;refine tkA 12 ?_;refine rdy 11 (fun K z=>?_);go_simp;refine z.out _ _ hHeld (fun h11=>?_);clear z K
 try simp only [Act.put,pA,pB,pC]
 refine rdy 13 (fun K z=>?_);refine aaP (.tmp 40) (.tmp 41) 32 rfl _ _ rfl rfl rfl HR.out ?_;refine z.out _ _ y.out.1 (fun ap=>?_);clear z K
 try simp only [Act.put,pA,pB,pC]
 refine tkA 14 ?_;refine rdy 15 (fun K z=>?_);go_simp;refine z.out _ _ y.out.2 (fun ao=>?_);clear z K
 try simp only [Act.put,pA,pB,pC]
 refine wpAnyH_done (by kernel_rfl) ?_ _;refine ax4 ?_;go_wp2;go_ret;exact⟨rfl,Q2.out,_,_,_,Q1.out.wide fun i _ hx=>hx.elim .inl fun h=>.inr (awT aj.out h)⟩
theorem alM {X:Nat->Prop}{B U D size:Nat}{fr:List Int}{us:List Bool}{ds:List (List Int)}(k:Nat)(Z:List Int)(w:World)(h:ahM X B U D size fr us ds w)(y:us[k]?=some true)(hx:ds[k]?=some Z)(hl:Z.length<=1000000) :
  Calls ZP 195 #[.pointer (some ⟨B,0,none⟩),.int .i64 (k:Int)] w fun e w'=>∃v,e=.returned v/\ag6 w' w.heap.size v Z.length Z/\Below w.heap.size w w':=by
 obtain⟨a1,fv,dv,h⟩:=h;have I:=(awR.1 y).1;obtain⟨v,hv⟩:∃v,dv[k]?=some v:=⟨_,ay4 (by rw [h.dl.1];exact I)⟩;obtain⟨L,hL⟩:∃L,us.length=L:=⟨_,rfl⟩;have A:=afe (k:Int) w h;rw [aq8 y] at A;have A:=ax3 A;have HH:=ax3 h;have HV:=ax3 hv;have HX:=ax3 hx;have s:=ax3 hL;have HL:=ax3 hl;have i0:(0:Int)<=(k:Int):=by omega
 have i1:(k:Int)<(L:Int):=by omega
 clear h y hx hv hL I hl;go_enter func195,ntmps195;go_upto_region 3 with (go_at_call 233;refine A.out.mono ?_;rintro e z ⟨rfl,V⟩)
 have C:=HH.out.keep (Y:=fun _=>False) (.of_same V) fun _ _ _ h=>h;obtain⟨j,r2⟩:=C.rows k v Z HV.out HX.out;obtain⟨a,cc,rfl,_,hs⟩:=SlK.own j.1;have J:=s.out;have c3:z.cell? ⟨B,3,none⟩=some (.slice (some ⟨D,0,none⟩) L L):=by simp [World.cell?,C.box,J]
 have cD:z.cell? ⟨D,k,none⟩=some (.slice a Z.length cc):=by simp [World.cell?,C.data];exact HV.out
 have HC:=ax3 (ap7 a Z.length cc (Z.map (Value.int .u8)) z hs (fun u hu=>by obtain⟨x,_,rfl⟩:=axE.1 hu;rfl) HL.out);have N:=ax3 V;clear C j r2 hs J V
 go_wp2_with fail
 refine HC.out.mono ?_;rintro e w2 ⟨v2,rfl,ho,H⟩;have HO:=ax3 ho;have o:=ax3 H;clear ho H;go_wp2;go_ret;exact⟨_,rfl,agj HO.out N.out.size,N.out.trans (o.out.mono N.out.size)⟩
def aa3 (A:PAd)(c:CfM)(o:Nat->Nat)(s':PlM)(w w':World):Prop:=∃o',aa8 A c o' s' w'/\(∀k,o k=0->o' k=0)/\Chg (fun k=>o k≠0) w w'
section
variable {A:PAd}{c:CfM}{s s' s'':PlM}{o:Nat->Nat}{w w' w'':World}
theorem aa8.upG (h:aa8 A c o s w)(t:Nat)(U:t≠0)(Y:t<1000)(N:Chg (fun k=>o k=t) w w')(I:aar A c s' (fun k=>o k=t∨w.heap.size<=k) (fun k=>o k=0) w' t)
  (J:∀u X Z V,u≠t->aar A c s X Z V u->aar A c s' X Z V u):aa3 A c o s' w w':=by
 refine⟨_,h.upd t U Y N I J,fun k D=>?_,N.mono fun k _ e=>by rw [e];exact U⟩
 by_cases H:k<w.heap.size
 · rw [abK H];exact D
 · have:=h.out k (by omega);omega
theorem aa8.gr (h:aa8 A c o s w)(Z:Below w.heap.size w w'):aa3 A c o s w w':=by
 refine⟨_,h.grow 0 (by omega) Z,fun k X=>?_,.of_same Z⟩
 by_cases Y:k<w.heap.size
 · rw [abK Y];exact X
 · have:=h.out k (by omega);omega
theorem aa8.g (h:aa8 A c o s w):aa3 A c o s w w:=⟨o,h,fun _ h=>h,.refl _ _⟩
theorem aa3.then (h:aa3 A c o s w w')(k:∀o',aa8 A c o' s w'->(∀k,o k=0->o' k=0)->aa3 A c o' s' w' w''):aa3 A c o s' w w'':=by
 obtain⟨Y,h1,h2,h3⟩:=h;obtain⟨Z,J,N,U⟩:=k Y h1 h2;exact⟨Z,J,fun k X=>N k (h2 k X),h3.trans U fun i _ V e=>V (h2 i e)⟩
theorem aa3.of_same (Z:Chg (fun k=>o k≠0) w w')(h:aa8 A c o s' w'):aa3 A c o s' w w':=⟨o,h,fun _ h=>h,Z⟩
theorem aa8.chgR (h:aa8 A c o s w)(i:Nat)(v:Value):Chg (fun k=>o k≠0) w (w.setCell ⟨A.R,i,none⟩ v):=by
 obtain⟨Z,h1,h2,_⟩:=h.part 8 (by omega);exact (Chg.refl _ w).set (by have h2:o A.R=8:=h2;rw [h2];decide)
theorem aa8.chgP (h:aa8 A c o s w)(i:Nat)(v:Value):Chg (fun k=>o k≠0) w (w.setCell ⟨A.P,i,none⟩ v):=by
 obtain⟨Z,h1,h2,_⟩:=h.part 1 (by omega);exact (Chg.refl _ w).set (by have h2:o A.P=1:=h2;rw [h2];decide)
theorem aa8.chgM (h:aa8 A c o s w)(i:Nat)(v:Value):Chg (fun k=>o k≠0) w (w.setCell ⟨A.M,i,none⟩ v):=by
 obtain⟨a,m,Z,h1,h2,_⟩:=h.part 9 (by omega);exact (Chg.refl _ w).set (by have h2:o A.M=9:=h2;rw [h2];decide)
theorem aa8.chgE (h:aa8 A c o s w)(i:Nat)(v:Value):Chg (fun k=>o k≠0) w (w.setCell ⟨A.E,i,none⟩ v):=by
 obtain⟨h1,h2⟩:=h.part 10 (by omega);exact (Chg.refl _ w).set (by have h2:o A.E=10:=h2;rw [h2];decide)
theorem aa8.cP (h:aa8 A c o s w):∃Z,w.heap[A.P]?=some (.cells (adz A c s Z) 109 (0,0)):=let ⟨Z,h1,_⟩:=h.part 1 (by omega);⟨Z,h1⟩
theorem aa8.cR (h:aa8 A c o s w):∃Z,w.heap[A.R]?=some (.cells (rdV A s.rd Z) 245 (0,0))/\ack (fun k=>o k=8) w Z s.rd.tail:=let ⟨Z,h1,_,h3,_⟩:=h.part 8 (by omega);⟨Z,h1,h3⟩
theorem avo (h:aa8 A c o s w)(n:Nat)(Z:s.fr.length<=100000):Calls ZP 236 #[.pointer (some ⟨A.Bb,0,none⟩),.int .i64 (n:Int)] w fun e w'=>(∃v,e=.returned v)/\aa3 A c o (abD s n) w w':=by
 have h4:aln A c s (fun k=>o k=4) w:=h.part 4 (by omega);refine (amj (n:Int) w h4 (by simpa using Z)).mono ?_;rintro e w' ⟨rfl,Y,X⟩;refine⟨⟨_,rfl⟩,h.upG 4 (by omega) (by omega) Y ?_ (aar.congr 4)⟩;show ahM _ _ _ _ _ ((abD s n).fr.map fun x:Nat=>(x:Int)) (abD s n).us (abD s n).ds _;have V:((abD s n).fr.map fun x:Nat=>(x:Int))=if ah0 s.us n then (s.fr.map fun x:Nat=>(x:Int))++[(n:Int)] else s.fr.map fun x:Nat=>(x:Int):=by
  unfold abD;dsimp only
  split<;>simp
 rw [V];exact X
theorem awq (h:aa8 A c o s w)(n:Nat)(l:List Nat)(N:s.fr=l++[n])(U:s.fr.length<=100000)(V:∀x∈s.fr,x<s.us.length) :
  Calls ZP 190 #[.pointer (some ⟨A.Bb,0,none⟩)] w fun e w'=>e=.returned (.tuple #[.int .i64 (n:Int),.bool true])/\aa3 A c o { s with fr:=l,us:=s.us.set n true,ds:=s.ds.set n [] } w w':=by
 have h4:aln A c s (fun k=>o k=4) w:=h.part 4 (by omega);refine (am4 w h4 (by simpa using awT U (by omega)) (fun x X=>?_)).mono ?_
 · obtain⟨y,Y,rfl⟩:=axE.1 X;have:=V y Y;omega
 ·
  rintro e w' ⟨rfl,J,Z⟩;have H:(s.fr.map fun x:Nat=>(x:Int))=(l.map fun x:Nat=>(x:Int))++[(n:Int)]:=by rw [N];simp
  rw [H] at Z ⊢;have I:((l.map fun x:Nat=>(x:Int))++[(n:Int)]).getLast?.getD 0=(n:Int):=by simp
  rw [I] at Z ⊢;rw [if_neg (by simp),azc,axs] at Z;refine⟨by simp,h.upG 4 (by omega) (by omega) J ?_ (aar.congr 4)⟩;exact Z
theorem avA (h:aa8 A c o s w)(k n U:Nat)(b:Option Addr)(V Y:List Int)(D:Bys w b n V)(J:s.us[k]?=some true)(N:s.ds[k]?=some Y)(Z:Y.length+n<=c.K+c.wm)(X:c.K+c.wm<=100000) :
  Calls ZP 191 #[.pointer (some ⟨A.Bb,0,none⟩),.int .i64 (k:Int),.slice b n U] w fun e w'=>e=.returned (.bool true)/\aa3 A c o { s with ds:=s.ds.set k (Y++V) } w w':=by
 have h4:aln A c s (fun k=>o k=4) w:=h.part 4 (by omega);refine (ao7 k n U b V Y w h4 D J N Z X).mono ?_;rintro e w' ⟨rfl,I,H⟩;exact⟨rfl,h.upG 4 (by omega) (by omega) I H (aar.congr 4)⟩
theorem awa (h:aa8 A c o s w)(k:Nat)(Z:List Int)(V:s.us[k]?=some true)(Y:s.ds[k]?=some Z)(X:Z.length<=1000000) :
  Calls ZP 195 #[.pointer (some ⟨A.Bb,0,none⟩),.int .i64 (k:Int)] w fun e w'=>∃v,e=.returned v/\ag6 w' w.heap.size v Z.length Z/\Below w.heap.size w w':=
 alM k Z w (show aln A c s (fun k=>o k=4) w from h.part 4 (by omega)) V Y X
theorem awL (h:aa8 A c o s w)(n:Nat)(Y:n<=1000000000)(Z:s.next<=1000000000) :
  Calls ZP 189 #[.pointer (some ⟨A.G,0,none⟩),.int .i64 (n:Int)] w fun e w'=>e=.returned (.bool (al8 s.next c.R n))/\Below w.heap.size w w':=by
 obtain⟨X,h1,h2,_⟩:agp A c s (fun k=>o k=6) (fun k=>o k=0) w:=h.part 6 (by omega);have:=aeK n w h1 Y Z
 rwa [h2] at this
end
theorem agO {X:Nat->Prop}{Q B next:Nat}{I:List PlW}(q:Option Addr×Nat×Nat)(Z:Bool)(w:World)(h:adQ X Q B next I w)(hx:next<=1000000000)(hp:I[next % I.length]?=some (q,Z)) :
  Calls ZP 203 #[.pointer (some ⟨Q,0,none⟩)] w fun e w'=>e=.returned (.tuple #[if Z then .slice q.1 q.2.1 q.2.2 else .slice none 0 0,.bool Z])/\adQ X Q B (if Z then next+1 else next) (if Z then I.set (next % I.length) ((none,0,0),false) else I) w'/\Chg X w w':=by
 have hT:∀V,Below w.heap.size w V->adQ X Q B next I V/\Calls ZP 170 #[.pointer (some ⟨Q,0,none⟩),.int .i64 (next:Int)] V fun e w'=>e=.returned (.pointer (some ⟨B,next % I.length*2,none⟩))/\Below V.heap.size V w':=fun V hV=>by
  have:=h.keep (Y:=fun _=>False) (.of_same hV) fun _ _ _ h=>h;exact⟨this,ah5 next V this (by omega)⟩
 have J:∀d os,Calls ZP 170 #[.pointer (some ⟨Q,0,none⟩),.int .i64 (next:Int)] (grow (redrawn w d) os) fun e w'=>e=.returned (.pointer (some ⟨B,next % I.length*2,none⟩))/\RowKit.Below (grow (redrawn w d) os).heap.size (grow (redrawn w d) os) w':=fun d os=>(hT _ (below_regrown w d os)).2;have hr:∀d os,Calls ZP 231 #[.pointer (some ⟨Q,0,none⟩)] (grow (redrawn w d) os) fun e w'=>e=.returned (.int .i64 (I.length:Int))/\RowKit.Below (grow (redrawn w d) os).heap.size (grow (redrawn w d) os) w':=fun d os=>(ahy _ (hT _ (below_regrown w d os)).1).mono fun e w' ⟨h1,h2⟩=>⟨h1,by rw [h2];exact axf _ _⟩;have k1:∀d os,(grow (redrawn w d) os).cell? ⟨Q,1,none⟩=some (.int .i64 (next:Int)):=cell_regrown (by simp [World.cell?,h.box]);have kp:∀d os,(grow (redrawn w d) os).cell? ⟨B,next % I.length*2+1,none⟩=some (.bool Z):=cell_regrown (by have:=(aeQ hp).2;simp [World.cell?,h.places];exact this);obtain⟨r1,r2⟩:=h.room;have e0:decide ((I.length:Int)=0)=false:=by simp;intro e;rw [e] at r1;simp at r1
 have e1:((I.length:Int)==0)=false:=by simp;intro e;rw [e] at r1;simp at r1
 obtain⟨L,hL⟩:∃L,I.length=L:=⟨_,rfl⟩;obtain⟨p,a2⟩:∃p,next % L=p:=⟨_,rfl⟩;rw [hL] at r1 r2 e0 e1 hr J kp hT hp ⊢;rw [a2] at J kp hT hp ⊢;have HT:=ax3 hT;have HP:=ax3 hp;have HH:=ax3 h;have e2:decide (L=0)=false:=by simp;omega
 clear hT h hp a2 hL
 cases Z with
 | false=>
  go_enter func203,ntmps203;go_upto_region 1 with fail
  refine wp_region_quiet_below mixed (by kernel_rfl) ?_
  repeat (go_big_quiet_step (first | with_reducible exact aax (hr _ _) | with_reducible exact aax (J _ _)))
  refine wpQuiet_nil ?_;rintro _ ⟨⟨dq,C⟩,rfl⟩;have N:=below_regrown w dq C;have HB:=ax3 N;clear N;go_wp2;go_ret2;exact⟨rfl,(HT.out _ HB.out).1,.of_same HB.out⟩
 | true=>
  go_enter func203,ntmps203;go_upto_region 1 with fail
  refine wp_region_quiet_below mixed (by kernel_rfl) ?_
  repeat (go_big_quiet_step (first | with_reducible exact aax (hr _ _) | with_reducible exact aax (J _ _)))
  refine wpQuiet_nil ?_;rintro _ ⟨⟨dq,C⟩,rfl⟩;have N:=below_regrown w dq C;obtain⟨V,hV⟩:∃V,V=grow (redrawn w dq) C:=⟨_,rfl⟩;rw [<-hV] at N ⊢;clear hV hr J k1 kp;have J:∀d os,Calls ZP 170 #[.pointer (some ⟨Q,0,none⟩),.int .i64 (next:Int)] (grow (redrawn V d) os) fun e w'=>e=.returned (.pointer (some ⟨B,p*2,none⟩))/\RowKit.Below (grow (redrawn V d) os).heap.size (grow (redrawn V d) os) w':=fun d os=>(HT.out _ (N.trans ((below_regrown V d os).mono N.size))).2;have a1:=(HT.out V N).1;have k1:∀d os,(grow (redrawn V d) os).cell? ⟨Q,1,none⟩=some (.int .i64 (next:Int)):=cell_regrown (by simp [World.cell?,a1.box]);have kp:∀d os,(grow (redrawn V d) os).cell? ⟨B,p*2,none⟩=some (.slice q.1 q.2.1 q.2.2):=cell_regrown (by have:=(aeQ HP.out).1;simp [World.cell?,a1.places];exact this);have aa:=ax3 N;clear a1 N;go_upto_region 3 with fail
  refine wp_region_quiet_below mixed (by kernel_rfl) ?_
  repeat (go_big_quiet_step (exact aax (J _ _)))
  refine wpQuiet_nil ?_;rintro _ ⟨⟨a8,y⟩,rfl⟩;have H:=aa.out.trans ((below_regrown V a8 y).mono aa.out.size);obtain⟨U,hU⟩:∃U,U=grow (redrawn V a8) y:=⟨_,rfl⟩;rw [<-hU] at H ⊢;clear hU J k1 kp;have a6:=(HT.out U H).1;have c1:U.cell? ⟨Q,1,none⟩=some (.int .i64 (next:Int)):=by simp [World.cell?,a6.box]
  obtain⟨D,hD⟩:∃D,D=U.drew:=⟨_,rfl⟩;have o:Below w.heap.size w D:=H.trans (by rw [hD];exact (aa2 U 1).mono H.size);have z:=ax3 o;have ad:=ax3 (HT.out D o).2;clear a6 H o;go_upto_region 4 with fail
  refine wp_region_noPanic ?_;refine wp_region_held_drew (S:=fun Y=>Y.cell? ⟨Q,1,none⟩=some (.int .i64 (next:Int))) (by kernel_rfl) c1 (fun hHeld=>?_);rw [<-hD] at hHeld ⊢;clear hD c1;refine tkA 0 ?_;refine tkA 1 ?_;refine tkA 2 ?_;refine tkA 3 ?_;refine tkA 4 ?_;refine tkA 5 ?_;refine tkW 6 (v:=?_) ?_ ?_;rotate_left
  ·
   intro V hV;have q0:V.cell? ⟨Q,1,none⟩=some (.int .i64 (next:Int)):=hV
   first | (go_simp;done) | (go_simp;with_reducible rfl)
  try simp only [Act.put,pA,pB,pC]
  refine tkA 8 ?_;refine rdy 7 (fun K hK=>?_);go_simp
  go_at_call 170;refine (ad.out).mono ?_;rintro e s ⟨rfl,j⟩
  refine hK.out _ _ ((by have:=(HT.out s (z.out.trans (j.mono z.out.size))).1.box;simp [World.cell?,this])) (fun ab=>?_);clear hK K
  try simp only [Act.put,pA,pB,pC]
  have hb:=z.out.trans (j.mono z.out.size);have h5:=(HT.out s hb).1;have y0:s.cell? ⟨B,p*2,none⟩=some (.slice q.1 q.2.1 q.2.2):=by
   have:=(aeQ HP.out).1;simp [World.cell?,h5.places];exact this
  have y1:s.cell? ⟨B,p*2+1,none⟩=some (.bool true):=by
   have:=(aeQ HP.out).2;simp [World.cell?,h5.places];exact this
  have f0:∀i,s.frozen? ⟨B,i,none⟩=false:=fun i=>by simp [World.frozen?,h5.places]
  have f1:=f0 (p*2);have f2:=f0 (p*2+1);obtain⟨x,g2⟩:=h5.setP p ((none,0,0),false);have a7:(((s.setCell ⟨B,p*2,none⟩ (.slice none 0 0)).setCell ⟨B,p*2+1,none⟩ (.bool false))).cell? ⟨Q,1,none⟩=some (.int .i64 (next:Int)):=by have:=x.box;simp [World.cell?,this]
  have G1:=ax3 x;have G2:=ax3 ((Chg.of_same (X:=X) hb).then g2);have ac:=ax3 a7;clear hb j h5 x g2 f0 a7;refine tkA 9 ?_;refine rdy 10 (fun K hK=>?_);go_simp;refine hK.out _ _ ac.out (fun h10=>?_);clear hK K
  try simp only [Act.put,pA,pB,pC]
  refine wpAnyH_done (by kernel_rfl) ?_ _;refine ax4 ?_;obtain⟨W6,A⟩:∃W,W=(s.setCell ⟨B,p*2,none⟩ (.slice none 0 0)).setCell ⟨B,p*2+1,none⟩ (.bool false):=⟨_,rfl⟩;have x:adQ X Q B next (I.set p ((none,0,0),false)) W6:=by rw [A];exact G1.out
  have g2:Chg X w W6:=by rw [A];exact G2.out
  have c1:W6.cell? ⟨Q,1,none⟩=some (.int .i64 (next:Int)):=by simp [World.cell?,x.box]
  have f1:W6.frozen? ⟨Q,1,none⟩=false:=by simp [World.frozen?,x.box]
  have ew:IntKind.i64.wrap ((next:Int)+1)=(next:Int)+1:=by rw [ax2];omega
  obtain⟨s1,s2⟩:=x.step (next+1);have S1:=ax3 s1;have S2:=ax3 (g2.then s2);rw [<-A];clear A x g2 s1 s2 y0 y1 h10 ab hHeld;go_wp2;go_ret2;exact⟨rfl,S1.out,S2.out⟩
theorem aiY {fn:Func}{p:Tmp}{tmps:Array Value}{W:World}{B:Nat}(h:fn.results=#[.cell p 116])(V:tmps.getD p undef=.pointer (some ⟨B,0,none⟩)){Y Z:Value}(N:W.heap[B]?=some (.cells #[Y,Z] 116 (0,0))) :
  (results fn tmps).run ZP W=.ok (.agg #[Y,Z]) W:=by
 have U:(loadVar 116 ⟨B,0,none⟩).run ZP W=.ok (.agg #[Y,Z]) W:=run_loadVar_row W B 116 116 #[Y,Z] (0,0) _ N underlying116 rfl (by kernel_rfl);have X:tmps[p]?.getD undef=.pointer (some ⟨B,0,none⟩):=by simpa using V
 simp [results,h,X,asAddr];rw [U]
theorem aiP {fn:Func}{p u:Tmp}{tmps:Array Value}{W:World}{B:Nat}(h:fn.results=#[.cell p 116,.tmp u])(V:tmps.getD p undef=.pointer (some ⟨B,0,none⟩)){Y Z:Value}(N:W.heap[B]?=some (.cells #[Y,Z] 116 (0,0))) :
  (results fn tmps).run ZP W=.ok (.tuple #[.agg #[Y,Z],tmps.getD u undef]) W:=by
 have U:(loadVar 116 ⟨B,0,none⟩).run ZP W=.ok (.agg #[Y,Z]) W:=run_loadVar_row W B 116 116 #[Y,Z] (0,0) _ N underlying116 rfl (by kernel_rfl);have X:tmps[p]?.getD undef=.pointer (some ⟨B,0,none⟩):=by simpa using V
 simp [results,h,X,asAddr];rw [U];simp [Result.andThen]
theorem asY {X:Nat->Prop}{Q B first many:Nat}{closed:Bool}{D:List aam}(p:aam)(w:World)(h:ab9 X Q B first many closed D w)(hm:0<many)(hp:D[first]?=some p) :
  Calls ZP 251 #[.pointer (some ⟨Q,0,none⟩)] w fun e w'=>e=.returned (.agg #[.int .i64 p.1,.int .i64 p.2])/\ab9 X Q B ((first+1) % D.length) (many-1) closed (D.set first (0,0)) w'/\Chg X w w':=by
 obtain⟨W,hW⟩:∃W,W=(w.alloc (.cells #[.int .i64 0,.int .i64 0] 116)).alloc (.cells #[.int .i64 0,.int .i64 0] 116):=⟨_,rfl⟩;have hB:Below w.heap.size w W:=by rw [hW];exact (aa1 _ _).alloc (by simp) _
 have a2:W.heap.size=w.heap.size+1+1:=by rw [hW];simp
 have hO:Bx w.heap.size [.cells #[.int .i64 0,.int .i64 0] 116,.cells #[.int .i64 0,.int .i64 0] 116] W:=by rw [hW];exact ((Bx.nil _ w).snoc _ rfl).snoc _ (by simp)
 have hS:=h.below hB;have c0:W.cell? ⟨Q,0,none⟩=some (.slice (some ⟨B,0,none⟩) D.length D.length):=by simp [World.cell?,hS.box]
 have c1:W.cell? ⟨Q,1,none⟩=some (.int .i64 (first:Int)):=by simp [World.cell?,hS.box]
 obtain⟨r1,r2,r3,r4⟩:=h.room;obtain⟨L,hL⟩:∃L,D.length=L:=⟨_,rfl⟩;rw [hL] at c0;have i0:(0:Int)<=(first:Int):=by omega
 have i1:(first:Int)<(L:Int):=by omega
 obtain⟨y0,y1⟩:=ajr hp;have d0:W.cell? ⟨B,first*2,none⟩=some (.int .i64 p.1):=by simp [World.cell?,hS.places];exact y0
 have d1:W.cell? ⟨B,first*2+1,none⟩=some (.int .i64 p.2):=by simp [World.cell?,hS.places];exact y1
 have y:=hS.below (aa1 W (.cells #[.int .i64 0,.int .i64 0] 116));have C:(W.alloc (.cells #[.int .i64 0,.int .i64 0] 116)).heap[W.heap.size]?=some (.cells #[.int .i64 0,.int .i64 0] 116 (0,0)):=axg _ _;have a0:(W.alloc (.cells #[.int .i64 0,.int .i64 0] 116)).cell? ⟨Q,0,none⟩=some (.slice (some ⟨B,0,none⟩) L L):=by simp [World.cell?,y.box,hL]
 have a1:(W.alloc (.cells #[.int .i64 0,.int .i64 0] 116)).cell? ⟨Q,1,none⟩=some (.int .i64 (first:Int)):=by simp [World.cell?,y.box]
 have b0:(W.alloc (.cells #[.int .i64 0,.int .i64 0] 116)).cell? ⟨B,first*2,none⟩=some (.int .i64 p.1):=by simp [World.cell?,y.places];exact y0
 have n0:(W.alloc (.cells #[.int .i64 0,.int .i64 0] 116)).cell? ⟨W.heap.size,0,none⟩=some (.int .i64 0):=by simp only [World.cell?,C];simp
 have g0:(W.alloc (.cells #[.int .i64 0,.int .i64 0] 116)).frozen? ⟨W.heap.size,0,none⟩=false:=by simp only [World.frozen?,C];simp
 have b1:(W.alloc (.cells #[.int .i64 0,.int .i64 0] 116)).cell? ⟨B,first*2+1,none⟩=some (.int .i64 p.2):=by simp [World.cell?,y.places];exact y1
 have n1:(W.alloc (.cells #[.int .i64 0,.int .i64 0] 116)).cell? ⟨W.heap.size,1,none⟩=some (.int .i64 0):=by simp only [World.cell?,C];simp
 have g1:(W.alloc (.cells #[.int .i64 0,.int .i64 0] 116)).frozen? ⟨W.heap.size,1,none⟩=false:=by simp only [World.frozen?,C];simp
 have HO:=ax3 hO;have HS:=ax3 hS;go_enter func251,ntmps251;go_upto_region 2 with fail
 rw [<-hW];clear hW
 go_region
 obtain⟨Z,v⟩:∃U,U=(W.alloc (.cells #[.int .i64 p.1,.int .i64 p.2] 116)).drew:=⟨_,rfl⟩;rw [<-v];have x:Below W.heap.size W Z:=by rw [v];exact (aa1 _ _).trans ((aa2 _ 1).mono (by simp))
 have af:Z.heap[w.heap.size+1+1]?=some (.cells #[.int .i64 p.1,.int .i64 p.2] 116 (0,0)):=by rw [v,<-a2];exact axg _ _
 have Y:=HS.out.below x;have ad:=HO.out.below x;have ao:=ax3 (hB.trans (x.mono hB.size));have ai:=ax3 af;clear v x hS y C a0 a1 b0 n0 g0 d0 b1 n1 g1 d1 c0 c1 hO hB;have ag:Z.heap[w.heap.size]?=some (.cells #[.int .i64 0,.int .i64 0] 116 (0,0)):=by have:=ad 0 _ rfl;rwa [ayc] at this
 have a6:Z.heap[w.heap.size+1]?=some (.cells #[.int .i64 0,.int .i64 0] 116 (0,0)):=ad 1 _ rfl;have aj:=ax3 ag;have c0:Z.cell? ⟨Q,0,none⟩=some (.slice (some ⟨B,0,none⟩) L L):=by simp [World.cell?,Y.box,hL]
 have c1:Z.cell? ⟨Q,1,none⟩=some (.int .i64 (first:Int)):=by simp [World.cell?,Y.box]
 have o0:Z.cell? ⟨B,first*2,none⟩=some (.int .i64 p.1):=by simp [World.cell?,Y.places];exact y0
 have z0:Z.cell? ⟨w.heap.size+1,0,none⟩=some (.int .i64 0):=by simp [World.cell?,a6]
 have v0:Z.frozen? ⟨B,first*2,none⟩=false:=by simp [World.frozen?,Y.places]
 have o1:Z.cell? ⟨B,first*2+1,none⟩=some (.int .i64 p.2):=by simp [World.cell?,Y.places];exact y1
 have z1:Z.cell? ⟨w.heap.size+1,1,none⟩=some (.int .i64 0):=by simp [World.cell?,a6]
 have v1:Z.frozen? ⟨B,first*2+1,none⟩=false:=by simp [World.frozen?,Y.places]
 have z:ab9 X Q B first many closed D Z.drew:=Y.below (aa2 Z 1);obtain⟨g1,g2⟩:=z.setP first (0,0);have g3:Chg (fun k=>k=B) Z.drew (ab9.putW Z.drew B first (0,0)):=by unfold ab9.putW;exact ((Chg.refl (fun k=>k=B) _).set (show B=B from rfl)).set (show B=B from rfl)
 obtain⟨H,J⟩:∃V,V=(ab9.putW Z B first (0,0)).drew:=⟨_,rfl⟩;have g1:ab9 X Q B first many closed (D.set first (0,0)) H:=by rw [J];exact g1
 have g2:Chg X Z H:=by rw [J];exact (Chg.of_same (aa2 Z 1)).then g2
 have g3:Chg (fun k=>k=B) Z H:=by rw [J];exact (Chg.of_same (aa2 Z 1)).then g3
 unfold ab9.putW at J;have G1:=ax3 g1;have G2:=ax3 g2;have G3:=ax3 g3;clear Y ad ag a6 af z g1 g2 g3;go_upto_region 3 with fail
 go_region
 rw [<-J];clear J c0 c1 o0 z0 v0 o1 z1 v1;have c0:H.cell? ⟨Q,0,none⟩=some (.slice (some ⟨B,0,none⟩) L L):=by simp [World.cell?,G1.out.box,hL]
 have c1:H.cell? ⟨Q,1,none⟩=some (.int .i64 (first:Int)):=by simp [World.cell?,G1.out.box]
 have f1:H.frozen? ⟨Q,1,none⟩=false:=by simp [World.frozen?,G1.out.box]
 have e1:IntKind.i64.wrap ((first:Int)+1)=((first+1:Nat):Int):=by rw [ax2];omega
 have e2:((first+1:Nat):Int).tmod (L:Int)=(((first+1) % L:Nat):Int):=by rw [ay2 (by omega)];simp
 have a7:(first+1) % L<L:=ay3 _ (by omega);have z0:¬(L:Int)=0:=by omega
 have z1:¬L=0:=by omega
 obtain⟨s,hs⟩:∃s,first+1=s:=⟨_,rfl⟩;obtain⟨i,hi⟩:∃i,s % L=i:=⟨_,rfl⟩;rw [hs] at e1 e2 a7;rw [hi] at e2 a7;obtain⟨o,A⟩:∃V,V=(H.setCell ⟨Q,1,none⟩ (.int .i64 (i:Int))).drew:=⟨_,rfl⟩;have z:ab9 X Q B first many closed (D.set first (0,0)) H.drew:=G1.out.below (aa2 H 1);obtain⟨h1,h2⟩:=z.setF i (by rw [axb,hL];exact a7);have h1:ab9 X Q B i many closed (D.set first (0,0)) o:=by rw [A];exact h1
 have h2:Chg X H o:=by rw [A];exact (Chg.of_same (aa2 H 1)).then h2
 have h3:Chg (fun k=>k=Q) H o:=by rw [A];exact (Chg.of_same (aa2 H 1)).then ((Chg.refl (fun k=>k=Q) _).set (show Q=Q from rfl))
 have ew:IntKind.i64.wrap ((many:Int)-1)=((many-1:Nat):Int):=by rw [ax2];omega
 obtain⟨M,hM⟩:∃M,many-1=M:=⟨_,rfl⟩;rw [hM] at ew;obtain⟨q1,q2⟩:=h1.setM M (by rw [axb];omega);have q3:Chg (fun k=>k=Q) o (o.setCell ⟨Q,2,none⟩ (.int .i64 (M:Int))):=(Chg.refl (fun k=>k=Q) _).set (show Q=Q from rfl);have m2:o.cell? ⟨Q,2,none⟩=some (.int .i64 (many:Int)):=by simp [World.cell?,h1.box]
 have n2:o.frozen? ⟨Q,2,none⟩=false:=by simp [World.frozen?,h1.box]
 obtain⟨I,ab⟩:∃V,V=o.setCell ⟨Q,2,none⟩ (.int .i64 (M:Int)):=⟨_,rfl⟩;rw [<-ab] at q1 q2 q3;have ae:=(awU.1 h.places).1;have ac:=(awU.1 h.box).1;have a8:∀k,w.heap.size<=k->k<Z.heap.size->I.heap[k]?=Z.heap[k]?:=fun k hk ak=>
  (q3.block k (by have:=G3.out.size;have:=h3.size;omega) (by show k≠Q;omega)).trans ((h3.block k (by have:=G3.out.size;omega) (by show k≠Q;omega)).trans (G3.out.block k ak (by show k≠B;omega)))
 have j:I.heap[w.heap.size+1+1]?=_:=(a8 _ (by omega) (awU.1 ai.out).1).trans ai.out;have N:I.heap[w.heap.size]?=_:=(a8 _ (by omega) (awU.1 aj.out).1).trans aj.out;have x0:I.cell? ⟨w.heap.size+1+1,0,none⟩=some (.int .i64 p.1):=by simp [World.cell?,j]
 have t0:I.cell? ⟨w.heap.size,0,none⟩=some (.int .i64 0):=by simp [World.cell?,N]
 have u0:I.frozen? ⟨w.heap.size,0,none⟩=false:=by simp [World.frozen?,N]
 have x1:I.cell? ⟨w.heap.size+1+1,1,none⟩=some (.int .i64 p.2):=by simp [World.cell?,j]
 have t1:I.cell? ⟨w.heap.size,1,none⟩=some (.int .i64 0):=by simp [World.cell?,N]
 have u1:I.frozen? ⟨w.heap.size,1,none⟩=false:=by simp [World.frozen?,N]
 have Q1:=ax3 q1;have Q2:=ax3 ((Chg.of_same ao.out).then (G2.out.then (h2.then q2)));have aq:=ax3 a2;have al:=ax3 N;have HL:=ax3 (And.intro hL (And.intro hs (And.intro hi hM)));have am:=ax3 (And.intro ac ae);clear z h1 h2 h3 q1 q2 q3 a8 j N ae ac h r1 r2 r3 r4 hp y0 y1 hL hs hi hM a2;go_upto_region 4 with fail
 go_region
 rw [<-A];clear A c0 c1 f1;go_upto_region 6 with fail
 rw [<-ab];clear ab m2 n2;go_wp2;have aa:Chg (fun k=>k=w.heap.size) I ((I.setCell ⟨w.heap.size,0,none⟩ (.int .i64 p.1)).setCell ⟨w.heap.size,1,none⟩ (.int .i64 p.2)):=((Chg.refl (fun k=>k=w.heap.size) I).set (show w.heap.size=w.heap.size from rfl)).set (show w.heap.size=w.heap.size from rfl);have ah:((I.setCell ⟨w.heap.size,0,none⟩ (.int .i64 p.1)).setCell ⟨w.heap.size,1,none⟩ (.int .i64 p.2)).heap[w.heap.size]?=some (.cells #[.int .i64 p.1,.int .i64 p.2] 116 (0,0)):=by
  have s1:=aa4 (i:=0) al.out (.int .i64 p.1);have s2:=aa4 (i:=1) s1 (.int .i64 p.2);exact s2
 refine bodyPost_ret (aiY (B:=w.heap.size) rfl rfl ah) rfl ?_;obtain⟨ac,ae⟩:=am.out;have ap:=Q2.out.size;obtain⟨l1,l2,l3,l4⟩:=HL.out;refine⟨rfl,?_,?_⟩
 · rw [l1,l2,l3,l4];exact⟨(aa.block Q (by omega) (by show Q≠w.heap.size;omega)).trans Q1.out.box,(aa.block B (by omega) (by show B≠w.heap.size;omega)).trans Q1.out.places,Q1.out.inX,Q1.out.ne,Q1.out.room⟩
 · exact Q2.out.trans aa fun k hk e=>absurd e (by omega)
theorem aqR {X:Nat->Prop}{Q B first many:Nat}{closed:Bool}{H:List aam}(p:aam)(w:World)(h:ab9 X Q B first many closed H w)(j:0<many)(o:H[first]?=some p) :
  Calls ZP 210 #[.pointer (some ⟨Q,0,none⟩)] w fun e w'=>e=.returned (.tuple #[.agg #[.int .i64 p.1,.int .i64 p.2],.bool true])/\ab9 X Q B ((first+1) % H.length) (many-1) closed (H.set first (0,0)) w'/\Chg X w w':=by
 obtain⟨W,hW⟩:∃W,W=w.alloc (.cells #[.int .i64 0,.int .i64 0] 116):=⟨_,rfl⟩;have z:Below w.heap.size w W:=by rw [hW];exact aa1 _ _
 have s:W.heap[w.heap.size]?=some (.cells #[.int .i64 0,.int .i64 0] 116 (0,0)):=by rw [hW];exact axg _ _
 have N:=(awU.1 h.box).1;have J:=(awU.1 h.places).1;have V:W.heap.size=w.heap.size+1:=by rw [hW];simp
 have D:ab9 (fun k=>k=Q∨k=B) Q B first many closed H W:=⟨(h.below z).box,(h.below z).places,⟨.inl rfl,.inr rfl⟩,h.ne,h.room⟩;have HP:=ax3 (asY p W D j o);have c2:W.cell? ⟨Q,2,none⟩=some (.int .i64 (many:Int)):=by simp [World.cell?,D.box]
 have e0:decide ((many:Int)=0)=false:=by simp;omega
 have e1:((many:Int)==0)=false:=by simp;omega
 have e2:decide (many=0)=false:=by simp;omega
 have HX:=ax3 s;have HS:=ax3 (And.intro N (And.intro J V));have x:=ax3 h.inX;have HB:=ax3 z;clear h s j o z D N J V;go_enter func210,ntmps210;go_upto_region 1 with fail
 rw [<-hW];clear hW;go_upto_region 3 with fail
 clear c2
 go_wp2_with fail
 refine HP.out.mono ?_;rintro e Y ⟨rfl,C,A⟩;obtain⟨N,J,V⟩:=HS.out;have Z:Y.heap[w.heap.size]?=some (.cells #[.int .i64 0,.int .i64 0] 116 (0,0)):=(A.block w.heap.size (by omega) (by show ¬(w.heap.size=Q∨w.heap.size=B);omega)).trans HX.out;have x0:Y.cell? ⟨w.heap.size,0,none⟩=some (.int .i64 0):=by simp [World.cell?,Z]
 have u0:Y.frozen? ⟨w.heap.size,0,none⟩=false:=by simp [World.frozen?,Z]
 have x1:Y.cell? ⟨w.heap.size,1,none⟩=some (.int .i64 0):=by simp [World.cell?,Z]
 have u1:Y.frozen? ⟨w.heap.size,1,none⟩=false:=by simp [World.frozen?,Z]
 have U:Chg (fun k=>k=w.heap.size) Y ((Y.setCell ⟨w.heap.size,0,none⟩ (.int .i64 p.1)).setCell ⟨w.heap.size,1,none⟩ (.int .i64 p.2)):=((Chg.refl (fun k=>k=w.heap.size) Y).set (show w.heap.size=w.heap.size from rfl)).set (show w.heap.size=w.heap.size from rfl);have I:((Y.setCell ⟨w.heap.size,0,none⟩ (.int .i64 p.1)).setCell ⟨w.heap.size,1,none⟩ (.int .i64 p.2)).heap[w.heap.size]?=some (.cells #[.int .i64 p.1,.int .i64 p.2] 116 (0,0)):=by
  have s1:=aa4 (i:=0) Z (.int .i64 p.1);have s2:=aa4 (i:=1) s1 (.int .i64 p.2);exact s2
 have y:=A.size;have hF:ab9 X Q B ((first+1) % H.length) (many-1) closed (H.set first (0,0)) ((Y.setCell ⟨w.heap.size,0,none⟩ (.int .i64 p.1)).setCell ⟨w.heap.size,1,none⟩ (.int .i64 p.2)):=⟨(U.block Q (by omega) (by show Q≠w.heap.size;omega)).trans C.box,(U.block B (by omega) (by show B≠w.heap.size;omega)).trans C.places,x.out,C.ne,C.room⟩;have hC:Chg X w ((Y.setCell ⟨w.heap.size,0,none⟩ (.int .i64 p.1)).setCell ⟨w.heap.size,1,none⟩ (.int .i64 p.2)):=((Chg.of_same HB.out).then (A.mono fun k _ e=>e.elim (fun e=>by rw [e];exact x.out.1) fun e=>by rw [e];exact x.out.2)).trans U fun k hk e=>absurd e (by omega);have v:=ax3 I;have HF:=ax3 hF;have HC:=ax3 hC;clear C A Z U I hF hC N J V y;go_wp2;refine bodyPost_ret (aiP (B:=w.heap.size) rfl rfl v.out) rfl ?_;exact⟨rfl,HF.out,HC.out⟩
end Go.Proofs.YtaamacoicojhnaaGreat
