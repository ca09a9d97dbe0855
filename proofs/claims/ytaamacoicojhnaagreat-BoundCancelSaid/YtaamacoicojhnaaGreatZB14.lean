/- Proofs over the given program, part 14. -/
import Derived.Test.YtaamacoicojhnaaGreatZB13
set_option linter.unusedVariables false
set_option linter.unusedSimpArgs false
set_option maxRecDepth 100000
set_option maxHeartbeats 16000000
open Go.Proofs.Tryz
open Go.Proofs.Tryz renaming prog→ZP
namespace Go.Proofs.YtaamacoicojhnaaGreat
open Go.RowKit Go.Sort
theorem aj4 {fn:Func}{p:Tmp}{tmps:Array Value}{W:World}{B:Nat}(h:fn.results=#[.cell p 126])(J:tmps.getD p undef=.pointer (some ⟨B,0,none⟩)){U V X Y Z:Value}(H:W.heap[B]?=some (.cells #[U,V,X,Y,Z] 126 (0,0))) :
  (results fn tmps).run ZP W=.ok (.agg #[U,V,X,Y,Z]) W:=by
 have I:(loadVar 126 ⟨B,0,none⟩).run ZP W=.ok (.agg #[U,V,X,Y,Z]) W:=run_loadVar_row W B 126 126 #[U,V,X,Y,Z] (0,0) _ H underlying126 rfl (by kernel_rfl);have N:tmps[p]?.getD undef=.pointer (some ⟨B,0,none⟩):=by simpa using J
 simp [results,h,N,asAddr];rw [I]
theorem af3 {fn:Func}{p u:Tmp}{tmps:Array Value}{W:World}{B:Nat}(h:fn.results=#[.cell p 126,.tmp u])(J:tmps.getD p undef=.pointer (some ⟨B,0,none⟩)){U V X Y Z:Value}(H:W.heap[B]?=some (.cells #[U,V,X,Y,Z] 126 (0,0))) :
  (results fn tmps).run ZP W=.ok (.tuple #[.agg #[U,V,X,Y,Z],tmps.getD u undef]) W:=by
 have I:(loadVar 126 ⟨B,0,none⟩).run ZP W=.ok (.agg #[U,V,X,Y,Z]) W:=run_loadVar_row W B 126 126 #[U,V,X,Y,Z] (0,0) _ H underlying126 rfl (by kernel_rfl);have N:tmps[p]?.getD undef=.pointer (some ⟨B,0,none⟩):=by simpa using J
 simp [results,h,N,asAddr];rw [I];simp [Result.andThen]
theorem ats {X:Nat->Prop}{Q B first many:Nat}{closed:Bool}{y:List PcW}(p:PcW)(w:World)(h:abd X Q B first many closed y w)(hm:0<many)(hp:y[first]?=some p) :
  Calls ZP 240 #[.pointer (some ⟨Q,0,none⟩)] w fun e w'=>e=.returned (.agg #[.int .i64 p.num,.int .i64 p.start,.int .i64 p.warm,.slice p.a p.m p.c,.int .i64 p.buf])/\abd X Q B ((first+1) % y.length) (many-1) closed (y.set first ⟨0,0,0,none,0,0,0⟩) w'/\Chg X w w':=by
 obtain⟨W,hW⟩:∃W,W=(w.alloc (.cells #[.int .i64 0,.int .i64 0,.int .i64 0,.slice none 0 0,.int .i64 0] 126)).alloc (.cells #[.int .i64 0,.int .i64 0,.int .i64 0,.slice none 0 0,.int .i64 0] 126):=⟨_,rfl⟩;have hB:Below w.heap.size w W:=by rw [hW];exact (aa1 _ _).alloc (by simp) _
 have a6:W.heap.size=w.heap.size+1+1:=by rw [hW];simp
 have hO:Bx w.heap.size [.cells #[.int .i64 0,.int .i64 0,.int .i64 0,.slice none 0 0,.int .i64 0] 126,.cells #[.int .i64 0,.int .i64 0,.int .i64 0,.slice none 0 0,.int .i64 0] 126] W:=by rw [hW];exact ((Bx.nil _ w).snoc _ rfl).snoc _ (by simp)
 have o:=h.below hB;have c0:W.cell? ⟨Q,0,none⟩=some (.slice (some ⟨B,0,none⟩) y.length y.length):=by simp [World.cell?,o.box]
 have c1:W.cell? ⟨Q,1,none⟩=some (.int .i64 (first:Int)):=by simp [World.cell?,o.box]
 obtain⟨r1,r2,r3,r4⟩:=h.room;obtain⟨L,hL⟩:∃L,y.length=L:=⟨_,rfl⟩;rw [hL] at c0;have i0:(0:Int)<=(first:Int):=by omega
 have i1:(first:Int)<(L:Int):=by omega
 obtain⟨y0,y1,y2,y3,y4⟩:=alx hp;have d0:W.cell? ⟨B,first*5,none⟩=some (.int .i64 p.num):=by simp [World.cell?,o.places];exact y0
 have d1:W.cell? ⟨B,first*5+1,none⟩=some (.int .i64 p.start):=by simp [World.cell?,o.places];exact y1
 have d2:W.cell? ⟨B,first*5+2,none⟩=some (.int .i64 p.warm):=by simp [World.cell?,o.places];exact y2
 have d3:W.cell? ⟨B,first*5+3,none⟩=some (.slice p.a p.m p.c):=by simp [World.cell?,o.places];exact y3
 have d4:W.cell? ⟨B,first*5+4,none⟩=some (.int .i64 p.buf):=by simp [World.cell?,o.places];exact y4
 have H:=o.below (aa1 W (.cells #[.int .i64 0,.int .i64 0,.int .i64 0,.slice none 0 0,.int .i64 0] 126));have J:(W.alloc (.cells #[.int .i64 0,.int .i64 0,.int .i64 0,.slice none 0 0,.int .i64 0] 126)).heap[W.heap.size]?=some (.cells #[.int .i64 0,.int .i64 0,.int .i64 0,.slice none 0 0,.int .i64 0] 126 (0,0)):=axg _ _;have a0:(W.alloc (.cells #[.int .i64 0,.int .i64 0,.int .i64 0,.slice none 0 0,.int .i64 0] 126)).cell? ⟨Q,0,none⟩=some (.slice (some ⟨B,0,none⟩) L L):=by simp [World.cell?,H.box,hL]
 have a1:(W.alloc (.cells #[.int .i64 0,.int .i64 0,.int .i64 0,.slice none 0 0,.int .i64 0] 126)).cell? ⟨Q,1,none⟩=some (.int .i64 (first:Int)):=by simp [World.cell?,H.box]
 have b0:(W.alloc (.cells #[.int .i64 0,.int .i64 0,.int .i64 0,.slice none 0 0,.int .i64 0] 126)).cell? ⟨B,first*5,none⟩=some (.int .i64 p.num):=by simp [World.cell?,H.places];exact y0
 have n0:(W.alloc (.cells #[.int .i64 0,.int .i64 0,.int .i64 0,.slice none 0 0,.int .i64 0] 126)).cell? ⟨W.heap.size,0,none⟩=some (.int .i64 0):=by simp only [World.cell?,J];simp
 have g0:(W.alloc (.cells #[.int .i64 0,.int .i64 0,.int .i64 0,.slice none 0 0,.int .i64 0] 126)).frozen? ⟨W.heap.size,0,none⟩=false:=by simp only [World.frozen?,J];simp
 have b1:(W.alloc (.cells #[.int .i64 0,.int .i64 0,.int .i64 0,.slice none 0 0,.int .i64 0] 126)).cell? ⟨B,first*5+1,none⟩=some (.int .i64 p.start):=by simp [World.cell?,H.places];exact y1
 have n1:(W.alloc (.cells #[.int .i64 0,.int .i64 0,.int .i64 0,.slice none 0 0,.int .i64 0] 126)).cell? ⟨W.heap.size,1,none⟩=some (.int .i64 0):=by simp only [World.cell?,J];simp
 have g1:(W.alloc (.cells #[.int .i64 0,.int .i64 0,.int .i64 0,.slice none 0 0,.int .i64 0] 126)).frozen? ⟨W.heap.size,1,none⟩=false:=by simp only [World.frozen?,J];simp
 have b2:(W.alloc (.cells #[.int .i64 0,.int .i64 0,.int .i64 0,.slice none 0 0,.int .i64 0] 126)).cell? ⟨B,first*5+2,none⟩=some (.int .i64 p.warm):=by simp [World.cell?,H.places];exact y2
 have n2:(W.alloc (.cells #[.int .i64 0,.int .i64 0,.int .i64 0,.slice none 0 0,.int .i64 0] 126)).cell? ⟨W.heap.size,2,none⟩=some (.int .i64 0):=by simp only [World.cell?,J];simp
 have g2:(W.alloc (.cells #[.int .i64 0,.int .i64 0,.int .i64 0,.slice none 0 0,.int .i64 0] 126)).frozen? ⟨W.heap.size,2,none⟩=false:=by simp only [World.frozen?,J];simp
 have b3:(W.alloc (.cells #[.int .i64 0,.int .i64 0,.int .i64 0,.slice none 0 0,.int .i64 0] 126)).cell? ⟨B,first*5+3,none⟩=some (.slice p.a p.m p.c):=by simp [World.cell?,H.places];exact y3
 have n3:(W.alloc (.cells #[.int .i64 0,.int .i64 0,.int .i64 0,.slice none 0 0,.int .i64 0] 126)).cell? ⟨W.heap.size,3,none⟩=some (.slice none 0 0):=by simp only [World.cell?,J];simp
 have g3:(W.alloc (.cells #[.int .i64 0,.int .i64 0,.int .i64 0,.slice none 0 0,.int .i64 0] 126)).frozen? ⟨W.heap.size,3,none⟩=false:=by simp only [World.frozen?,J];simp
 have b4:(W.alloc (.cells #[.int .i64 0,.int .i64 0,.int .i64 0,.slice none 0 0,.int .i64 0] 126)).cell? ⟨B,first*5+4,none⟩=some (.int .i64 p.buf):=by simp [World.cell?,H.places];exact y4
 have n4:(W.alloc (.cells #[.int .i64 0,.int .i64 0,.int .i64 0,.slice none 0 0,.int .i64 0] 126)).cell? ⟨W.heap.size,4,none⟩=some (.int .i64 0):=by simp only [World.cell?,J];simp
 have g4:(W.alloc (.cells #[.int .i64 0,.int .i64 0,.int .i64 0,.slice none 0 0,.int .i64 0] 126)).frozen? ⟨W.heap.size,4,none⟩=false:=by simp only [World.frozen?,J];simp
 have HO:=ax3 hO;have HS:=ax3 o;go_enter func240,ntmps240;go_upto_region 2 with fail
 rw [<-hW];clear hW
 go_region
 obtain⟨Z,a2⟩:∃U,U=(W.alloc (.cells #[.int .i64 p.num,.int .i64 p.start,.int .i64 p.warm,.slice p.a p.m p.c,.int .i64 p.buf] 126)).drew:=⟨_,rfl⟩;rw [<-a2];have j:Below W.heap.size W Z:=by rw [a2];exact (aa1 _ _).trans ((aa2 _ 1).mono (by simp))
 have af:Z.heap[w.heap.size+1+1]?=some (.cells #[.int .i64 p.num,.int .i64 p.start,.int .i64 p.warm,.slice p.a p.m p.c,.int .i64 p.buf] 126 (0,0)):=by rw [a2,<-a6];exact axg _ _
 have Y:=HS.out.below j;have ad:=HO.out.below j;have ao:=ax3 (hB.trans (j.mono hB.size));have ai:=ax3 af;clear a2 j o H J a0 a1 b0 n0 g0 d0 b1 n1 g1 d1 b2 n2 g2 d2 b3 n3 g3 d3 b4 n4 g4 d4 c0 c1 hO hB;have ag:Z.heap[w.heap.size]?=some (.cells #[.int .i64 0,.int .i64 0,.int .i64 0,.slice none 0 0,.int .i64 0] 126 (0,0)):=by have:=ad 0 _ rfl;rwa [ayc] at this
 have C:Z.heap[w.heap.size+1]?=some (.cells #[.int .i64 0,.int .i64 0,.int .i64 0,.slice none 0 0,.int .i64 0] 126 (0,0)):=ad 1 _ rfl;have aj:=ax3 ag;have c0:Z.cell? ⟨Q,0,none⟩=some (.slice (some ⟨B,0,none⟩) L L):=by simp [World.cell?,Y.box,hL]
 have c1:Z.cell? ⟨Q,1,none⟩=some (.int .i64 (first:Int)):=by simp [World.cell?,Y.box]
 have o0:Z.cell? ⟨B,first*5,none⟩=some (.int .i64 p.num):=by simp [World.cell?,Y.places];exact y0
 have z0:Z.cell? ⟨w.heap.size+1,0,none⟩=some (.int .i64 0):=by simp [World.cell?,C]
 have v0:Z.frozen? ⟨B,first*5,none⟩=false:=by simp [World.frozen?,Y.places]
 have o1:Z.cell? ⟨B,first*5+1,none⟩=some (.int .i64 p.start):=by simp [World.cell?,Y.places];exact y1
 have z1:Z.cell? ⟨w.heap.size+1,1,none⟩=some (.int .i64 0):=by simp [World.cell?,C]
 have v1:Z.frozen? ⟨B,first*5+1,none⟩=false:=by simp [World.frozen?,Y.places]
 have o2:Z.cell? ⟨B,first*5+2,none⟩=some (.int .i64 p.warm):=by simp [World.cell?,Y.places];exact y2
 have z2:Z.cell? ⟨w.heap.size+1,2,none⟩=some (.int .i64 0):=by simp [World.cell?,C]
 have v2:Z.frozen? ⟨B,first*5+2,none⟩=false:=by simp [World.frozen?,Y.places]
 have o3:Z.cell? ⟨B,first*5+3,none⟩=some (.slice p.a p.m p.c):=by simp [World.cell?,Y.places];exact y3
 have z3:Z.cell? ⟨w.heap.size+1,3,none⟩=some (.slice none 0 0):=by simp [World.cell?,C]
 have v3:Z.frozen? ⟨B,first*5+3,none⟩=false:=by simp [World.frozen?,Y.places]
 have o4:Z.cell? ⟨B,first*5+4,none⟩=some (.int .i64 p.buf):=by simp [World.cell?,Y.places];exact y4
 have z4:Z.cell? ⟨w.heap.size+1,4,none⟩=some (.int .i64 0):=by simp [World.cell?,C]
 have v4:Z.frozen? ⟨B,first*5+4,none⟩=false:=by simp [World.frozen?,Y.places]
 have v:abd X Q B first many closed y Z.drew:=Y.below (aa2 Z 1);obtain⟨g1,g2⟩:=v.setP first ⟨0,0,0,none,0,0,0⟩;have g3:Chg (fun k=>k=B) Z.drew (abd.putW Z.drew B first ⟨0,0,0,none,0,0,0⟩):=by unfold abd.putW;exact (((((Chg.refl (fun k=>k=B) _).set (show B=B from rfl)).set (show B=B from rfl)).set (show B=B from rfl)).set (show B=B from rfl)).set (show B=B from rfl)
 obtain⟨z,A⟩:∃V,V=(abd.putW Z B first ⟨0,0,0,none,0,0,0⟩).drew:=⟨_,rfl⟩;have g1:abd X Q B first many closed (y.set first ⟨0,0,0,none,0,0,0⟩) z:=by rw [A];exact g1
 have g2:Chg X Z z:=by rw [A];exact (Chg.of_same (aa2 Z 1)).then g2
 have g3:Chg (fun k=>k=B) Z z:=by rw [A];exact (Chg.of_same (aa2 Z 1)).then g3
 unfold abd.putW at A;have G1:=ax3 g1;have G2:=ax3 g2;have G3:=ax3 g3;clear Y ad ag C af v g1 g2 g3;go_upto_region 3 with fail
 go_region
 rw [<-A];clear A c0 c1 o0 z0 v0 o1 z1 v1 o2 z2 v2 o3 z3 v3 o4 z4 v4;have c0:z.cell? ⟨Q,0,none⟩=some (.slice (some ⟨B,0,none⟩) L L):=by simp [World.cell?,G1.out.box,hL]
 have c1:z.cell? ⟨Q,1,none⟩=some (.int .i64 (first:Int)):=by simp [World.cell?,G1.out.box]
 have f1:z.frozen? ⟨Q,1,none⟩=false:=by simp [World.frozen?,G1.out.box]
 have e1:IntKind.i64.wrap ((first:Int)+1)=((first+1:Nat):Int):=by rw [ax2];omega
 have e2:((first+1:Nat):Int).tmod (L:Int)=(((first+1) % L:Nat):Int):=by rw [ay2 (by omega)];simp
 have a7:(first+1) % L<L:=ay3 _ (by omega);have z0:¬(L:Int)=0:=by omega
 have z1:¬L=0:=by omega
 obtain⟨s,hs⟩:∃s,first+1=s:=⟨_,rfl⟩;obtain⟨i,hi⟩:∃i,s % L=i:=⟨_,rfl⟩;rw [hs] at e1 e2 a7;rw [hi] at e2 a7;obtain⟨W4,x⟩:∃V,V=(z.setCell ⟨Q,1,none⟩ (.int .i64 (i:Int))).drew:=⟨_,rfl⟩;have v:abd X Q B first many closed (y.set first ⟨0,0,0,none,0,0,0⟩) z.drew:=G1.out.below (aa2 z 1);obtain⟨h1,h2⟩:=v.setF i (by rw [axb,hL];exact a7);have h1:abd X Q B i many closed (y.set first ⟨0,0,0,none,0,0,0⟩) W4:=by rw [x];exact h1
 have h2:Chg X z W4:=by rw [x];exact (Chg.of_same (aa2 z 1)).then h2
 have h3:Chg (fun k=>k=Q) z W4:=by rw [x];exact (Chg.of_same (aa2 z 1)).then ((Chg.refl (fun k=>k=Q) _).set (show Q=Q from rfl))
 have ew:IntKind.i64.wrap ((many:Int)-1)=((many-1:Nat):Int):=by rw [ax2];omega
 obtain⟨M,hM⟩:∃M,many-1=M:=⟨_,rfl⟩;rw [hM] at ew;obtain⟨q1,q2⟩:=h1.setM M (by rw [axb];omega);have q3:Chg (fun k=>k=Q) W4 (W4.setCell ⟨Q,2,none⟩ (.int .i64 (M:Int))):=(Chg.refl (fun k=>k=Q) _).set (show Q=Q from rfl);have m2:W4.cell? ⟨Q,2,none⟩=some (.int .i64 (many:Int)):=by simp [World.cell?,h1.box]
 have n2:W4.frozen? ⟨Q,2,none⟩=false:=by simp [World.frozen?,h1.box]
 obtain⟨I,ab⟩:∃V,V=W4.setCell ⟨Q,2,none⟩ (.int .i64 (M:Int)):=⟨_,rfl⟩;rw [<-ab] at q1 q2 q3;have ae:=(awU.1 h.places).1;have ac:=(awU.1 h.box).1;have a8:∀k,w.heap.size<=k->k<Z.heap.size->I.heap[k]?=Z.heap[k]?:=fun k hk ak=>
  (q3.block k (by have:=G3.out.size;have:=h3.size;omega) (by show k≠Q;omega)).trans ((h3.block k (by have:=G3.out.size;omega) (by show k≠Q;omega)).trans (G3.out.block k ak (by show k≠B;omega)))
 have D:I.heap[w.heap.size+1+1]?=_:=(a8 _ (by omega) (awU.1 ai.out).1).trans ai.out;have N:I.heap[w.heap.size]?=_:=(a8 _ (by omega) (awU.1 aj.out).1).trans aj.out;have x0:I.cell? ⟨w.heap.size+1+1,0,none⟩=some (.int .i64 p.num):=by simp [World.cell?,D]
 have t0:I.cell? ⟨w.heap.size,0,none⟩=some (.int .i64 0):=by simp [World.cell?,N]
 have u0:I.frozen? ⟨w.heap.size,0,none⟩=false:=by simp [World.frozen?,N]
 have x1:I.cell? ⟨w.heap.size+1+1,1,none⟩=some (.int .i64 p.start):=by simp [World.cell?,D]
 have t1:I.cell? ⟨w.heap.size,1,none⟩=some (.int .i64 0):=by simp [World.cell?,N]
 have u1:I.frozen? ⟨w.heap.size,1,none⟩=false:=by simp [World.frozen?,N]
 have x2:I.cell? ⟨w.heap.size+1+1,2,none⟩=some (.int .i64 p.warm):=by simp [World.cell?,D]
 have t2:I.cell? ⟨w.heap.size,2,none⟩=some (.int .i64 0):=by simp [World.cell?,N]
 have u2:I.frozen? ⟨w.heap.size,2,none⟩=false:=by simp [World.frozen?,N]
 have x3:I.cell? ⟨w.heap.size+1+1,3,none⟩=some (.slice p.a p.m p.c):=by simp [World.cell?,D]
 have t3:I.cell? ⟨w.heap.size,3,none⟩=some (.slice none 0 0):=by simp [World.cell?,N]
 have u3:I.frozen? ⟨w.heap.size,3,none⟩=false:=by simp [World.frozen?,N]
 have x4:I.cell? ⟨w.heap.size+1+1,4,none⟩=some (.int .i64 p.buf):=by simp [World.cell?,D]
 have t4:I.cell? ⟨w.heap.size,4,none⟩=some (.int .i64 0):=by simp [World.cell?,N]
 have u4:I.frozen? ⟨w.heap.size,4,none⟩=false:=by simp [World.frozen?,N]
 have Q1:=ax3 q1;have Q2:=ax3 ((Chg.of_same ao.out).then (G2.out.then (h2.then q2)));have aq:=ax3 a6;have al:=ax3 N;have HL:=ax3 (And.intro hL (And.intro hs (And.intro hi hM)));have am:=ax3 (And.intro ac ae);clear v h1 h2 h3 q1 q2 q3 a8 D N ae ac h r1 r2 r3 r4 hp y0 y1 y2 y3 y4 hL hs hi hM a6;go_upto_region 4 with fail
 go_region
 rw [<-x];clear x c0 c1 f1;go_upto_region 6 with fail
 rw [<-ab];clear ab m2 n2;go_wp2;have aa:Chg (fun k=>k=w.heap.size) I (((((I.setCell ⟨w.heap.size,0,none⟩ (.int .i64 p.num)).setCell ⟨w.heap.size,1,none⟩ (.int .i64 p.start)).setCell ⟨w.heap.size,2,none⟩ (.int .i64 p.warm)).setCell ⟨w.heap.size,3,none⟩ (.slice p.a p.m p.c)).setCell ⟨w.heap.size,4,none⟩ (.int .i64 p.buf)):=(((((Chg.refl (fun k=>k=w.heap.size) I).set (show w.heap.size=w.heap.size from rfl)).set (show w.heap.size=w.heap.size from rfl)).set (show w.heap.size=w.heap.size from rfl)).set (show w.heap.size=w.heap.size from rfl)).set (show w.heap.size=w.heap.size from rfl);have ah:(((((I.setCell ⟨w.heap.size,0,none⟩ (.int .i64 p.num)).setCell ⟨w.heap.size,1,none⟩ (.int .i64 p.start)).setCell ⟨w.heap.size,2,none⟩ (.int .i64 p.warm)).setCell ⟨w.heap.size,3,none⟩ (.slice p.a p.m p.c)).setCell ⟨w.heap.size,4,none⟩ (.int .i64 p.buf)).heap[w.heap.size]?=some (.cells #[.int .i64 p.num,.int .i64 p.start,.int .i64 p.warm,.slice p.a p.m p.c,.int .i64 p.buf] 126 (0,0)):=by
  have s1:=aa4 (i:=0) al.out (.int .i64 p.num);have s2:=aa4 (i:=1) s1 (.int .i64 p.start);have s3:=aa4 (i:=2) s2 (.int .i64 p.warm);have s4:=aa4 (i:=3) s3 (.slice p.a p.m p.c);have s5:=aa4 (i:=4) s4 (.int .i64 p.buf);exact s5
 refine bodyPost_ret (aj4 (B:=w.heap.size) rfl rfl ah) rfl ?_;obtain⟨ac,ae⟩:=am.out;have ap:=Q2.out.size;obtain⟨l1,l2,l3,l4⟩:=HL.out;refine⟨rfl,?_,?_⟩
 · rw [l1,l2,l3,l4];exact⟨(aa.block Q (by omega) (by show Q≠w.heap.size;omega)).trans Q1.out.box,(aa.block B (by omega) (by show B≠w.heap.size;omega)).trans Q1.out.places,Q1.out.inX,Q1.out.ne,Q1.out.room⟩
 · exact Q2.out.trans aa fun k hk e=>absurd e (by omega)
theorem apd {X:Nat->Prop}{Q B first many:Nat}{closed:Bool}{J:List PcW}(w:World)(h:abd X Q B first many closed J w)(y:many=0) :
  Calls ZP 199 #[.pointer (some ⟨Q,0,none⟩)] w fun e w'=>e=.returned (.tuple #[.agg #[.int .i64 0,.int .i64 0,.int .i64 0,.slice none 0 0,.int .i64 0],.bool false])/\abd X Q B first many closed J w'/\Chg X w w':=by
 obtain⟨W,hW⟩:∃W,W=w.alloc (.cells #[.int .i64 0,.int .i64 0,.int .i64 0,.slice none 0 0,.int .i64 0] 126):=⟨_,rfl⟩;have N:Below w.heap.size w W:=by rw [hW];exact aa1 _ _
 have Z:W.heap[w.heap.size]?=some (.cells #[.int .i64 0,.int .i64 0,.int .i64 0,.slice none 0 0,.int .i64 0] 126 (0,0)):=by rw [hW];exact axg _ _
 have U:=h.below N;have c2:W.cell? ⟨Q,2,none⟩=some (.int .i64 (many:Int)):=by simp [World.cell?,U.box]
 have e0:decide ((many:Int)=0)=true:=by simp;omega
 have e1:((many:Int)==0)=true:=by simp;omega
 have x0:W.cell? ⟨w.heap.size,0,none⟩=some (.int .i64 0):=by simp [World.cell?,Z]
 have u0:W.frozen? ⟨w.heap.size,0,none⟩=false:=by simp [World.frozen?,Z]
 have j:W.cell? ⟨w.heap.size,1,none⟩=some (.int .i64 0):=by simp [World.cell?,Z]
 have u1:W.frozen? ⟨w.heap.size,1,none⟩=false:=by simp [World.frozen?,Z]
 have x2:W.cell? ⟨w.heap.size,2,none⟩=some (.int .i64 0):=by simp [World.cell?,Z]
 have u2:W.frozen? ⟨w.heap.size,2,none⟩=false:=by simp [World.frozen?,Z]
 have o:W.cell? ⟨w.heap.size,3,none⟩=some (.slice none 0 0):=by simp [World.cell?,Z]
 have u3:W.frozen? ⟨w.heap.size,3,none⟩=false:=by simp [World.frozen?,Z]
 have s:W.cell? ⟨w.heap.size,4,none⟩=some (.int .i64 0):=by simp [World.cell?,Z]
 have u4:W.frozen? ⟨w.heap.size,4,none⟩=false:=by simp [World.frozen?,Z]
 have Y:Chg (fun k=>k=w.heap.size) W (((((W.setCell ⟨w.heap.size,0,none⟩ (.int .i64 0)).setCell ⟨w.heap.size,1,none⟩ (.int .i64 0)).setCell ⟨w.heap.size,2,none⟩ (.int .i64 0)).setCell ⟨w.heap.size,3,none⟩ (.slice none 0 0)).setCell ⟨w.heap.size,4,none⟩ (.int .i64 0)):=(((((Chg.refl (fun k=>k=w.heap.size) W).set (show w.heap.size=w.heap.size from rfl)).set (show w.heap.size=w.heap.size from rfl)).set (show w.heap.size=w.heap.size from rfl)).set (show w.heap.size=w.heap.size from rfl)).set (show w.heap.size=w.heap.size from rfl);have V:(((((W.setCell ⟨w.heap.size,0,none⟩ (.int .i64 0)).setCell ⟨w.heap.size,1,none⟩ (.int .i64 0)).setCell ⟨w.heap.size,2,none⟩ (.int .i64 0)).setCell ⟨w.heap.size,3,none⟩ (.slice none 0 0)).setCell ⟨w.heap.size,4,none⟩ (.int .i64 0)).heap[w.heap.size]?=some (.cells #[.int .i64 0,.int .i64 0,.int .i64 0,.slice none 0 0,.int .i64 0] 126 (0,0)):=by
  have s1:=aa4 (i:=0) Z (.int .i64 0);have s2:=aa4 (i:=1) s1 (.int .i64 0);have s3:=aa4 (i:=2) s2 (.int .i64 0);have s4:=aa4 (i:=3) s3 (.slice none 0 0);have s5:=aa4 (i:=4) s4 (.int .i64 0);exact s5
 have D:=(awU.1 h.places).1;have H:=(awU.1 h.box).1;have I:=N.size;have A:abd X Q B first many closed J (((((W.setCell ⟨w.heap.size,0,none⟩ (.int .i64 0)).setCell ⟨w.heap.size,1,none⟩ (.int .i64 0)).setCell ⟨w.heap.size,2,none⟩ (.int .i64 0)).setCell ⟨w.heap.size,3,none⟩ (.slice none 0 0)).setCell ⟨w.heap.size,4,none⟩ (.int .i64 0)):=⟨(Y.block Q (by omega) (by show Q≠w.heap.size;omega)).trans U.box,(Y.block B (by omega) (by show B≠w.heap.size;omega)).trans U.places,U.inX,U.ne,U.room⟩;have z:Chg X w (((((W.setCell ⟨w.heap.size,0,none⟩ (.int .i64 0)).setCell ⟨w.heap.size,1,none⟩ (.int .i64 0)).setCell ⟨w.heap.size,2,none⟩ (.int .i64 0)).setCell ⟨w.heap.size,3,none⟩ (.slice none 0 0)).setCell ⟨w.heap.size,4,none⟩ (.int .i64 0)):=(Chg.of_same N).trans Y fun k hk e=>absurd e (by omega);have C:=ax3 V;have x:=ax3 A;have v:=ax3 z;clear h U Z y N Y V A z D H I;go_enter func199,ntmps199;go_upto_region 1 with fail
 rw [<-hW];have HW:=ax3 hW;clear hW;go_wp2;refine bodyPost_ret (af3 (B:=w.heap.size) rfl rfl C.out) rfl ?_;exact⟨rfl,x.out,v.out⟩
theorem aqB {X:Nat->Prop}{Q B first many:Nat}{closed:Bool}{H:List PcW}(p:PcW)(w:World)(h:abd X Q B first many closed H w)(j:0<many)(o:H[first]?=some p) :
  Calls ZP 199 #[.pointer (some ⟨Q,0,none⟩)] w fun e w'=>e=.returned (.tuple #[.agg #[.int .i64 p.num,.int .i64 p.start,.int .i64 p.warm,.slice p.a p.m p.c,.int .i64 p.buf],.bool true])/\abd X Q B ((first+1) % H.length) (many-1) closed (H.set first ⟨0,0,0,none,0,0,0⟩) w'/\Chg X w w':=by
 obtain⟨W,hW⟩:∃W,W=w.alloc (.cells #[.int .i64 0,.int .i64 0,.int .i64 0,.slice none 0 0,.int .i64 0] 126):=⟨_,rfl⟩;have z:Below w.heap.size w W:=by rw [hW];exact aa1 _ _
 have s:W.heap[w.heap.size]?=some (.cells #[.int .i64 0,.int .i64 0,.int .i64 0,.slice none 0 0,.int .i64 0] 126 (0,0)):=by rw [hW];exact axg _ _
 have N:=(awU.1 h.box).1;have J:=(awU.1 h.places).1;have V:W.heap.size=w.heap.size+1:=by rw [hW];simp
 have D:abd (fun k=>k=Q∨k=B) Q B first many closed H W:=⟨(h.below z).box,(h.below z).places,⟨.inl rfl,.inr rfl⟩,h.ne,h.room⟩;have HP:=ax3 (ats p W D j o);have c2:W.cell? ⟨Q,2,none⟩=some (.int .i64 (many:Int)):=by simp [World.cell?,D.box]
 have e0:decide ((many:Int)=0)=false:=by simp;omega
 have e1:((many:Int)==0)=false:=by simp;omega
 have e2:decide (many=0)=false:=by simp;omega
 have HX:=ax3 s;have HS:=ax3 (And.intro N (And.intro J V));have x:=ax3 h.inX;have HB:=ax3 z;clear h s j o z D N J V;go_enter func199,ntmps199;go_upto_region 1 with fail
 rw [<-hW];clear hW;go_upto_region 3 with fail
 clear c2
 go_wp2_with fail
 refine HP.out.mono ?_;rintro e Y ⟨rfl,C,A⟩;obtain⟨N,J,V⟩:=HS.out;have Z:Y.heap[w.heap.size]?=some (.cells #[.int .i64 0,.int .i64 0,.int .i64 0,.slice none 0 0,.int .i64 0] 126 (0,0)):=(A.block w.heap.size (by omega) (by show ¬(w.heap.size=Q∨w.heap.size=B);omega)).trans HX.out;have x0:Y.cell? ⟨w.heap.size,0,none⟩=some (.int .i64 0):=by simp [World.cell?,Z]
 have u0:Y.frozen? ⟨w.heap.size,0,none⟩=false:=by simp [World.frozen?,Z]
 have x1:Y.cell? ⟨w.heap.size,1,none⟩=some (.int .i64 0):=by simp [World.cell?,Z]
 have u1:Y.frozen? ⟨w.heap.size,1,none⟩=false:=by simp [World.frozen?,Z]
 have x2:Y.cell? ⟨w.heap.size,2,none⟩=some (.int .i64 0):=by simp [World.cell?,Z]
 have u2:Y.frozen? ⟨w.heap.size,2,none⟩=false:=by simp [World.frozen?,Z]
 have x3:Y.cell? ⟨w.heap.size,3,none⟩=some (.slice none 0 0):=by simp [World.cell?,Z]
 have u3:Y.frozen? ⟨w.heap.size,3,none⟩=false:=by simp [World.frozen?,Z]
 have x4:Y.cell? ⟨w.heap.size,4,none⟩=some (.int .i64 0):=by simp [World.cell?,Z]
 have u4:Y.frozen? ⟨w.heap.size,4,none⟩=false:=by simp [World.frozen?,Z]
 have U:Chg (fun k=>k=w.heap.size) Y (((((Y.setCell ⟨w.heap.size,0,none⟩ (.int .i64 p.num)).setCell ⟨w.heap.size,1,none⟩ (.int .i64 p.start)).setCell ⟨w.heap.size,2,none⟩ (.int .i64 p.warm)).setCell ⟨w.heap.size,3,none⟩ (.slice p.a p.m p.c)).setCell ⟨w.heap.size,4,none⟩ (.int .i64 p.buf)):=(((((Chg.refl (fun k=>k=w.heap.size) Y).set (show w.heap.size=w.heap.size from rfl)).set (show w.heap.size=w.heap.size from rfl)).set (show w.heap.size=w.heap.size from rfl)).set (show w.heap.size=w.heap.size from rfl)).set (show w.heap.size=w.heap.size from rfl);have I:(((((Y.setCell ⟨w.heap.size,0,none⟩ (.int .i64 p.num)).setCell ⟨w.heap.size,1,none⟩ (.int .i64 p.start)).setCell ⟨w.heap.size,2,none⟩ (.int .i64 p.warm)).setCell ⟨w.heap.size,3,none⟩ (.slice p.a p.m p.c)).setCell ⟨w.heap.size,4,none⟩ (.int .i64 p.buf)).heap[w.heap.size]?=some (.cells #[.int .i64 p.num,.int .i64 p.start,.int .i64 p.warm,.slice p.a p.m p.c,.int .i64 p.buf] 126 (0,0)):=by
  have s1:=aa4 (i:=0) Z (.int .i64 p.num);have s2:=aa4 (i:=1) s1 (.int .i64 p.start);have s3:=aa4 (i:=2) s2 (.int .i64 p.warm);have s4:=aa4 (i:=3) s3 (.slice p.a p.m p.c);have s5:=aa4 (i:=4) s4 (.int .i64 p.buf);exact s5
 have y:=A.size;have hF:abd X Q B ((first+1) % H.length) (many-1) closed (H.set first ⟨0,0,0,none,0,0,0⟩) (((((Y.setCell ⟨w.heap.size,0,none⟩ (.int .i64 p.num)).setCell ⟨w.heap.size,1,none⟩ (.int .i64 p.start)).setCell ⟨w.heap.size,2,none⟩ (.int .i64 p.warm)).setCell ⟨w.heap.size,3,none⟩ (.slice p.a p.m p.c)).setCell ⟨w.heap.size,4,none⟩ (.int .i64 p.buf)):=⟨(U.block Q (by omega) (by show Q≠w.heap.size;omega)).trans C.box,(U.block B (by omega) (by show B≠w.heap.size;omega)).trans C.places,x.out,C.ne,C.room⟩;have hC:Chg X w (((((Y.setCell ⟨w.heap.size,0,none⟩ (.int .i64 p.num)).setCell ⟨w.heap.size,1,none⟩ (.int .i64 p.start)).setCell ⟨w.heap.size,2,none⟩ (.int .i64 p.warm)).setCell ⟨w.heap.size,3,none⟩ (.slice p.a p.m p.c)).setCell ⟨w.heap.size,4,none⟩ (.int .i64 p.buf)):=((Chg.of_same HB.out).then (A.mono fun k _ e=>e.elim (fun e=>by rw [e];exact x.out.1) fun e=>by rw [e];exact x.out.2)).trans U fun k hk e=>absurd e (by omega);have v:=ax3 I;have HF:=ax3 hF;have HC:=ax3 hC;clear C A Z U I hF hC N J V y;go_wp2;refine bodyPost_ret (af3 (B:=w.heap.size) rfl rfl v.out) rfl ?_;exact⟨rfl,HF.out,HC.out⟩
theorem asc {X:Nat->Prop}{Q B first many:Nat}{N:List aam}(p:aam)(a:Option Addr)(c:Nat)(w:World)(h:ab9 X Q B first many false N w)(hm:many<N.length)(hp:SlK 2 w a 1 [.int .i64 p.1,.int .i64 p.2]) :
  Calls ZP 206 #[.pointer (some ⟨Q,0,none⟩),.slice a 1 c] w fun e w'=>e=.returned (.bool true)/\ab9 X Q B first (many+1) false (N.set ((first+many) % N.length) p) w'/\Chg X w w':=by
 obtain⟨b,off,rfl,a2,y⟩:=hp.2.resolve_left (by decide);have c3:w.cell? ⟨Q,3,none⟩=some (.bool false):=by simp [World.cell?,h.box]
 have HL:=ax3 (aka w h);obtain⟨M,hM⟩:∃M,N.length-many=M:=⟨_,rfl⟩;rw [hM] at HL;have e1:decide ((1:Int) > (M:Int))=false:=by simp;omega
 have e2:decide ((M:Int)<1)=false:=by simp;omega
 have e3:decide (M<1)=false:=by simp;omega
 have e4:decide (M=0)=false:=by simp;omega
 have HV:Hid (∀V,Below w.heap.size w V->ab9 X Q B first many false N V/\∀i u,([.int .i64 p.1,.int .i64 p.2]:List Value)[i]?=some u->V.cell? ⟨b,off+i,none⟩=some u):=fun V C=>⟨h.below C,fun i u hu=>(C.cell (p:=⟨b,off+i,none⟩) a2).trans (y i u hu)⟩;have ab:=ax3 hm;clear h hm hp y hM;go_enter func206,ntmps206;go_upto_region 4 with (go_at_call 246;refine HL.out.mono ?_;rintro e w1 ⟨rfl,x⟩)
 have ae:=ax3 x;clear x c3
 go_loopw [26] (fun a1 wr=>∃k:Nat,k<=1/\a1=.int .i64 (k:Int)/\Hid (k=0->Below w.heap.size w wr)/\Hid (k=1->ab9 X Q B first (many+1) false (N.set ((first+many) % N.length) p) wr/\Chg X w wr)) (fun s _=>1-(intOf s).toNat)
 case atStart=>exact⟨0,by omega,rfl,fun _=>ae.out,fun h=>by cases h⟩
 case round=>
  obtain⟨k,hk,rfl,H0,H1⟩:=hrel
  by_cases h0:k=0
  ·
   subst h0;have hb:=H0.out rfl;obtain⟨hS,Z⟩:=HV.out wr hb;have x0:wr.cell? ⟨b,off,none⟩=some (.int .i64 p.1):=Z 0 _ rfl;have x1:wr.cell? ⟨b,off+1,none⟩=some (.int .i64 p.2):=Z 1 _ rfl;have A:(wr.alloc (.cells #[.int .i64 0,.int .i64 0] 116)).heap[wr.heap.size]?=some (.cells #[.int .i64 0,.int .i64 0] 116 (0,0)):=axg _ _;have n0:(wr.alloc (.cells #[.int .i64 0,.int .i64 0] 116)).cell? ⟨wr.heap.size,0,none⟩=some (.int .i64 0):=by simp only [World.cell?,A];simp
   have g0:(wr.alloc (.cells #[.int .i64 0,.int .i64 0] 116)).frozen? ⟨wr.heap.size,0,none⟩=false:=by simp only [World.frozen?,A];simp
   have n1:(wr.alloc (.cells #[.int .i64 0,.int .i64 0] 116)).cell? ⟨wr.heap.size,1,none⟩=some (.int .i64 0):=by simp only [World.cell?,A];simp
   have g1:(wr.alloc (.cells #[.int .i64 0,.int .i64 0] 116)).frozen? ⟨wr.heap.size,1,none⟩=false:=by simp only [World.frozen?,A];simp
   clear Z;go_upto_region 6 with fail
   obtain⟨W,hW⟩:∃W,W=wr.alloc (.cells #[.int .i64 p.1,.int .i64 p.2] 116):=⟨_,rfl⟩;rw [<-hW];have j:W.heap[wr.heap.size]?=some (.cells #[.int .i64 p.1,.int .i64 p.2] 116 (0,0)):=by rw [hW];exact axg _ _
   have I:Below w.heap.size w W:=hb.trans (by rw [hW];exact (aa1 _ _).mono hb.size);have a7:=(awU.1 hS.box).1;have a8:=(awU.1 hS.places).1;obtain⟨D,hD⟩:∃D,D=W.drew:=⟨_,rfl⟩;have H:Below w.heap.size w D:=I.trans (by rw [hD];exact (aa2 W 1).mono I.size);have J:D.heap[wr.heap.size]?=some (.cells #[.int .i64 p.1,.int .i64 p.2] 116 (0,0)):=by rw [hD];exact j
   have U:=(HV.out D H).1;have o:ab9 (fun k=>k=Q∨k=B) Q B first many false N D:=⟨U.box,U.places,⟨.inl rfl,.inr rfl⟩,U.ne,U.room⟩;have HP:=ax3 (api p D o ab.out);have s0:W.cell? ⟨wr.heap.size,0,none⟩=some (.int .i64 p.1):=by simp [World.cell?,j]
   have s1:W.cell? ⟨wr.heap.size,1,none⟩=some (.int .i64 p.2):=by simp [World.cell?,j]
   have HK:Hid (∀V,Chg (fun k=>k=Q∨k=B) D V->V.cell? ⟨wr.heap.size,0,none⟩=some (.int .i64 p.1)/\V.cell? ⟨wr.heap.size,1,none⟩=some (.int .i64 p.2)):=fun V C=>by
    have e:V.heap[wr.heap.size]?=_:=(C.block wr.heap.size (awU.1 J).1 (by show ¬(wr.heap.size=Q∨wr.heap.size=B);omega)).trans J;refine⟨?_,?_⟩<;>simp [World.cell?,e]
   have HI:=ax3 U.inX;have ad:=ax3 H;clear hS j I a7 a8 H J U o hb A hW x0 n0 g0 x1 n1 g1;refine wp_region_noPanic ?_;refine wp_region_held_drew (S:=fun Y=>Y.cell? ⟨wr.heap.size,0,none⟩=some (.int .i64 p.1)/\Y.cell? ⟨wr.heap.size,1,none⟩=some (.int .i64 p.2)) (by kernel_rfl) ⟨s0,s1⟩ (fun hHeld=>?_);rw [<-hD] at hHeld ⊢;clear hD s0 s1;refine tkA 0 ?_;refine tkA 1 ?_;refine tkA 2 ?_;refine tkW 3 (v:=?_) ?_ ?_;rotate_left
   ·
    intro V C;obtain⟨q0,q1⟩:=C
    first | (go_simp;done) | (go_simp;with_reducible rfl)
   try simp only [Act.put,pA,pB,pC]
   refine rdy 4 (fun K hK=>?_);go_simp
   go_at_call 247;refine (HP.out).mono ?_;rintro e w5 ⟨⟨v5,rfl⟩,z,hc⟩
   refine hK.out _ _ ((HK.out w5 hc)) (fun a6=>?_);clear hK K
   try simp only [Act.put,pA,pB,pC]
   have aa:Hid (ab9 X Q B first (many+1) false (N.set ((first+many) % N.length) p) w5):=⟨z.box,z.places,HI.out,z.ne,z.room⟩;have ac:Hid (Chg X w w5):=(Chg.of_same ad.out).then (hc.mono fun k _ e=>e.elim (fun e=>by rw [e];exact HI.out.1) fun e=>by rw [e];exact HI.out.2);clear z hc a6 hHeld;refine wpAnyH_done (by kernel_rfl) ?_ _;refine ax4 ?_;go_wp2
   go_roundw
   case rel=>
    refine⟨1,axe _,by go_num,?_,?_⟩
    · intro h;cases h
    · intro _;exact⟨aa.out,ac.out⟩
   case measure=>simp [intOf]
  ·
   obtain rfl:k=1:=by omega
   obtain⟨g1,g2⟩:=H1.out rfl;go_wp2;go_ret;exact⟨rfl,g1,g2⟩
theorem asz {X:Nat->Prop}{Q B first many:Nat}{N:List PcW}(p:PcW)(a:Option Addr)(c:Nat)(w:World)(h:abd X Q B first many false N w)(hm:many<N.length)(hp:SlK 5 w a 1 [.int .i64 p.num,.int .i64 p.start,.int .i64 p.warm,.slice p.a p.m p.c,.int .i64 p.buf]) :
  Calls ZP 196 #[.pointer (some ⟨Q,0,none⟩),.slice a 1 c] w fun e w'=>e=.returned (.bool true)/\abd X Q B first (many+1) false (N.set ((first+many) % N.length) p) w'/\Chg X w w':=by
 obtain⟨b,off,rfl,a2,x⟩:=hp.2.resolve_left (by decide);have c3:w.cell? ⟨Q,3,none⟩=some (.bool false):=by simp [World.cell?,h.box]
 have HL:=ax3 (ajZ w h);obtain⟨M,hM⟩:∃M,N.length-many=M:=⟨_,rfl⟩;rw [hM] at HL;have e1:decide ((1:Int) > (M:Int))=false:=by simp;omega
 have e2:decide ((M:Int)<1)=false:=by simp;omega
 have e3:decide (M<1)=false:=by simp;omega
 have e4:decide (M=0)=false:=by simp;omega
 have HV:Hid (∀V,Below w.heap.size w V->abd X Q B first many false N V/\∀i u,([.int .i64 p.num,.int .i64 p.start,.int .i64 p.warm,.slice p.a p.m p.c,.int .i64 p.buf]:List Value)[i]?=some u->V.cell? ⟨b,off+i,none⟩=some u):=fun V z=>⟨h.below z,fun i u hu=>(z.cell (p:=⟨b,off+i,none⟩) a2).trans (x i u hu)⟩;have ab:=ax3 hm;clear h hm hp x hM;go_enter func196,ntmps196;go_upto_region 4 with (go_at_call 237;refine HL.out.mono ?_;rintro e w1 ⟨rfl,o⟩)
 have ae:=ax3 o;clear o c3
 go_loopw [26] (fun a1 wr=>∃k:Nat,k<=1/\a1=.int .i64 (k:Int)/\Hid (k=0->Below w.heap.size w wr)/\Hid (k=1->abd X Q B first (many+1) false (N.set ((first+many) % N.length) p) wr/\Chg X w wr)) (fun s _=>1-(intOf s).toNat)
 case atStart=>exact⟨0,by omega,rfl,fun _=>ae.out,fun h=>by cases h⟩
 case round=>
  obtain⟨k,hk,rfl,H0,H1⟩:=hrel
  by_cases h0:k=0
  ·
   subst h0;have hb:=H0.out rfl;obtain⟨hS,Z⟩:=HV.out wr hb;have x0:wr.cell? ⟨b,off,none⟩=some (.int .i64 p.num):=Z 0 _ rfl;have x1:wr.cell? ⟨b,off+1,none⟩=some (.int .i64 p.start):=Z 1 _ rfl;have x2:wr.cell? ⟨b,off+2,none⟩=some (.int .i64 p.warm):=Z 2 _ rfl;have x3:wr.cell? ⟨b,off+3,none⟩=some (.slice p.a p.m p.c):=Z 3 _ rfl;have x4:wr.cell? ⟨b,off+4,none⟩=some (.int .i64 p.buf):=Z 4 _ rfl;have J:(wr.alloc (.cells #[.int .i64 0,.int .i64 0,.int .i64 0,.slice none 0 0,.int .i64 0] 126)).heap[wr.heap.size]?=some (.cells #[.int .i64 0,.int .i64 0,.int .i64 0,.slice none 0 0,.int .i64 0] 126 (0,0)):=axg _ _;have n0:(wr.alloc (.cells #[.int .i64 0,.int .i64 0,.int .i64 0,.slice none 0 0,.int .i64 0] 126)).cell? ⟨wr.heap.size,0,none⟩=some (.int .i64 0):=by simp only [World.cell?,J];simp
   have g0:(wr.alloc (.cells #[.int .i64 0,.int .i64 0,.int .i64 0,.slice none 0 0,.int .i64 0] 126)).frozen? ⟨wr.heap.size,0,none⟩=false:=by simp only [World.frozen?,J];simp
   have n1:(wr.alloc (.cells #[.int .i64 0,.int .i64 0,.int .i64 0,.slice none 0 0,.int .i64 0] 126)).cell? ⟨wr.heap.size,1,none⟩=some (.int .i64 0):=by simp only [World.cell?,J];simp
   have g1:(wr.alloc (.cells #[.int .i64 0,.int .i64 0,.int .i64 0,.slice none 0 0,.int .i64 0] 126)).frozen? ⟨wr.heap.size,1,none⟩=false:=by simp only [World.frozen?,J];simp
   have n2:(wr.alloc (.cells #[.int .i64 0,.int .i64 0,.int .i64 0,.slice none 0 0,.int .i64 0] 126)).cell? ⟨wr.heap.size,2,none⟩=some (.int .i64 0):=by simp only [World.cell?,J];simp
   have g2:(wr.alloc (.cells #[.int .i64 0,.int .i64 0,.int .i64 0,.slice none 0 0,.int .i64 0] 126)).frozen? ⟨wr.heap.size,2,none⟩=false:=by simp only [World.frozen?,J];simp
   have n3:(wr.alloc (.cells #[.int .i64 0,.int .i64 0,.int .i64 0,.slice none 0 0,.int .i64 0] 126)).cell? ⟨wr.heap.size,3,none⟩=some (.slice none 0 0):=by simp only [World.cell?,J];simp
   have g3:(wr.alloc (.cells #[.int .i64 0,.int .i64 0,.int .i64 0,.slice none 0 0,.int .i64 0] 126)).frozen? ⟨wr.heap.size,3,none⟩=false:=by simp only [World.frozen?,J];simp
   have n4:(wr.alloc (.cells #[.int .i64 0,.int .i64 0,.int .i64 0,.slice none 0 0,.int .i64 0] 126)).cell? ⟨wr.heap.size,4,none⟩=some (.int .i64 0):=by simp only [World.cell?,J];simp
   have g4:(wr.alloc (.cells #[.int .i64 0,.int .i64 0,.int .i64 0,.slice none 0 0,.int .i64 0] 126)).frozen? ⟨wr.heap.size,4,none⟩=false:=by simp only [World.frozen?,J];simp
   clear Z;go_upto_region 6 with fail
   obtain⟨W,hW⟩:∃W,W=wr.alloc (.cells #[.int .i64 p.num,.int .i64 p.start,.int .i64 p.warm,.slice p.a p.m p.c,.int .i64 p.buf] 126):=⟨_,rfl⟩;rw [<-hW];have H:W.heap[wr.heap.size]?=some (.cells #[.int .i64 p.num,.int .i64 p.start,.int .i64 p.warm,.slice p.a p.m p.c,.int .i64 p.buf] 126 (0,0)):=by rw [hW];exact axg _ _
   have C:Below w.heap.size w W:=hb.trans (by rw [hW];exact (aa1 _ _).mono hb.size);have a7:=(awU.1 hS.box).1;have a8:=(awU.1 hS.places).1;obtain⟨D,hD⟩:∃D,D=W.drew:=⟨_,rfl⟩;have A:Below w.heap.size w D:=C.trans (by rw [hD];exact (aa2 W 1).mono C.size);have I:D.heap[wr.heap.size]?=some (.cells #[.int .i64 p.num,.int .i64 p.start,.int .i64 p.warm,.slice p.a p.m p.c,.int .i64 p.buf] 126 (0,0)):=by rw [hD];exact H
   have U:=(HV.out D A).1;have j:abd (fun k=>k=Q∨k=B) Q B first many false N D:=⟨U.box,U.places,⟨.inl rfl,.inr rfl⟩,U.ne,U.room⟩;have HP:=ax3 (aqg p D j ab.out);have s0:W.cell? ⟨wr.heap.size,0,none⟩=some (.int .i64 p.num):=by simp [World.cell?,H]
   have s1:W.cell? ⟨wr.heap.size,1,none⟩=some (.int .i64 p.start):=by simp [World.cell?,H]
   have s2:W.cell? ⟨wr.heap.size,2,none⟩=some (.int .i64 p.warm):=by simp [World.cell?,H]
   have s3:W.cell? ⟨wr.heap.size,3,none⟩=some (.slice p.a p.m p.c):=by simp [World.cell?,H]
   have s4:W.cell? ⟨wr.heap.size,4,none⟩=some (.int .i64 p.buf):=by simp [World.cell?,H]
   have HK:Hid (∀V,Chg (fun k=>k=Q∨k=B) D V->V.cell? ⟨wr.heap.size,0,none⟩=some (.int .i64 p.num)/\V.cell? ⟨wr.heap.size,1,none⟩=some (.int .i64 p.start)/\V.cell? ⟨wr.heap.size,2,none⟩=some (.int .i64 p.warm)/\V.cell? ⟨wr.heap.size,3,none⟩=some (.slice p.a p.m p.c)/\V.cell? ⟨wr.heap.size,4,none⟩=some (.int .i64 p.buf)):=fun V z=>by
    have e:V.heap[wr.heap.size]?=_:=(z.block wr.heap.size (awU.1 I).1 (by show ¬(wr.heap.size=Q∨wr.heap.size=B);omega)).trans I;refine⟨?_,?_,?_,?_,?_⟩<;>simp [World.cell?,e]
   have HI:=ax3 U.inX;have ad:=ax3 A;clear hS H C a7 a8 A I U j hb J hW x0 n0 g0 x1 n1 g1 x2 n2 g2 x3 n3 g3 x4 n4 g4;refine wp_region_noPanic ?_;refine wp_region_held_drew (S:=fun Y=>Y.cell? ⟨wr.heap.size,0,none⟩=some (.int .i64 p.num)/\Y.cell? ⟨wr.heap.size,1,none⟩=some (.int .i64 p.start)/\Y.cell? ⟨wr.heap.size,2,none⟩=some (.int .i64 p.warm)/\Y.cell? ⟨wr.heap.size,3,none⟩=some (.slice p.a p.m p.c)/\Y.cell? ⟨wr.heap.size,4,none⟩=some (.int .i64 p.buf)) (by kernel_rfl) ⟨s0,s1,s2,s3,s4⟩ (fun hHeld=>?_);rw [<-hD] at hHeld ⊢;clear hD s0 s1 s2 s3 s4;refine tkA 0 ?_;refine tkA 1 ?_;refine tkA 2 ?_;refine tkW 3 (v:=?_) ?_ ?_;rotate_left
   ·
    intro V z;obtain⟨q0,q1,q2,q3,q4⟩:=z
    first | (go_simp;done) | (go_simp;with_reducible rfl)
   try simp only [Act.put,pA,pB,pC]
   refine rdy 4 (fun K hK=>?_);go_simp
   go_at_call 239;refine (HP.out).mono ?_;rintro e w5 ⟨⟨v5,rfl⟩,y,hc⟩
   refine hK.out _ _ ((HK.out w5 hc)) (fun a6=>?_);clear hK K
   try simp only [Act.put,pA,pB,pC]
   have aa:Hid (abd X Q B first (many+1) false (N.set ((first+many) % N.length) p) w5):=⟨y.box,y.places,HI.out,y.ne,y.room⟩;have ac:Hid (Chg X w w5):=(Chg.of_same ad.out).then (hc.mono fun k _ e=>e.elim (fun e=>by rw [e];exact HI.out.1) fun e=>by rw [e];exact HI.out.2);clear y hc a6 hHeld;refine wpAnyH_done (by kernel_rfl) ?_ _;refine ax4 ?_;go_wp2
   go_roundw
   case rel=>
    refine⟨1,axe _,by go_num,?_,?_⟩
    · intro h;cases h
    · intro _;exact⟨aa.out,ac.out⟩
   case measure=>simp [intOf]
  ·
   obtain rfl:k=1:=by omega
   obtain⟨g1,g2⟩:=H1.out rfl;go_wp2;go_ret;exact⟨rfl,g1,g2⟩
section
attribute [local go_sem] Oper.semAt_some
attribute [local simp] aab aa6
attribute [local go_sem] aab aa6
def aqo (b base:Nat)(l:List aam)(W:World):Prop:=∃v,Boxed W b 69 v/\adV W base v l
theorem ak9 {α:Type}{B b base:Nat}{Pb:Nat->World->World->Prop}(C:base<=b)(N:∀r W J,Pb r W J->r<base)(f:α->List aam):ab8 B Pb (fun s W=>aqo b base (f s) W):=by
 rintro s W J row ⟨v,Z,ho⟩ U V;have X:∀{k:Nat} {cs:Array Value} {t:TypeId},W.heap[k]?=some (.cells cs t (0,0))->base<=k->row≠some k:=fun {k cs t} H I e=>by
  rcases V k e with ⟨_,o,h1,h2⟩ | h
  · rw [H] at h1;cases h1;cases h2
  · have:=N k _ _ h;omega
 refine⟨v,(U.block b Z.lt (fun e=>X Z C e.symm)).trans Z,ho.kept U ?_⟩
 rcases ho.2 with ⟨rfl,_⟩ | ⟨g,cap,z,rfl,D,Y,_⟩
 · exact .inl rfl
 ·
  refine .inr fun e=>?_;have A:row=some g:=by rw [<-e];rfl
  rcases V g A with ⟨_,o,h1,h2⟩ | h
  · rw [Y] at h1;cases h1;cases h2
  · have:=N g _ _ h;omega
theorem atf (V:World)(x:aam):SlK 2 (V.alloc (.cells #[.int .i64 x.1,.int .i64 x.2] 116)) (some ⟨V.heap.size,0,none⟩) 1 [.int .i64 x.1,.int .i64 x.2]:=by
 refine⟨rfl,.inr ⟨V.heap.size,0,rfl,by simp,fun i u Z=>?_⟩⟩;have:=ab7 (w:=V) #[.int .i64 x.1,.int .i64 x.2] 116 rfl i u (by simpa using Z)
 rwa [aah] at this
def avf (h:aam):Array Value:=#[.agg #[.int .i64 h.1,.int .i64 h.2]]
def KpB (B:Nat)(W V:World):Prop:=W.heap.size<=V.heap.size/\∀k,k<B->k<W.heap.size->V.heap[k]?=W.heap[k]?
theorem KpB.t {B:Nat}{A C D:World}(h:KpB B A C)(k:KpB B C D):KpB B A D:=⟨awT h.1 k.1,fun i h1 h2=>(k.2 i h1 (ax6 h2 h.1)).trans (h.2 i h1 h2)⟩
theorem KpB.of_below {B:Nat}{W V:World}(h:Below B W V):KpB B W V:=⟨h.size,fun k h1 _=>h.block k h1⟩
theorem ahV {gf:Nat}{lb:Array Value}{B:Nat}{Pb:Nat->World->World->Prop}{S:List aam->World->Prop}{Sp:List aam->Prop}{N n₀:Nat}(w:World)
  (eg:∀args w,(callFunc gf args).run ZP w=.ok (.enter gf args) w)
  (a6:abk Fence.wide 8 ZP gf lb avf (KpB B) Pb S Sp N w) (hB:B<=w.heap.size) (A:∀r W W',Pb r W W'->r<w.heap.size) (hSk:∀(xs:List aam) (W:World) (l:Nat) (o o':Obj),w.heap.size<=l->W.heap[l]?=some o->o.isCells=false->S xs W->S xs (W.putObj l o'))
  (a7:n₀<=w.heap.size) (ai:∀r W W',Pb r W W'->n₀<=r) (hN:N<=1000000000) (ah:∀xs W,S xs W->xs.length<=1000000000) :
  Calls ZP 274 #[.slice none 0 0,.func (.func gf) #[] lb] w fun e w'=>∃v xs W,e=.returned v/\S xs W/\(∃D,w.heap.size<=D/\w'=W.putObj D (.deferred none))/\adV w' w.heap.size v xs/\Below n₀ w w':=by
 obtain⟨i0,hi,ac,ab,aa⟩:=info_parts adc;obtain⟨W1,hW⟩:∃W,W=w.alloc (.cells #[.slice none 0 0] 69):=⟨_,rfl⟩;have U:Below w.heap.size w W1:=by rw [hW];exact aa1 _ _
 have bS:Boxed W1 w.heap.size 69 (.slice none 0 0):=by rw [hW];exact Boxed.new _ _ _
 have af:W1.heap.size=w.heap.size+1:=by rw [hW];simp
 have a2:abk Fence.wide 8 ZP gf lb avf (KpB B) Pb S Sp N W1:=fun l J Jx W hb=>a6 l J Jx W (U.trans (hb.mono U.size));refine aau func274 rfl ?_;simp only [ntmps274,axT,axU,axV,Nat.reduceAdd,Nat.reduceSub,axW,axX,axY,axZ,ay0,ay1];go_upto_region 1 with fail
 rw [<-hW];clear hW a6;go_wp2;obtain⟨g,hg⟩:∃g,w.heap.size=g:=⟨_,rfl⟩;rw [hg] at bS af U hB A hSk a7 ⊢;have HG:=ax3 hg
 apply apc rfl eg a2 (fun r W W' hr=>by have:=A r W W' hr;omega) (fun xs W l o o' hl=>hSk xs W l o o' (by omega)) KpB.t ?hKb (fun _=>rfl)
  (fun I V=>aqo g g I V/\Below n₀ w V/\W1.heap.size<=V.heap.size)
  (fun _ _ _=>False)
 case hKb=>exact fun W l o o' hl _ _ _=>⟨by simp [World.putObj],fun k h1 _=>ayn (by omega)⟩
 case wA=>exact fun x W=>W.alloc (.cells #[.int .i64 x.1,.int .i64 x.2] 116)
 case hwA=>exact fun x W=>aa1 _ _
 case hKg=>exact fun x W hW=>KpB.of_below ((aa1 _ _).mono (by omega))
 case hI=>exact ab8.and (ak9 (axe _) A id) (ab8.and (ab8.below (by omega) (by omega) ai) (ab8.size _ _ _))
 case hIx=>exact fun _ _ _ _ _ hs _ _=>hs
 case h0=>exact⟨⟨_,bS,ayy _ _ _ _⟩,U.mono a7,axe _⟩
 case hassign=>
  intro l x W K hK;unfold avf
  gi_wp2
  exact hK
 case hbody=>
  rintro l I x Wb V aj ⟨⟨v,s,Z⟩,z,j⟩ ak
  try dsimp only
  have X:=aj.2 Wb.heap.size _ _ _ (axg Wb (.cells #[.int .i64 x.1,.int .i64 x.2] 116));have k0:V.cell? ⟨Wb.heap.size,0,none⟩=some (.int .i64 x.1):=by simp [World.cell?,X]
  have k1:V.cell? ⟨Wb.heap.size,1,none⟩=some (.int .i64 x.2):=by simp [World.cell?,X]
  have k2:Wb.heap.size<V.heap.size:=(awU.1 X).1;obtain⟨m,H⟩:∃m,I.length=m:=⟨_,rfl⟩;have am:m<=1000000001:=by omega
  unfold adV at Z;rw [H] at Z;have y:=ax3 H;clear H;obtain⟨av,cv,rfl,ag,ae⟩:=SlK.own Z;have c2:=s.cell;have ao:=s.lt;clear X
  gi_wp2_with (gi_at_builtin;refine acm _ rfl _ _ 69 rfl g 116 i0 (.agg #[.int .i64 0,.int .i64 0]) 2 16 underlying69 hi ac ab aa rfl (by decide) _ _ _ rfl (Z.alloc _) (some ⟨V.heap.size,0,none⟩) 1 1 [.int .i64 x.1,.int .i64 x.2] rfl (atf V x) (by simp [Value.oneCell']) (by unfold maxLen;omega) (by omega) (by simp;omega) ?_;intro v' w5 Y C ap;obtain⟨g',al,rfl⟩:=ownsRow_succ Y;obtain⟨b1,b2,b3,b4,b5⟩:=s.appended (of_decide_eq_true (by kernel_rfl)) Z (by omega) (axe _) Y C;have d1:=b1.cell;have d2:=b1.frozen;have d3:=b1.lt)
  refine⟨b4.from _,?_,⟨_,b2,?_⟩,z.trans (b5.mono (by omega)),awT j (by have:=b5.size;simpa using this)⟩
  · exact KpB.of_below (b5.mono (by omega))
  · unfold adV;rw [List.length_append,y.out,acS];exact b3
 case hstop=>exact fun _ _ _ _ _ _ h _=>h.elim
 case hdone=>
  rintro D xs V hD hS ⟨⟨v,s,Z⟩,z,j⟩ a8;have ad:=ah xs V hS;obtain⟨m,H⟩:∃m,xs.length=m:=⟨_,rfl⟩;unfold adV at Z;rw [H] at Z ad;have y:=ax3 H;clear H;obtain⟨av,cv,rfl,ag,ae⟩:=SlK.own Z;have c2:=s.cell;have a1:=ownsRow_putObj Z (.deferred none) a8 rfl;have HS:=ax3 hS;clear Z hS;go_wp2;refine ar0 rfl a8 (results_tmp rfl _ _ _) ⟨_,xs,V,rfl,HS.out,⟨D,by omega,rfl⟩,?_,aaS z (by omega) (by omega) _⟩;unfold adV;rw [y.out,HG.out];exact a1
theorem akr {U:Nat}{C:Array Value}{B:Nat}{Pb:Nat->World->World->Prop}{S:List aam->World->Prop}{Sp:List aam->Prop}{N J:Nat}(w:World)
  (h:∀args w,(callFunc U args).run ZP w=.ok (.enter U args) w)
  (Z:abk Fence.wide 8 ZP U C avf (KpB B) Pb S Sp N w) (j:B<=w.heap.size) (V:∀r W H,Pb r W H->r<w.heap.size) (hSk:∀(xs:List aam) (W:World) (l:Nat) (o o':Obj),w.heap.size<=l->W.heap[l]?=some o->o.isCells=false->S xs W->S xs (W.putObj l o'))
  (I:J<=w.heap.size) (X:∀r W H,Pb r W H->J<=r) (x:N<=1000000000) (Y:∀xs W,S xs W->xs.length<=1000000000) :
  Calls ZP 248 #[.func (.func U) #[] C] w fun e w'=>∃v xs W,e=.returned v/\S xs W/\(∃D,w.heap.size<=D/\w'=W.putObj D (.deferred none))/\adV w' w.heap.size v xs/\Below J w w':=by
 have HC:=ax3 (ahV w h Z j V hSk I X x Y);clear Z V hSk X Y;go_enter func248,ntmps248
 go_wp2_with fail
 refine HC.out.mono ?_;rintro e w1 ⟨v,xs,W,rfl,y,s,A,z⟩;go_wp2;go_ret;exact⟨v,xs,W,rfl,y,s,A,z⟩
end
section
attribute [local go_sem] Oper.semAt_some
attribute [local simp] aab aa6
attribute [local go_sem] aab aa6
def qlH (Z:List aam)(first many:Nat):List aam:=(List.range many).map fun i=>Z.getD ((first+i) % Z.length) (0,0)
theorem atd {Z:List aam}{first many j:Nat}(h:j<many):(qlH Z first many).take (j+1)=(qlH Z first many).take j++[Z.getD ((first+j) % Z.length) (0,0)]:=by
 have Y:(qlH Z first many)[j]?=some (Z.getD ((first+j) % Z.length) (0,0)):=by
  unfold qlH;rw [axa,axS h]
  rfl
 exact aa7 Y
theorem akq {X:Nat->Prop}(p Q B first many:Nat)(closed:Bool)(D:List aam)(N m:Nat)(w:World)(hp:w.heap[p]?=some (.cells #[.pointer (some ⟨Q,0,none⟩)] 370 (0,0)))(z:ab9 X Q B first many closed D w)(ab:p<N)(ae:Q<N)(af:B<N)(hB:N<=w.heap.size) :
  abk Fence.wide m ZP 275 #[.pointer (some ⟨p,0,none⟩)] avf (KpB N) (fun _ _ _=>False) (fun xs _=>xs=qlH D first many) (fun _=>True) 1000001 w:=by
 intro lo J Jx W hW hJ ak hY h0;have base:Hid (∀V,(w.heap.size<=V.heap.size/\∀k,k<N->V.heap[k]?=w.heap[k]?)->V.cell? ⟨p,0,none⟩=some (.pointer (some ⟨Q,0,none⟩))/\ab9 X Q B first many closed D V):=fun V hV=>by
  have e1:=(hV.2 p ab).trans hp;exact⟨by simp [World.cell?,e1],(hV.2 Q ae).trans z.box,(hV.2 B af).trans z.places,z.inX,z.ne,z.room⟩
 have a1:Hid (w.heap.size<=W.heap.size/\∀k,k<N->W.heap[k]?=w.heap[k]?):=⟨hW.size,fun k y=>hW.block k (by omega)⟩;have a8:=ax3 hB;obtain⟨r1,r2,r3,r4⟩:=z.room;obtain⟨L,hL⟩:∃L,D.length=L:=⟨_,rfl⟩;have HL:=ax3 hL;rw [hL] at r1 r2 r3 r4;clear hp z hL;obtain⟨c1,C⟩:=base.out W a1.out;have c2:W.cell? ⟨Q,2,none⟩=some (.int .i64 (many:Int)):=by simp [World.cell?,C.box]
 clear C;refine callsIn_of_wp func275 rfl trivial ?_ rfl;simp only [ntmps275,axT,axU,axV,Nat.reduceAdd,Nat.reduceSub,axW,axX,axY,axZ,ay0,ay1]
 gi_wp2
 clear c1 c2
 gi_loopw [8] (fun i wr=>∃(j:Nat) (pre:List aam),j<=many/\i=.int .i64 j/\Hid (pre=(qlH D first many).take j)/\J pre wr/\Hid (w.heap.size<=wr.heap.size/\∀k,k<N->wr.heap[k]?=w.heap[k]?)) (fun i _=>many-(intOf i).toNat)
 case atStart=>exact⟨0,[],axh _,rfl,rfl,h0,a1⟩
 case round=>
  obtain⟨j,pre,y,rfl,HP,hj,H⟩:=hrel
  by_cases I:j<many
  ·
   have ac:decide ((j:Int)<(many:Int))=true:=by simp;omega
   have aj:decide (j<many)=true:=by simp;omega
   obtain⟨b1,C⟩:=base.out wr H.out;have hl:=HL.out;have b2:wr.cell? ⟨Q,0,none⟩=some (.slice (some ⟨B,0,none⟩) L L):=by simp [World.cell?,C.box,hl]
   have b3:wr.cell? ⟨Q,1,none⟩=some (.int .i64 (first:Int)):=by simp [World.cell?,C.box]
   have e1:IntKind.i64.wrap ((first:Int)+(j:Int))=((first+j:Nat):Int):=by rw [ax2];omega
   have e2:((first+j:Nat):Int).tmod (L:Int)=(((first+j) % L:Nat):Int):=by rw [ay2 (by omega)];simp
   have A:(first+j) % L<L:=ay3 _ (by omega);obtain⟨x,hx⟩:∃x,D[(first+j) % L]?=some x:=⟨_,ay4 (by omega)⟩;obtain⟨y0,y1⟩:=ajr hx;have HS:Hid (pre++[x]=(qlH D first many).take (j+1)):=by rw [Hid,HP.out,atd I,hl,ay5,hx];rfl
   have Z:pre.length<1000001:=by rw [HP.out,ay6];omega
   obtain⟨s,hs⟩:∃s,first+j=s:=⟨_,rfl⟩;rw [hs] at e1 e2 A y0 y1;obtain⟨i,hi⟩:∃i,s % L=i:=⟨_,rfl⟩;rw [hi] at e2 A y0 y1;have x0:wr.cell? ⟨B,i*2,none⟩=some (.int .i64 x.1):=by simp [World.cell?,C.places];exact y0
   have x1:wr.cell? ⟨B,i*2+1,none⟩=some (.int .i64 x.2):=by simp [World.cell?,C.places];exact y1
   have i1:(0:Int)<=(i:Int):=by omega
   have i2:(i:Int)<(L:Int):=by omega
   have z0:¬(L:Int)=0:=by omega
   have z1:¬L=0:=by omega
   have ah:=ax3 hj;have ag:=ax3 Z;have a7:=ax3 I;clear hx y0 y1 C hl hs hi hj Z I
   gi_wp2
   refine aaJ (af1 _ _) 19 mixed (by kernel_rfl) (by kernel_rfl) ?_;dsimp only [List.take_succ_cons,List.take_zero,List.drop_succ_cons,List.drop_zero]
   repeat (go_big_quiet_step (fail))
   refine wpQuiet_nil ?_;rintro _ ⟨v,rfl⟩;have U:Below wr.heap.size wr (wr.drewN v):=⟨rfl,rfl,rfl,axe _,fun _ _=>rfl⟩;obtain⟨W4,a6⟩:∃X,X=wr.drewN v:=⟨_,rfl⟩;rw [<-a6] at U ⊢;clear a6;have a2:=acT hJ ah.out U;have Y:Hid (w.heap.size<=W4.heap.size/\∀k,k<N->W4.heap[k]?=w.heap[k]?):=
    ⟨awT H.out.1 U.size,fun k y=>(U.block k (by have:=H.out.1;have:=a8.out;omega)).trans (H.out.2 k y)⟩
   obtain⟨fn,tmps,assign,body,aa,ad⟩:=hY pre x W4 a2 ag.out;dsimp only [avf] at aa;clear b1 b2 b3 x0 x1 U a2
   gi_wp2
   refine ad.mono ?_;rintro e W5 (⟨rfl,hJ4,hk4⟩ | ⟨rfl,hJx4⟩)
   ·
    have o:Hid (w.heap.size<=W5.heap.size/\∀k,k<N->W5.heap[k]?=w.heap[k]?):=⟨awT Y.out.1 hk4.1,fun k y=>(hk4.2 k y (by have:=Y.out.1;have:=a8.out;omega)).trans (Y.out.2 k y)⟩;have ai:=ax3 hJ4;clear hk4 hJ4
    gi_wp2
    go_roundw
    case rel=>exact⟨j+1,_,a7.out,by go_num,HS,ai.out,o⟩
    case measure=>
     have:=a7.out;simp [intOf];omega
   ·
    gi_wp2
    refine bodyPost_ret (results_none rfl _ _ _) rfl ?_;exact⟨⟨_,rfl⟩,.inr ⟨_,trivial,hJx4⟩⟩
  ·
   obtain rfl:j=many:=by omega
   have ac:decide ((j:Int)<(j:Int))=false:=by simp
   have HF:Hid (pre=qlH D first j):=by
    have h:=HP.out
    rwa [axo (by unfold qlH;simp)] at h
   clear I
   gi_wp2
   go_end0
   exact⟨⟨_,rfl⟩,.inl ⟨pre,HF.out,hj⟩⟩
end
theorem anS (Q:Nat)(w:World) :
  Calls ZP 249 #[.pointer (some ⟨Q,0,none⟩)] w fun e w'=>e=.returned (.func (.func 275) #[] #[.pointer (some ⟨w.heap.size,0,none⟩)])/\w'=w.alloc (.cells #[.pointer (some ⟨Q,0,none⟩)] 370):=by
 go_enter func249,ntmps249;go_wp2;go_ret;exact⟨rfl,rfl⟩
theorem ap0 {X:Nat->Prop}{Q B first many:Nat}{closed:Bool}{U:List aam}(w:World)(h:ab9 X Q B first many closed U w) :
  Calls ZP 208 #[.pointer (some ⟨Q,0,none⟩)] w fun e w'=>∃v,e=.returned v/\adV w' w.heap.size v (qlH U first many)/\Below w.heap.size w w':=by
 have C:=ax3 (anS Q w);obtain⟨W,hW⟩:∃W,W=w.alloc (.cells #[.pointer (some ⟨Q,0,none⟩)] 370):=⟨_,rfl⟩;rw [<-hW] at C;have J:Below w.heap.size w W:=by rw [hW];exact aa1 _ _
 have N:W.heap[w.heap.size]?=some (.cells #[.pointer (some ⟨Q,0,none⟩)] 370 (0,0)):=by rw [hW];exact axg _ _
 have Y:=h.below J;have Z:=akq (X:=X) w.heap.size Q B first many closed U W.heap.size 8 W N Y (awU.1 N).1 (awU.1 Y.box).1 (awU.1 Y.places).1 (axe _);have A:=h.room;have y:=ax3 (akr W (enters_of func275 (by kernel_rfl) rfl) Z (axe _) (fun _ _ _ h=>h.elim) (fun _ _ _ _ _ _ _ _ h=>h) (axe _) (fun _ _ _ h=>h.elim) (by omega) (fun xs V h=>by rw [h];unfold qlH;simp;omega));have H:=ax3 J;clear h hW J N Y Z A;go_enter func208,ntmps208
 go_wp2_with fail
 refine C.out.mono ?_;rintro e s ⟨rfl,rfl⟩
 go_wp2_with fail
 refine y.out.mono ?_;rintro e x ⟨v,xs,V,rfl,rfl,_,ho,D⟩;have z:=ax3 ho;have I:=ax3 D;clear ho D;go_wp2;go_ret;exact⟨v,rfl,agj z.out H.out.size,H.out.trans (I.out.mono H.out.size)⟩
section
attribute [local go_sem] Oper.semAt_some
attribute [local simp] aab aa6
attribute [local go_sem] aab aa6
def amY (w:World)(base:Nat)(v:Value)(l:List Int):Prop:=w.ownsRow base 3 1 v l.length (l.map (Value.int .i64))
def atG (b base:Nat)(l:List Int)(W:World):Prop:=∃v,Boxed W b 30 v/\amY W base v l
theorem amw {α:Type}{B b base:Nat}{Pb:Nat->World->World->Prop}(C:base<=b)(N:∀r W J,Pb r W J->r<base)(f:α->List Int):ab8 B Pb (fun s W=>atG b base (f s) W):=by
 rintro s W J row ⟨v,Z,ho⟩ U V;have X:∀{k:Nat} {cs:Array Value} {t:TypeId},W.heap[k]?=some (.cells cs t (0,0))->base<=k->row≠some k:=fun {k cs t} H I e=>by
  rcases V k e with ⟨_,o,h1,h2⟩ | h
  · rw [H] at h1;cases h1;cases h2
  · have:=N k _ _ h;omega
 refine⟨v,(U.block b Z.lt (fun e=>X Z C e.symm)).trans Z,ho.kept U ?_⟩
 rcases ho.2 with ⟨rfl,_⟩ | ⟨g,cap,z,rfl,D,Y,_⟩
 · exact .inl rfl
 ·
  refine .inr fun e=>?_;have A:row=some g:=by rw [<-e];rfl
  rcases V g A with ⟨_,o,h1,h2⟩ | h
  · rw [Y] at h1;cases h1;cases h2
  · have:=N g _ _ h;omega
theorem at2 (V:World)(x:Int):SlK 1 (V.alloc (.cells #[.int .i64 x] 3)) (some ⟨V.heap.size,0,none⟩) 1 [.int .i64 x]:=by
 refine⟨rfl,.inr ⟨V.heap.size,0,rfl,by simp,fun i u Z=>?_⟩⟩;have:=ab7 (w:=V) #[.int .i64 x] 3 rfl i u (by simpa using Z)
 rwa [aah] at this
def ava (h:Int):Array Value:=#[.int .i64 h]
theorem ahQ {gf:Nat}{lb:Array Value}{B:Nat}{Pb:Nat->World->World->Prop}{S:List Int->World->Prop}{Sp:List Int->Prop}{N n₀:Nat}(w:World)
  (eg:∀args w,(callFunc gf args).run ZP w=.ok (.enter gf args) w)
  (a2:abk Fence.wide 8 ZP gf lb ava (KpB B) Pb S Sp N w) (hB:B<=w.heap.size) (C:∀r W W',Pb r W W'->r<w.heap.size) (hSk:∀(xs:List Int) (W:World) (l:Nat) (o o':Obj),w.heap.size<=l->W.heap[l]?=some o->o.isCells=false->S xs W->S xs (W.putObj l o'))
  (a6:n₀<=w.heap.size) (ah:∀r W W',Pb r W W'->n₀<=r) (hN:N<=1000000000) (ag:∀xs W,S xs W->xs.length<=1000000000) :
  Calls ZP 168 #[.slice none 0 0,.func (.func gf) #[] lb] w fun e w'=>∃v xs W,e=.returned v/\S xs W/\(∃D,w.heap.size<=D/\w'=W.putObj D (.deferred none))/\amY w' w.heap.size v xs/\Below n₀ w w':=by
 obtain⟨i0,hi,ab,aa,a8⟩:=info_parts aks;obtain⟨W1,hW⟩:∃W,W=w.alloc (.cells #[.slice none 0 0] 30):=⟨_,rfl⟩;have X:Below w.heap.size w W1:=by rw [hW];exact aa1 _ _
 have bS:Boxed W1 w.heap.size 30 (.slice none 0 0):=by rw [hW];exact Boxed.new _ _ _
 have ae:W1.heap.size=w.heap.size+1:=by rw [hW];simp
 have a1:abk Fence.wide 8 ZP gf lb ava (KpB B) Pb S Sp N W1:=fun l J Jx W hb=>a2 l J Jx W (X.trans (hb.mono X.size));refine aau func168 rfl ?_;simp only [ntmps168,axT,axU,axV,Nat.reduceAdd,Nat.reduceSub,axW,axX,axY,axZ,ay0,ay1];go_upto_region 1 with fail
 rw [<-hW];clear hW a2;go_wp2;obtain⟨g,hg⟩:∃g,w.heap.size=g:=⟨_,rfl⟩;rw [hg] at bS ae X hB C hSk a6 ⊢;have HG:=ax3 hg
 apply apc rfl eg a1 (fun r W W' hr=>by have:=C r W W' hr;omega) (fun xs W l o o' hl=>hSk xs W l o o' (by omega)) KpB.t ?hKb (fun _=>rfl)
  (fun U V=>atG g g U V/\Below n₀ w V/\W1.heap.size<=V.heap.size)
  (fun _ _ _=>False)
 case hKb=>exact fun W l o o' hl _ _ _=>⟨by simp [World.putObj],fun k h1 _=>ayn (by omega)⟩
 case wA=>exact fun x W=>W
 case hwA=>exact fun x W=>axf _ _
 case hKg=>exact fun x W hW=>KpB.of_below (axf _ _)
 case hI=>exact ab8.and (amw (axe _) C id) (ab8.and (ab8.below (by omega) (by omega) ah) (ab8.size _ _ _))
 case hIx=>exact fun _ _ _ _ _ hs _ _=>hs
 case h0=>exact⟨⟨_,bS,ayy _ _ _ _⟩,X.mono a6,axe _⟩
 case hassign=>
  intro l x W K hK;unfold ava
  gi_wp2
  exact hK
 case hbody=>
  rintro l U x Wb V ao ⟨⟨v,y,Z⟩,A,s⟩ ai
  try dsimp only
  obtain⟨m,I⟩:∃m,U.length=m:=⟨_,rfl⟩;have ak:m<=1000000001:=by omega
  unfold amY at Z;rw [I] at Z;have z:=ax3 I;clear I;obtain⟨av,cv,rfl,af,ad⟩:=SlK.own Z;have c2:=y.cell;have al:=y.lt
  gi_wp2_with (gi_at_builtin;refine acm _ rfl _ _ 30 rfl g 3 i0 (.int .i64 0) 1 8 underlying30 hi ab aa a8 rfl (by decide) _ _ _ rfl (Z.alloc _) (some ⟨V.heap.size,0,none⟩) 1 1 [.int .i64 x] rfl (at2 V x) (by simp [Value.oneCell']) (by unfold maxLen;omega) (by omega) (by simp;omega) ?_;intro v' w5 Y H am;obtain⟨g',aj,rfl⟩:=ownsRow_succ Y;obtain⟨b1,b2,b3,b4,b5⟩:=y.appended (of_decide_eq_true (by kernel_rfl)) Z (by omega) (axe _) Y H;have d1:=b1.cell;have d2:=b1.frozen;have d3:=b1.lt)
  refine⟨b4.from _,?_,⟨_,b2,?_⟩,A.trans (b5.mono (by omega)),awT s (by have:=b5.size;simpa using this)⟩
  · exact KpB.of_below (b5.mono (by omega))
  · unfold amY;rw [List.length_append,z.out,ay7];exact b3
 case hstop=>exact fun _ _ _ _ _ _ h _=>h.elim
 case hdone=>
  rintro D xs V hD hS ⟨⟨v,y,Z⟩,A,s⟩ a7;have ac:=ag xs V hS;obtain⟨m,I⟩:∃m,xs.length=m:=⟨_,rfl⟩;unfold amY at Z;rw [I] at Z ac;have z:=ax3 I;clear I;obtain⟨av,cv,rfl,af,ad⟩:=SlK.own Z;have c2:=y.cell;have j:=ownsRow_putObj Z (.deferred none) a7 rfl;have HS:=ax3 hS;clear Z hS;go_wp2;refine ar0 rfl a7 (results_tmp rfl _ _ _) ⟨_,xs,V,rfl,HS.out,⟨D,by omega,rfl⟩,?_,aaS A (by omega) (by omega) _⟩;unfold amY;rw [z.out,HG.out];exact j
theorem akg {U:Nat}{C:Array Value}{B:Nat}{Pb:Nat->World->World->Prop}{S:List Int->World->Prop}{Sp:List Int->Prop}{N J:Nat}(w:World)
  (h:∀args w,(callFunc U args).run ZP w=.ok (.enter U args) w)
  (Z:abk Fence.wide 8 ZP U C ava (KpB B) Pb S Sp N w) (j:B<=w.heap.size) (V:∀r W H,Pb r W H->r<w.heap.size) (hSk:∀(xs:List Int) (W:World) (l:Nat) (o o':Obj),w.heap.size<=l->W.heap[l]?=some o->o.isCells=false->S xs W->S xs (W.putObj l o'))
  (I:J<=w.heap.size) (X:∀r W H,Pb r W H->J<=r) (x:N<=1000000000) (Y:∀xs W,S xs W->xs.length<=1000000000) :
  Calls ZP 116 #[.func (.func U) #[] C] w fun e w'=>∃v xs W,e=.returned v/\S xs W/\(∃D,w.heap.size<=D/\w'=W.putObj D (.deferred none))/\amY w' w.heap.size v xs/\Below J w w':=by
 have HC:=ax3 (ahQ w h Z j V hSk I X x Y);clear Z V hSk X Y;go_enter func116,ntmps116
 go_wp2_with fail
 refine HC.out.mono ?_;rintro e w1 ⟨v,xs,W,rfl,y,s,A,z⟩;go_wp2;go_ret;exact⟨v,xs,W,rfl,y,s,A,z⟩
end
section
attribute [local go_sem] Oper.semAt_some
attribute [local simp] aab aa6
attribute [local go_sem] aab aa6
def aqW (Z:List PlW)(next:Nat):Nat->List Int
 | 0=>[]
 | j+1=>aqW Z next j++(if (Z.getD ((next+j) % Z.length) ((none,0,0),false)).2 then [((next+j:Nat):Int)] else [])
theorem ajj (Z:List PlW)(next:Nat):∀j,(aqW Z next j).length<=j
 | 0=>axe _
 | j+1=>by
  have:=ajj Z next j;unfold aqW;rw [List.length_append]
  split<;>simp<;>omega
theorem ajD {X:Nat->Prop}(p1 p2 Q B next:Nat)(U:List PlW)(H m:Nat)(w:World)(a6:w.heap[p1]?=some (.cells #[.pointer (some ⟨Q,0,none⟩)] 262 (0,0)))(a2:w.heap[p2]?=some (.cells #[.int .i64 (next:Int)] 3 (0,0)))(o:adQ X Q B next U w)(hx:next<=1000000000)(ak:p1<H)(aj:p2<H)(ah:Q<H)(ai:B<H)(hB:H<=w.heap.size) :
  abk Fence.wide m ZP 169 #[.pointer (some ⟨p1,0,none⟩),.pointer (some ⟨p2,0,none⟩)] ava (KpB H) (fun _ _ _=>False) (fun xs _=>xs=aqW U next U.length) (fun _=>True) 1000001 w:=by
 intro lo J Jx W hW hJ aq hY h0;have base:Hid (∀V,(w.heap.size<=V.heap.size/\∀k,k<H->V.heap[k]?=w.heap[k]?)->V.cell? ⟨p1,0,none⟩=some (.pointer (some ⟨Q,0,none⟩))/\V.cell? ⟨p2,0,none⟩=some (.int .i64 (next:Int))/\adQ X Q B next U V):=fun V hV=>by
  have e1:=(hV.2 p1 ak).trans a6;have e2:=(hV.2 p2 aj).trans a2;exact⟨by simp [World.cell?,e1],by simp [World.cell?,e2],(hV.2 Q ah).trans o.box,(hV.2 B ai).trans o.places,o.inX,o.ne,o.room⟩
 have aa:Hid (w.heap.size<=W.heap.size/\∀k,k<H->W.heap[k]?=w.heap[k]?):=⟨hW.size,fun k hk=>hW.block k (by omega)⟩;have ad:=ax3 hB;obtain⟨r1,r2⟩:=o.room;obtain⟨L,hL⟩:∃L,U.length=L:=⟨_,rfl⟩;have HL:=ax3 hL;rw [hL] at r1 r2 ⊢;clear a6 a2 o;obtain⟨c1,c2,y⟩:=base.out W aa.out;have c3:W.cell? ⟨Q,0,none⟩=some (.slice (some ⟨B,0,none⟩) L L):=by simp [World.cell?,y.box,hL]
 clear y hL;refine callsIn_of_wp func169 rfl trivial ?_ rfl;simp only [ntmps169,axT,axU,axV,Nat.reduceAdd,Nat.reduceSub,axW,axX,axY,axZ,ay0,ay1]
 gi_wp2
 clear c1 c2 c3
 gi_loopw [10] (fun i wr=>∃(j:Nat) (pre:List Int),j<=L/\i=.int .i64 j/\Hid (pre=aqW U next j)/\J pre wr/\Hid (w.heap.size<=wr.heap.size/\∀k,k<H->wr.heap[k]?=w.heap[k]?)) (fun i _=>L-(intOf i).toNat)
 case atStart=>exact⟨0,[],axh _,rfl,rfl,h0,aa⟩
 case round=>
  obtain⟨j,pre,hk,rfl,HP,hj,D⟩:=hrel
  by_cases v:j<L
  ·
   have af:decide ((j:Int)<(L:Int))=true:=by simp;omega
   have ap:decide (j<L)=true:=by simp;omega
   obtain⟨b1,b2,y⟩:=base.out wr D.out;have hl:=HL.out;have e1:IntKind.i64.wrap ((next:Int)+(j:Int))=((next+j:Nat):Int):=by rw [ax2];omega
   have z:=ax3 (ah5 (next+j) wr y (by omega));have a7:(next+j) % L<L:=ay3 _ (by omega);obtain⟨⟨q,Y⟩,hx⟩:∃x,U[(next+j) % L]?=some x:=⟨_,ay4 (by omega)⟩;have N:aqW U next (j+1)=aqW U next j++(if Y then [((next+j:Nat):Int)] else []):=by
    show aqW U next j++_=_;rw [hl,ay5,hx]
    rfl
   have I:pre.length<1000001:=by rw [HP.out];have:=ajj U next j;omega
   rw [hl] at z;have h:=ax3 hx;have a1:=ax3 N;have al:=ax3 I;have A:=ax3 v;have am:=ax3 hj;obtain⟨s,hs⟩:∃s,next+j=s:=⟨_,rfl⟩;rw [hs] at e1 z h a1;obtain⟨i,hi⟩:∃i,s % L=i:=⟨_,rfl⟩;rw [hi] at z h;clear y hl hx N I v hj hs hi a7
   gi_wp2_with fail
   refine (callsIn_wide.2 z.out).mono ?_;rintro e w2 ⟨rfl,C⟩;have Z:Hid (w.heap.size<=w2.heap.size/\∀k,k<H->w2.heap[k]?=w.heap[k]?):=⟨awT D.out.1 C.size,fun k hk=>(C.block k (by have:=D.out.1;have:=ad.out;omega)).trans (D.out.2 k hk)⟩;have ab:=acT hJ am.out C;obtain⟨b1,b2,y⟩:=base.out w2 Z.out;have x1:w2.cell? ⟨B,i*2+1,none⟩=some (.bool Y):=by have:=(aeQ h.out).2;simp [World.cell?,y.places];exact this
   have ac:=ax3 ab;clear y C ab
   cases Y with
   | false=>
    gi_wp2
    go_roundw
    case rel=>exact⟨j+1,pre,A.out,by go_num,by rw [Hid,a1.out,HP.out];simp,ac.out,Z⟩
    case measure=>
     have:=A.out;simp [intOf];omega
   | true=>
    obtain⟨fn,tmps,assign,body,ae,ag⟩:=hY pre (s:Int) w2 ac.out al.out;dsimp only [ava] at ae
    gi_wp2
    refine ag.mono ?_;rintro e W5 (⟨rfl,hJ4,hk4⟩ | ⟨rfl,hJx4⟩)
    ·
     have a8:Hid (w.heap.size<=W5.heap.size/\∀k,k<H->W5.heap[k]?=w.heap[k]?):=⟨awT Z.out.1 hk4.1,fun k hk=>(hk4.2 k hk (by have:=Z.out.1;have:=ad.out;omega)).trans (Z.out.2 k hk)⟩;have ao:=ax3 hJ4;clear hk4 hJ4
     gi_wp2
     go_roundw
     case rel=>exact⟨j+1,_,A.out,by go_num,by rw [Hid,a1.out,HP.out];simp,ao.out,a8⟩
     case measure=>
      have:=A.out;simp [intOf];omega
    ·
     gi_wp2
     refine bodyPost_ret (results_none rfl _ _ _) rfl ?_;exact⟨⟨_,rfl⟩,.inr ⟨_,trivial,hJx4⟩⟩
  ·
   obtain rfl:j=L:=by omega
   have af:decide ((j:Int)<(j:Int))=false:=by simp
   clear v
   gi_wp2
   go_end0
   exact⟨⟨_,rfl⟩,.inl ⟨pre,HP.out,hj⟩⟩
end
theorem ahR (Q next:Nat)(w:World) :
  Calls ZP 117 #[.pointer (some ⟨Q,0,none⟩),.int .i64 (next:Int)] w fun e w'=>e=.returned (.func (.func 169) #[] #[.pointer (some ⟨w.heap.size,0,none⟩),.pointer (some ⟨w.heap.size+1,0,none⟩)])/\w'=(w.alloc (.cells #[.pointer (some ⟨Q,0,none⟩)] 262)).alloc (.cells #[.int .i64 (next:Int)] 3):=by
 go_enter func117,ntmps117;go_wp2;go_ret;exact⟨rfl,rfl⟩
theorem aeH {X:Nat->Prop}{Q B next:Nat}{C:List PlW}(w:World)(h:adQ X Q B next C w)(hx:next<=1000000000) :
  Calls ZP 67 #[.pointer (some ⟨Q,0,none⟩)] w fun e w'=>∃v,e=.returned v/\amY w' w.heap.size v (aqW C next C.length)/\Below w.heap.size w w':=by
 have c1:w.cell? ⟨Q,1,none⟩=some (.int .i64 (next:Int)):=by simp [World.cell?,h.box]
 obtain⟨D,hD⟩:∃D,D=w.drew:=⟨_,rfl⟩;have U:Below w.heap.size w D:=by rw [hD];exact aa2 w 1
 have z:=h.keep (Y:=fun _=>False) (.of_same U) fun _ _ _ h=>h;have HN:=ax3 (ahR Q next D);obtain⟨W,hW⟩:∃W,W=(D.alloc (.cells #[.pointer (some ⟨Q,0,none⟩)] 262)).alloc (.cells #[.int .i64 (next:Int)] 3):=⟨_,rfl⟩;rw [<-hW] at HN;have I:Below D.heap.size D W:=by rw [hW];exact (aa1 _ _).alloc (by simp) _
 have j:Bx D.heap.size [.cells #[.pointer (some ⟨Q,0,none⟩)] 262,.cells #[.int .i64 (next:Int)] 3] W:=by rw [hW];exact ((Bx.nil _ D).snoc _ rfl).snoc _ (by simp)
 have J:W.heap[D.heap.size]?=some (.cells #[.pointer (some ⟨Q,0,none⟩)] 262 (0,0)):=by have:=j 0 _ rfl;rwa [ayc] at this
 have N:W.heap[D.heap.size+1]?=some (.cells #[.int .i64 (next:Int)] 3 (0,0)):=j 1 _ rfl;have Z:=z.keep (Y:=fun _=>False) (.of_same I) fun _ _ _ h=>h;have A:=ajD (X:=X) D.heap.size (D.heap.size+1) Q B next C W.heap.size 8 W J N Z hx (awU.1 J).1 (awU.1 N).1 (awU.1 Z.box).1 (awU.1 Z.places).1 (axe _);have hr:=h.room;have HC:=ax3 (akg W (enters_of func169 (by kernel_rfl) rfl) A (axe _) (fun _ _ _ h=>h.elim) (fun _ _ _ _ _ _ _ _ h=>h) (axe _) (fun _ _ _ h=>h.elim) (by omega) (fun xs V h=>by rw [h];have:=ajj C next C.length;omega));have H:W.cell? ⟨Q,1,none⟩=some (.int .i64 (next:Int)):=by simp [World.cell?,Z.box]
 have a6:=ax3 H;have a2:Hid (∀V,Below W.heap.size W V->V.cell? ⟨Q,1,none⟩=some (.int .i64 (next:Int))):=fun V s=>(s.cell (p:=⟨Q,1,none⟩) (awU.1 Z.box).1).trans H;have HB:=ax3 (U.trans (I.mono U.size));have aa:=ax3 U.size;clear h U z hW I j J N Z A hr H;go_enter func67,ntmps67;go_upto_region 3 with fail
 refine wp_region_noPanic ?_;refine wp_region_held_drew (S:=fun Y=>Y.cell? ⟨Q,1,none⟩=some (.int .i64 (next:Int))) (by kernel_rfl) c1 (fun hHeld=>?_);rw [<-hD] at hHeld ⊢;clear hD c1;refine tkA 0 ?_;refine tkA 1 ?_;refine tkA 2 ?_;refine tkA 3 ?_;refine tkA 4 ?_;refine tkA 5 ?_;refine tkW 6 (v:=?_) ?_ ?_;rotate_left
 ·
  intro V s;have q0:V.cell? ⟨Q,1,none⟩=some (.int .i64 (next:Int)):=s
  first | (go_simp;done) | (go_simp;with_reducible rfl)
 try simp only [Act.put,pA,pB,pC]
 refine rdy 7 (fun K y=>?_);go_simp
 go_at_call 117;refine (HN.out).mono ?_;rintro e w5 ⟨rfl,rfl⟩
 refine y.out _ _ (a6.out) (fun o=>?_);clear y K
 try simp only [Act.put,pA,pB,pC]
 refine rdy 8 (fun K y=>?_);go_simp
 go_at_call 116;refine (HC.out).mono ?_;rintro e w6 ⟨v,xs,V,rfl,rfl,a1,ho,x⟩
 refine y.out _ _ ((a2.out _ x)) (fun a8=>?_);clear y K
 try simp only [Act.put,pA,pB,pC]
 have HO:=ax3 ho;have a7:=ax3 x;clear a1 ho x o hHeld;refine tkA 9 ?_;refine wpAnyH_done (by kernel_rfl) ?_ _;refine ax4 ?_;go_wp2;go_ret;exact⟨_,rfl,agj HO.out HB.out.size,HB.out.trans (a7.out.mono HB.out.size)⟩
theorem avS:∀m:Nat,m<=16->(Builtin.zeroCells #[.int .i64 0,.int .i64 0] m).toList=afc (List.replicate m (0,0))
 | 0,_=>by kernel_rfl
 | 1,_=>by kernel_rfl
 | 2,_=>by kernel_rfl
 | 3,_=>by kernel_rfl
 | 4,_=>by kernel_rfl
 | 5,_=>by kernel_rfl
 | 6,_=>by kernel_rfl
 | 7,_=>by kernel_rfl
 | 8,_=>by kernel_rfl
 | 9,_=>by kernel_rfl
 | 10,_=>by kernel_rfl
 | 11,_=>by kernel_rfl
 | 12,_=>by kernel_rfl
 | 13,_=>by kernel_rfl
 | 14,_=>by kernel_rfl
 | 15,_=>by kernel_rfl
 | 16,_=>by kernel_rfl
 | m+17,h=>absurd h (by omega)
theorem aj5 (W:World)(B L:Nat)(X:List aam)(h:W.heap[B]?=some (.cells (afc X).toArray 116 (0,0)))(hL:X.length=L)(h1:1<=L)(h2:L<=16) :
  ∃D,(∀C,(Builtin.clear_ #[69] C #[.slice (some ⟨B,0,none⟩) L L]).run ZP W=.ok (.tuple #[]) D)/\D.heap[B]?=some (.cells (afc (List.replicate L (0,0))).toArray 116 (0,0))/\W.grownBy D (some B):=by
 obtain⟨i0,H,N,y,z⟩:=info_parts adc;have x:ZP.underlying 69=some (.slice 116):=underlying69;have A:=avS L h2;have V:(afc (List.replicate L (0,0))).length=L*2:=by rw [anc,axC]
 have U:(afc X).length=L*2:=by rw [anc,hL]
 have Z:=run_storeCells_at (P:=ZP) B 0 116 (afc (List.replicate L (0,0))) 0 (afc X).toArray W h (by simp [V,U]) (fun v Y=>by
  unfold afc at Y;obtain⟨p,s,Y⟩:=ayo.1 Y;rw [(List.mem_replicate.1 s).2] at Y;simp [aw8] at Y;rw [Y];simp [Value.oneCell'])
 have e:((afc X).toArray.toList.take (0+0)++afc (List.replicate L (0,0))++(afc X).toArray.toList.drop (0+0+(afc (List.replicate L (0,0))).length)).toArray=(afc (List.replicate L (0,0))).toArray:=by
  congr 1;rw [V,ayc,axz,List.take_zero,ay0,List.drop_of_length_le (by simp [U]),ayj]
 rw [e] at Z;refine⟨W.setRow B (afc (List.replicate L (0,0))).toArray,fun C=>?_,?_,?_⟩
 ·
  obtain⟨m,o⟩:∃m,L=m+1:=⟨L-1,by omega⟩;rw [<-A] at Z;rw [<-A];rw [o] at Z ⊢;have Y:∀w,(zeroValue 116).run ZP w=.ok (.agg #[.int .i64 0,.int .i64 0]) w:=fun w=>by simp [zeroValue,typeInfo,H,N]
  have J:(Value.agg #[.int .i64 0,.int .i64 0]).cells=#[.int .i64 0,.int .i64 0]:=rfl;simp [Builtin.clear_,run_underlying x,Y,J,Z]
 · simp [World.setRow,axy,h]
 · refine⟨rfl,rfl,rfl,by simp [World.setRow],fun k _ I=>?_⟩;have j:¬B=k:=fun e=>I (by rw [e]);simp [World.setRow,axy,j]
theorem akb {X:Nat->Prop}{Q B first many:Nat}{closed:Bool}{z:List aam}(w:World)(h:ab9 X Q B first many closed z w) :
  Calls ZP 211 #[.pointer (some ⟨Q,0,none⟩)] w fun e w'=>e=.returned (.int .i64 (many:Int))/\ab9 X Q B 0 0 closed (List.replicate z.length (0,0)) w'/\Chg X w w':=by
 obtain⟨L,H⟩:∃L,z.length=L:=⟨_,rfl⟩;obtain⟨r1,r2,j,o⟩:=h.room;have c0:w.cell? ⟨Q,0,none⟩=some (.slice (some ⟨B,0,none⟩) L L):=by simp [World.cell?,h.box,H]
 have c2:w.cell? ⟨Q,2,none⟩=some (.int .i64 (many:Int)):=by simp [World.cell?,h.box]
 obtain⟨I,a1,D,J⟩:=aj5 w B L z h.places H (by omega) (by omega);have A:=(awU.1 h.box).1;have Z:I.heap[Q]?=some (.cells #[.slice (some ⟨B,0,none⟩) L L,.int .i64 (first:Int),.int .i64 (many:Int),.bool closed] 205 (0,0)):=by rw [J.block Q A (fun e=>h.ne (awV e)),<-H];exact h.box
 have Y:(List.replicate L ((0:Int),(0:Int))).length=L:=axC;have C:ab9 X Q B first many closed (List.replicate L (0,0)) I:=⟨by rw [Y];exact Z,D,h.inX,h.ne,by rw [Y,<-H];exact h.room⟩;obtain⟨s,v⟩:=C.setF 0 (by rw [Y];omega);obtain⟨x,y⟩:=s.setM 0 (axh _);have K1:=ax3 x;have K2:=ax3 ((((Chg.refl X w).grown J fun g e _=>by cases e;exact h.inX.2).then v).then y);have f1:I.frozen? ⟨Q,1,none⟩=false:=by simp [World.frozen?,Z]
 have d1:I.cell? ⟨Q,1,none⟩=some (.int .i64 (first:Int)):=by simp [World.cell?,Z]
 obtain⟨W2,N⟩:∃V,V=I.setCell ⟨Q,1,none⟩ (.int .i64 0):=⟨_,rfl⟩;have U:=aa4 (i:=1) Z (.int .i64 0);rw [<-N] at U;have f2:(I.setCell ⟨Q,1,none⟩ (.int .i64 0)).frozen? ⟨Q,2,none⟩=false:=by rw [<-N];simp [World.frozen?,U]
 have d2:(I.setCell ⟨Q,1,none⟩ (.int .i64 0)).cell? ⟨Q,2,none⟩=some (.int .i64 (many:Int)):=by rw [<-N];simp [World.cell?,U]
 rw [H];clear h r1 r2 j o D J A Z Y C s v x y N U H;go_enter func211,ntmps211;go_wp2;go_ret;exact⟨rfl,K1.out,K2.out⟩
theorem awf:∀m:Nat,m<=16->madeCells (Value.agg #[.slice none 0 0,.bool false]).cells (m*2)=(plC (List.replicate m ((none,0,0),false))).toArray
 | 0,_=>by kernel_rfl
 | 1,_=>by kernel_rfl
 | 2,_=>by kernel_rfl
 | 3,_=>by kernel_rfl
 | 4,_=>by kernel_rfl
 | 5,_=>by kernel_rfl
 | 6,_=>by kernel_rfl
 | 7,_=>by kernel_rfl
 | 8,_=>by kernel_rfl
 | 9,_=>by kernel_rfl
 | 10,_=>by kernel_rfl
 | 11,_=>by kernel_rfl
 | 12,_=>by kernel_rfl
 | 13,_=>by kernel_rfl
 | 14,_=>by kernel_rfl
 | 15,_=>by kernel_rfl
 | 16,_=>by kernel_rfl
 | m+17,h=>absurd h (by omega)
theorem arg:∃i,ZP.info? 264=some i/\i.zero=some (.agg #[.slice none 0 0,.bool false])/\i.size=2/\i.bytes<=100:=by
 have h:((ZP.info? 264).map fun i=>(i.zero,i.size,decide (i.bytes<=100)))=some (some (.agg #[.slice none 0 0,.bool false]),2,true):=by kernel_rfl
 cases e:ZP.info? 264 with
 | none=>rw [e] at h;cases h
 | some i=>
  rw [e] at h;have h:=awV h
  injection h with h1 h2
  injection h2 with h2 h3
  exact⟨i,rfl,h1,h2,of_decide_eq_true h3⟩
theorem asD (m:Nat)(w:World)(h1:1<=m)(h2:m<=16) :
  Calls ZP 98 #[.int .i64 (m:Int)] w fun e w'=>∃Q B,e=.returned (.tuple #[.pointer (some ⟨Q,0,none⟩),.int .i64 0])/\adQ (fun k=>w.heap.size<=k) Q B 0 (List.replicate m ((none,0,0),false)) w'/\Below w.heap.size w w':=by
 have a1:∀V:World,(Instr.makeSlice 195 (.int .i64 m) (.int .i64 m)).run ZP V=.ok (.slice (some ⟨V.heap.size,0,none⟩) m m) (V.alloc (.cells (plC (List.replicate m ((none,0,0),false))).toArray 264)):=fun V=>by
  obtain⟨H,hi,C,N,D⟩:=arg;have a2:H.bytes*m<=100*16:=axA D h2;have x:(H.bytes:Int)*(m:Int)<=281474976710656:=by rw [<-axB];omega
  have h:=run_makeSlice (P:=ZP) (w:=V) 195 264 H (.agg #[.slice none 0 0,.bool false]) underlying195 hi C .i64 .i64 (m:Int) (m:Int) (by omega) (by omega) (by rw [N];omega) x (by omega);rw [N,axs,awf m h2] at h;exact h
 have d0:decide ((m:Int)<1)=false:=by simp;omega
 have d1:decide ((m:Int) > 16)=false:=by simp;omega
 have a6:decide ((16:Int)<(m:Int))=false:=by simp;omega
 have d2:decide (m<1)=false:=by simp;omega
 have d3:decide (16<m)=false:=by simp;omega
 have d4:decide (m=0)=false:=by simp;omega
 have o:=ax3 (And.intro h1 h2);clear h1 h2;go_enter func98,ntmps98;go_wp2;go_ret2;obtain⟨h1,h2⟩:=o.out;have U:(List.replicate m ((none,0,0),false):List PlW).length=m:=axC;obtain⟨X,Z⟩:∃V,V=w.alloc (.cells (plC (List.replicate m ((none,0,0),false))).toArray 264):=⟨_,rfl⟩;obtain⟨s,Y⟩:∃V,V=X.alloc (.cells #[.slice (some ⟨w.heap.size,0,none⟩) m m,.int .i64 0] 199):=⟨_,rfl⟩;have z:X.heap[w.heap.size]?=some (.cells (plC (List.replicate m ((none,0,0),false))).toArray 264 (0,0)):=by rw [Z];exact axg _ _
 have y:X.heap.size=w.heap.size+1:=by rw [Z];simp
 have A:s.heap[X.heap.size]?=some (.cells #[.slice (some ⟨w.heap.size,0,none⟩) m m,.int .i64 0] 199 (0,0)):=by rw [Y];exact axg _ _
 have I:Below w.heap.size w X:=by rw [Z];exact aa1 _ _
 have J:Below X.heap.size X s:=by rw [Y];exact aa1 _ _
 have v:adQ (fun k=>w.heap.size<=k) X.heap.size w.heap.size 0 (List.replicate m ((none,0,0),false)) s:=⟨by rw [U];exact A,(J.block w.heap.size (by omega)).trans z,⟨by show w.heap.size<=X.heap.size;omega,axe _⟩,by omega,by rw [U];omega⟩;have j:=I.trans (J.mono I.size);rw [y] at v;refine⟨w.heap.size+1,w.heap.size,rfl,?_,?_⟩
 · rw [Y,Z] at v;exact v
 · rw [Y,Z] at j;exact j
end Go.Proofs.YtaamacoicojhnaaGreat
