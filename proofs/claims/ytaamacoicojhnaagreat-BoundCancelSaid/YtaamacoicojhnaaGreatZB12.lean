/- Proofs over the given program, part 12. -/
import Derived.Test.YtaamacoicojhnaaGreatZB11
set_option linter.unusedVariables false
set_option linter.unusedSimpArgs false
set_option maxRecDepth 100000
set_option maxHeartbeats 16000000
open Go.Proofs.Tryz
open Go.Proofs.Tryz renaming prog→ZP
namespace Go.Proofs.YtaamacoicojhnaaGreat
open Go.RowKit Go.Sort
def abw (Z:Int):List (List Int)->List Int
 | []=>[]
 | x :: _=>if Z<1 then [] else ads Z x
def afq (Z:Int):List (List Int)->List (List Int)
 | []=>[]
 | x :: t=>if Z<1 then x :: t else ahI Z x t
theorem adS.told {X:Nat->Prop}{S n c told:Nat}{a:Option Addr}{I:List TVw}{rs:List (List Int)}{br:Bool}{w:World}(h:adS X S a n c I rs br told w)(Z:Nat) :
  adS X S a n c I rs br Z (w.setCell ⟨S,2,none⟩ (.int .i64 (Z:Int)))/\Chg X w (w.setCell ⟨S,2,none⟩ (.int .i64 (Z:Int))):=by
 have V:∀k,k≠S->(w.setCell ⟨S,2,none⟩ (.int .i64 (Z:Int))).heap[k]?=w.heap[k]?:=fun k V=>axn w ⟨S,2,none⟩ _ k V;refine⟨h.turn (by simp [World.setCell]) (aa4 (i:=2) h.box _) (fun k _ h1 _=>V k h1) ⟨h.row.1,?_⟩ (fun h0=>⟨h0,fun q N=>?_⟩) h.len h.cap (fun q N=>⟨q,N,rfl⟩) (fun i v xs H U=>?_),(Chg.refl X w).set h.inX⟩
 ·
  by_cases h0:n=0
  · exact .inl h0
  · obtain⟨b,o,e,D,U⟩:=h.row.2.resolve_left h0;obtain⟨_,Y,_⟩:=h.rowB h0 _ e;refine .inr ⟨b,o,e,by simpa [World.setCell] using D,fun i x C=>?_⟩;rw [axp (a:=⟨b,o+i,none⟩) (V b Y)];exact U i x C
 · obtain⟨_,Y,J,B⟩:=h.rowB h0 q N;exact⟨⟨q,N,rfl⟩,J,(V _ Y).trans B⟩
 · obtain⟨z,A,y⟩:=h.el i v xs H U;exact⟨i,v,xs,H,U,z,A,fun h0 q e=>⟨h0,q,e,rfl⟩⟩
def av9 (X:Nat->Prop)(S told n:Nat)(rs:List (List Int))(br:Bool)(Z:Int)(w:World)(e:Ending)(w':World):Prop:=
 ∃(v:Value) (a2:Option Addr) (V c2:Nat) (Y:List TVw),e=.returned (.tuple #[v,.bool rs.isEmpty])/\ag6 w' w.heap.size v (abw Z rs).length (abw Z rs)/\(∀x∈abw Z rs,0<=x/\x<=255)/\adS X S a2 V c2 Y (afq Z rs) br (told+(abw Z rs).length) w'/\Chg X w w'/\V<=n
theorem alU {X:Nat->Prop}{S n c told:Nat}{a:Option Addr}{vs:List TVw}{rs:List (List Int)}{br:Bool}(Z:Int)(w:World)(h:adS X S a n c vs rs br told w)(hn:n<=1000000)(hl:∀x∈rs,x.length<=1000000)(ht:told<=1000000000) :
  Calls ZP 192 #[.pointer (some ⟨S,0,none⟩),.int .i64 Z] w (av9 X S told n rs br Z w):=by
 have H:=aoh w h;have HH:=ax3 h
 cases rs with
 | nil=>
  have h0:n=0:=by
   have h1:=h.len;have h2:=h.row.1;simp at h1;rw [h1] at h2;exact h2.symm
  rw [decide_eq_true h0] at H;have HE:=ax3 H;clear h H h0;go_enter func192,ntmps192
  go_wp2_with (go_at_call 234;refine HE.out.mono ?_;rintro e o ⟨rfl,rfl⟩)
  go_ret2;exact⟨_,_,_,_,_,rfl,ayy _ _ _ _,(by intro x hx;simp [abw] at hx),HH.out,Chg.refl _ _,axe _⟩
 | cons x t=>
  have h0:n≠0:=by
   have h1:=h.len;have h2:=h.row.1;simp at h1;omega
  rw [decide_eq_false h0] at H;have HE:=ax3 H;have ad:=ax3 h0;clear h H h0
  by_cases J:Z<1
  ·
   have d0:decide (Z<1)=true:=decide_eq_true J;have z:abw Z (x :: t)=[]:=if_pos J;have A:afq Z (x :: t)=x :: t:=if_pos J;have V:=ax3 (And.intro z A);clear z A J;go_enter func192,ntmps192
   go_wp2_with (go_at_call 234;refine HE.out.mono ?_;rintro e o ⟨rfl,rfl⟩)
   go_ret2;unfold av9;rw [V.out.1,V.out.2];exact⟨_,_,_,_,_,rfl,ayy _ _ _ _,(by intro x hx;simp [abw] at hx),HH.out,Chg.refl _ _,axe _⟩
  ·
   have d0:decide (Z<1)=false:=decide_eq_false J;have z:abw Z (x :: t)=ads Z x:=if_neg J;have A:afq Z (x :: t)=ahI Z x t:=if_neg J;have V:=ax3 (And.intro z A);have HC:=ax3 (aog Z w HH.out (by omega) hn);have D:(ads Z x).length<=1000000:=by
    have:=hl x (by simp);unfold ads
    split
    · exact this
    · rw [ay6];omega
   have y:=ax3 D;clear z A J D;go_enter func192,ntmps192;go_upto_region 5 with (go_at_call 234;refine HE.out.mono ?_;rintro e o ⟨rfl,rfl⟩)
   go_wp2_with fail
   refine HC.out.mono ?_;rintro e o ⟨b',I,c',a2,n2,c2,a1,rfl,N,hs,hc,B⟩;have C:(ads Z x).length=I:=N.1.1;have aa:=ax3 (ai3 b' I c' ((ads Z x).map (Value.int .u8)) o (anH N.1) (fun u hu=>by obtain⟨x,_,rfl⟩:=axE.1 hu;rfl) (by have:=y.out;omega));have ab:=ax3 N;have HS:=ax3 hs;have v:=ax3 hc;have a8:=ax3 B;have HM:=ax3 C;clear N hs hc B C
   go_wp2_with fail
   refine aa.out.mono ?_;rintro e s ⟨v2,rfl,ho,j⟩;obtain⟨b2,k2,a6,_,_⟩:=SlK.own ho;subst a6;have U:adS X S a2 n2 c2 a1 (ahI Z x t) br told s:=HS.out.keep (Y:=fun _=>False) (.of_same j) fun _ _ _ h=>h;have ac:I<=1000000:=by have:=y.out;have:=HM.out;omega
   have s2:s.cell? ⟨S,2,none⟩=some (.int .i64 (told:Int)):=by simp [World.cell?,U.box]
   have f2:s.frozen? ⟨S,2,none⟩=false:=by simp [World.frozen?,U.box]
   have hw:IntKind.i64.wrap ((told:Int)+(I:Int))=((told+I:Nat):Int):=by rw [ax2];omega
   obtain⟨T,hT⟩:∃T,told+I=T:=⟨_,rfl⟩;rw [hT] at hw;obtain⟨g1,g2⟩:=U.told T;have G1:=ax3 g1;have G2:=ax3 (v.out.same j |>.then g2);have HO:=ax3 ho;have HB:=ax3 j;have HT:=ax3 hT;have a7:Hid (∀g,(Value.slice b2 I k2).ownBlock=some g->g≠S):=fun g e=>by
    have h1:=(acx ho g e).1;have h2:=(awU.1 HS.out.box).1;omega
   clear ho j U g1 g2 hT;go_wp2;go_ret2;unfold av9;rw [V.out.1,V.out.2,HM.out,HT.out];refine⟨_,_,_,_,_,rfl,?_,ab.out.2,G1.out,G2.out,a8.out⟩;refine agj (aaX HO.out fun g e=>?_) v.out.size;exact axn s ⟨S,2,none⟩ _ g (a7.out g e)
def aw8 (p:aam):List Value:=[.int .i64 p.1,.int .i64 p.2]
def afc (l:List aam):List Value:=l.flatMap aw8
theorem ady (p:aam)(l:List aam):afc (p :: l)=aw8 p++afc l:=by simp [afc]
theorem anc (l:List aam):(afc l).length=l.length*2:=by
 induction l with
 | nil=>rfl
 | cons p l ih=>
  rw [ady,List.length_append,ih,axU];show 2+l.length*2=_;omega
theorem ajr:∀{l:List aam} {i:Nat} {p:aam},l[i]?=some p->(afc l)[i*2]?=some (.int .i64 p.1)/\(afc l)[i*2+1]?=some (.int .i64 p.2)
 | [],i,p,h=>by simp at h
 | q :: l,0,p,h=>by
  cases awV h
  exact⟨rfl,rfl⟩
 | q :: l,i+1,p,h=>by
  have:=ajr (l:=l) (i:=i) (p:=p) (by simpa using h);rw [ady,show (i+1)*2=i*2+1+1 by omega];exact this
theorem ank:∀(l:List aam) (i:Nat) (p:aam),afc (l.set i p)=((afc l).set (i*2) (.int .i64 p.1)).set (i*2+1) (.int .i64 p.2)
 | [],i,p=>by simp [afc]
 | q :: l,0,p=>by simp [ady,aw8]
 | q :: l,i+1,p=>by
  have:=ank l i p;rw [List.set_cons_succ,ady,ady,this,show (i+1)*2=i*2+1+1 by omega]
  rfl
structure ab9 (X:Nat->Prop)(Q B first many:Nat)(closed:Bool)(ps:List aam)(w:World):Prop where
 box:w.heap[Q]?=some (.cells #[.slice (some ⟨B,0,none⟩) ps.length ps.length,.int .i64 (first:Int),.int .i64 (many:Int),.bool closed] 205 (0,0))
 places:w.heap[B]?=some (.cells (afc ps).toArray 116 (0,0))
 inX:X Q/\X B
 ne:Q≠B
 room:1<=ps.length/\ps.length<=16/\first<ps.length/\many<=ps.length
section
variable {X Y:Nat->Prop}{Q B first many:Nat}{closed:Bool}{ps:List aam}{w w':World}
theorem ab9.keep (h:ab9 X Q B first many closed ps w)(J:Chg Y w w')(N:∀k,k<w.heap.size->X k->¬Y k):ab9 X Q B first many closed ps w':=by
 have V:∀k o,w.heap[k]?=some o->X k->w'.heap[k]?=some o:=fun k o Z U=>(J.block k (awU.1 Z).1 (N k (awU.1 Z).1 U)).trans Z;exact⟨V _ _ h.box h.inX.1,V _ _ h.places h.inX.2,h.inX,h.ne,h.room⟩
theorem ab9.below (h:ab9 X Q B first many closed ps w)(Z:Below w.heap.size w w'):ab9 X Q B first many closed ps w':=h.keep (Y:=fun _=>False) (.of_same Z) fun _ _ _ h=>h
theorem ab9.wide (h:ab9 X Q B first many closed ps w)(Z:∀k,k<w.heap.size->X k->Y k):ab9 Y Q B first many closed ps w:=
 ⟨h.box,h.places,⟨Z _ (awU.1 h.box).1 h.inX.1,Z _ (awU.1 h.places).1 h.inX.2⟩,h.ne,h.room⟩
def ab9.putW (w:World)(B i:Nat)(p:aam):World:=(w.setCell ⟨B,i*2,none⟩ (.int .i64 p.1)).setCell ⟨B,i*2+1,none⟩ (.int .i64 p.2)
theorem ab9.setP (h:ab9 X Q B first many closed ps w)(i:Nat)(p:aam):ab9 X Q B first many closed (ps.set i p) (ab9.putW w B i p)/\Chg X w (ab9.putW w B i p):=by
 have h0:=h.places;have h1:=aa4 (i:=i*2) h0 (.int .i64 p.1);have h2:=aa4 (i:=i*2+1) h1 (.int .i64 p.2);rw [ayD,ayD,<-ank] at h2;have Z:Chg (fun k=>k=B) w (ab9.putW w B i p):=by
  unfold ab9.putW;exact ((Chg.refl (fun k=>k=B) w).set (show B=B from rfl)).set (show B=B from rfl)
 have V:(ab9.putW w B i p).heap[Q]?=w.heap[Q]?:=Z.block Q (awU.1 h.box).1 h.ne;exact⟨⟨by rw [axb];exact V.trans h.box,h2,h.inX,h.ne,by rw [axb];exact h.room⟩,Z.mono fun k _ e=>by rw [e];exact h.inX.2⟩
theorem ab9.setM (h:ab9 X Q B first many closed ps w)(Z:Nat)(V:Z<=ps.length):ab9 X Q B first Z closed ps (w.setCell ⟨Q,2,none⟩ (.int .i64 (Z:Int)))/\Chg X w (w.setCell ⟨Q,2,none⟩ (.int .i64 (Z:Int))):=
 ⟨⟨aa4 (i:=2) h.box _,(axn w ⟨Q,2,none⟩ _ B h.ne.symm).trans h.places,h.inX,h.ne,h.room.1,h.room.2.1,h.room.2.2.1,V⟩,(Chg.refl X w).set h.inX.1⟩
theorem ab9.setF (h:ab9 X Q B first many closed ps w)(Z:Nat)(V:Z<ps.length):ab9 X Q B Z many closed ps (w.setCell ⟨Q,1,none⟩ (.int .i64 (Z:Int)))/\Chg X w (w.setCell ⟨Q,1,none⟩ (.int .i64 (Z:Int))):=
 ⟨⟨aa4 (i:=1) h.box _,(axn w ⟨Q,1,none⟩ _ B h.ne.symm).trans h.places,h.inX,h.ne,h.room.1,h.room.2.1,V,h.room.2.2.2⟩,(Chg.refl X w).set h.inX.1⟩
theorem ab9.setC (h:ab9 X Q B first many closed ps w)(c2:Bool):ab9 X Q B first many c2 ps (w.setCell ⟨Q,3,none⟩ (.bool c2))/\Chg X w (w.setCell ⟨Q,3,none⟩ (.bool c2)):=
 ⟨⟨aa4 (i:=3) h.box _,(axn w ⟨Q,3,none⟩ _ B h.ne.symm).trans h.places,h.inX,h.ne,h.room⟩,(Chg.refl X w).set h.inX.1⟩
end
theorem aka {X:Nat->Prop}{Q B first many:Nat}{closed:Bool}{ps:List aam}(w:World)(h:ab9 X Q B first many closed ps w) :
  Calls ZP 246 #[.pointer (some ⟨Q,0,none⟩)] w fun e w'=>e=.returned (.int .i64 ((ps.length-many:Nat):Int))/\Below w.heap.size w w':=by
 have c0:w.cell? ⟨Q,0,none⟩=some (.slice (some ⟨B,0,none⟩) ps.length ps.length):=by simp [World.cell?,h.box]
 have c2:w.cell? ⟨Q,2,none⟩=some (.int .i64 (many:Int)):=by simp [World.cell?,h.box]
 have J:=ax3 (fun q=>aa2 w q);have N:=h.room;have U:IntKind.i64.wrap ((ps.length:Int)-(many:Int))=((ps.length-many:Nat):Int):=by rw [ax2];omega
 obtain⟨L,V⟩:∃L,ps.length=L:=⟨_,rfl⟩;rw [V] at c0 U ⊢;obtain⟨M,Z⟩:∃M,L-many=M:=⟨_,rfl⟩;rw [Z] at U ⊢;clear h N V Z;go_enter func246,ntmps246;go_upto_region 1 with fail
 go_big_quiet (fail)
 go_wp2;go_ret;exact⟨rfl,J.out _⟩
theorem alT {X:Nat->Prop}{Q B first many:Nat}{closed:Bool}{ps:List aam}(w:World)(h:ab9 X Q B first many closed ps w) :
  Calls ZP 72 #[.pointer (some ⟨Q,0,none⟩)] w fun e w'=>e=.returned (.bool closed)/\Below w.heap.size w w':=by
 have c0:w.cell? ⟨Q,3,none⟩=some (.bool closed):=by simp [World.cell?,h.box]
 clear h;go_enter func72,ntmps72;go_wp2;go_ret;exact⟨rfl,axf _ _⟩
theorem as8 {X:Nat->Prop}{Q B first many:Nat}{closed:Bool}{ps:List aam}(w:World)(h:ab9 X Q B first many closed ps w) :
  Calls ZP 68 #[.pointer (some ⟨Q,0,none⟩)] w fun e w'=>e=.returned (.int .i64 (many:Int))/\Below w.heap.size w w':=by
 have c0:w.cell? ⟨Q,2,none⟩=some (.int .i64 (many:Int)):=by simp [World.cell?,h.box]
 clear h;go_enter func68,ntmps68;go_wp2;go_ret;exact⟨rfl,axf _ _⟩
theorem apD {X:Nat->Prop}{Q B first many:Nat}{closed:Bool}{ps:List aam}(w:World)(h:ab9 X Q B first many closed ps w) :
  Calls ZP 205 #[.pointer (some ⟨Q,0,none⟩)] w fun e w'=>e=.returned (.int .i64 ((ps.length-many:Nat):Int))/\Below w.heap.size w w':=by
 have V:=ax3 (aka w h);clear h;go_enter func205,ntmps205
 go_wp2_with (go_at_call 246;refine V.out.mono ?_;rintro e N ⟨rfl,Z⟩;have U:=ax3 Z;clear Z)
 go_ret;exact⟨rfl,U.out⟩
theorem anZ {X:Nat->Prop}{Q B first many:Nat}{closed:Bool}{ps:List aam}(w:World)(h:ab9 X Q B first many closed ps w) :
  Calls ZP 245 #[.pointer (some ⟨Q,0,none⟩)] w fun e w'=>e=.returned (.bool (!closed))/\ab9 X Q B first many true ps w'/\Chg X w w':=by
 have c3:w.cell? ⟨Q,3,none⟩=some (.bool closed):=by simp [World.cell?,h.box]
 have I:w.frozen? ⟨Q,3,none⟩=false:=by simp [World.frozen?,h.box]
 obtain⟨V,Z⟩:=h.setC true;have J:=ax3 V;have N:=ax3 Z;have U:=ax3 h;clear h V Z
 cases closed with
 | true=>
  go_enter func245,ntmps245;go_wp2;go_ret;exact⟨rfl,U.out,Chg.refl _ _⟩
 | false=>
  go_enter func245,ntmps245;go_wp2;go_ret;exact⟨rfl,J.out,N.out⟩
theorem api {X:Nat->Prop}{Q B first many:Nat}{closed:Bool}{ps:List aam}(p:aam)(w:World)(h:ab9 X Q B first many closed ps w)(hm:many<ps.length) :
  Calls ZP 247 #[.pointer (some ⟨Q,0,none⟩),.agg #[.int .i64 p.1,.int .i64 p.2]] w fun e w'=>(∃v,e=.returned v)/\ab9 X Q B first (many+1) closed (ps.set ((first+many) % ps.length) p) w'/\Chg X w w':=by
 obtain⟨W,hW⟩:∃W,W=w.alloc (.cells #[.int .i64 p.1,.int .i64 p.2] 116):=⟨_,rfl⟩;have C:Below w.heap.size w W:=by rw [hW];exact aa1 _ _
 have Z:=h.below C;have D:W.heap[w.heap.size]?=some (.cells #[.int .i64 p.1,.int .i64 p.2] 116 (0,0)):=by rw [hW];exact axg _ _
 have x0:W.cell? ⟨w.heap.size,0,none⟩=some (.int .i64 p.1):=by simp [World.cell?,D]
 have x1:W.cell? ⟨w.heap.size,1,none⟩=some (.int .i64 p.2):=by simp [World.cell?,D]
 have c0:W.cell? ⟨Q,0,none⟩=some (.slice (some ⟨B,0,none⟩) ps.length ps.length):=by simp [World.cell?,Z.box]
 have c1:W.cell? ⟨Q,1,none⟩=some (.int .i64 (first:Int)):=by simp [World.cell?,Z.box]
 have c2:W.cell? ⟨Q,2,none⟩=some (.int .i64 (many:Int)):=by simp [World.cell?,Z.box]
 obtain⟨r1,r2,r3,r4⟩:=h.room;obtain⟨L,j⟩:∃L,ps.length=L:=⟨_,rfl⟩;have e1:IntKind.i64.wrap ((first:Int)+(many:Int))=((first+many:Nat):Int):=by rw [ax2];omega
 have e2:((first+many:Nat):Int).tmod (L:Int)=(((first+many) % L:Nat):Int):=by rw [ay2 (by omega)];simp
 have N:(first+many) % L<L:=ay3 _ (by omega);obtain⟨s,y⟩:∃s,first+many=s:=⟨_,rfl⟩;obtain⟨i,o⟩:∃i,s % L=i:=⟨_,rfl⟩;rw [j] at c0 ⊢;rw [y] at e1 e2 N ⊢;rw [o] at e2 N ⊢;have i0:(0:Int)<=(i:Int):=by omega
 have i1:(i:Int)<(L:Int):=by omega
 have z0:¬(L:Int)=0:=by omega
 have z1:¬L=0:=by omega
 obtain⟨q,x⟩:∃q,ps[i]?=some q:=⟨_,ay4 (by omega)⟩;obtain⟨z,A⟩:=ajr x;have d0:W.cell? ⟨B,i*2,none⟩=some (.int .i64 q.1):=by simp [World.cell?,Z.places];exact z
 have f0:W.frozen? ⟨B,i*2,none⟩=false:=by simp [World.frozen?,Z.places]
 have d1:W.cell? ⟨B,i*2+1,none⟩=some (.int .i64 q.2):=by simp [World.cell?,Z.places];exact A
 have f1:W.frozen? ⟨B,i*2+1,none⟩=false:=by simp [World.frozen?,Z.places]
 have I:ab9 X Q B first many closed ps W.drew:=Z.below (aa2 W 1);obtain⟨U,H⟩:=I.setP i p;obtain⟨V,J⟩:∃V,V=(ab9.putW W B i p).drew:=⟨_,rfl⟩;have U:ab9 X Q B first many closed (ps.set i p) V:=by rw [J];exact U
 have H:Chg X W V:=by rw [J];exact (Chg.of_same (aa2 W 1)).then H
 have k2:V.cell? ⟨Q,2,none⟩=some (.int .i64 (many:Int)):=by simp [World.cell?,U.box]
 have l2:V.frozen? ⟨Q,2,none⟩=false:=by simp [World.frozen?,U.box]
 have ew:IntKind.i64.wrap ((many:Int)+1)=(many:Int)+1:=by rw [ax2];omega
 obtain⟨s1,s2⟩:=U.setM (many+1) (by rw [axb];omega);have S1:=ax3 s1;have S2:=ax3 (((Chg.of_same C).then H).then s2);unfold ab9.putW at J;clear h Z D j y o x z A I U H s1 s2 r1 r2 r3 r4 C;go_enter func247,ntmps247;go_upto_region 1 with fail
 rw [<-hW];clear hW
 go_region
 rw [<-J];clear J c0 c1 c2 d0 f0 x0 d1 f1 x1;go_wp2
 go_end0
 exact⟨⟨_,rfl⟩,S1.out,S2.out⟩
abbrev ByX (X:Nat->Prop)(w:World)(v:Value)(xs:List Int):Prop:=afd X w 5 1 v xs.length (xs.map (Value.int .u8))
structure acG (X:Nat->Prop)(lab:Nat->Nat)(B U D:Nat)(fv:Value)(dv:List Value)(size:Nat)(fr:List Int)(us:List Bool)(ds:List (List Int))(w:World):Prop where
 box:w.heap[B]?=some (.cells #[fv,.int .i64 (size:Int),.slice (some ⟨U,0,none⟩) us.length us.length,.slice (some ⟨D,0,none⟩) us.length us.length] 210 (0,0))
 used:w.heap[U]?=some (.cells (us.map Value.bool).toArray 4 (0,0))
 data:w.heap[D]?=some (.cells dv.toArray 32 (0,0))
 inX:X B/\X U/\X D
 labs:lab B=1/\lab U=2/\lab D=3
 free:afd X w 3 1 fv fr.length (fr.map (Value.int .i64))/\∀g,fv.ownBlock=some g->lab g=4
 dl:dv.length=us.length/\ds.length=us.length
 rows:∀(i:Nat) (v:Value) (xs:List Int),dv[i]?=some v->ds[i]?=some xs->ByX X w v xs/\∀g,v.ownBlock=some g->lab g=5+i
section
variable {X Y:Nat->Prop}{lab:Nat->Nat}{B U D size:Nat}{fv:Value}{dv:List Value}{fr:List Int}{us:List Bool}{ds:List (List Int)}{w w':World}
theorem acG.keep (h:acG X lab B U D fv dv size fr us ds w)(I:Chg Y w w')(J:∀k,k<w.heap.size->X k->¬Y k):acG X lab B U D fv dv size fr us ds w':=by
 have H:∀k o,w.heap[k]?=some o->X k->w'.heap[k]?=some o:=fun k o N V=>(I.block k (awU.1 N).1 (J k (awU.1 N).1 V)).trans N;refine⟨H _ _ h.box h.inX.1,H _ _ h.used h.inX.2.1,H _ _ h.data h.inX.2.2,h.inX,h.labs,⟨h.free.1.keep I fun g Z=>J g (h.free.1.lt g Z) (h.free.1.2 g Z),h.free.2⟩,h.dl,fun i v xs A V=>?_⟩;obtain⟨C,z⟩:=h.rows i v xs A V;exact⟨C.keep I fun g Z=>J g (C.lt g Z) (C.2 g Z),z⟩
theorem acG.wide (h:acG X lab B U D fv dv size fr us ds w)(Z:∀k,k<w.heap.size->X k->Y k):acG Y lab B U D fv dv size fr us ds w:=by
 refine⟨h.box,h.used,h.data,⟨Z _ (awU.1 h.box).1 h.inX.1,Z _ (awU.1 h.used).1 h.inX.2.1,Z _ (awU.1 h.data).1 h.inX.2.2⟩,h.labs,⟨h.free.1.wide Z,h.free.2⟩,h.dl,fun i v xs N V=>?_⟩;obtain⟨I,J⟩:=h.rows i v xs N V;exact⟨I.wide Z,J⟩
theorem acG.setU (h:acG X lab B U D fv dv size fr us ds w)(n:Nat)(b:Bool):acG X lab B U D fv dv size fr (us.set n b) ds (w.setCell ⟨U,n,none⟩ (.bool b))/\Chg X w (w.setCell ⟨U,n,none⟩ (.bool b)):=by
 obtain⟨y,V,z⟩:=h.labs;have Z:∀k,lab k≠2->(w.setCell ⟨U,n,none⟩ (.bool b)).heap[k]?=w.heap[k]?:=fun k Z=>axn w ⟨U,n,none⟩ _ k fun e=>Z (by rw [e];exact V);have J:Chg (fun k=>k=U) w (w.setCell ⟨U,n,none⟩ (.bool b)):=(Chg.refl _ w).set rfl;refine⟨⟨?_,?_,(Z D (by omega)).trans h.data,h.inX,h.labs,⟨h.free.1.keep J fun g N e=>?_,h.free.2⟩,by rw [axb];exact h.dl,fun i v xs C H=>?_⟩,(Chg.refl X w).set h.inX.2.1⟩
 · rw [axb];exact (Z B (by omega)).trans h.box
 · have:=aa4 (i:=n) h.used (.bool b);rw [ayD] at this;rw [axc];exact this
 · have:=h.free.2 g N;rw [e,V] at this;omega
 · obtain⟨A,I⟩:=h.rows i v xs C H;refine⟨A.keep J fun g N e=>?_,I⟩;have:=I g N;rw [e,V] at this;omega
theorem acG.setD (h:acG X lab B U D fv dv size fr us ds w)(n:Nat){v v':Value}{xs':List Int}{V:World}(hv:dv[n]?=some v)(hr:V.ownsRow 0 5 1 v' xs'.length (xs'.map (Value.int .u8)))(hg:Chg (fun k=>v.ownBlock=some k) w V)(C:∀g,v'.ownBlock=some g->v.ownBlock=some g∨w.heap.size<=g) :
  acG (fun k=>X k∨w.heap.size<=k) (fun k=>if w.heap.size<=k then 5+n else lab k) B U D fv (dv.set n v') size fr us (ds.set n xs') (V.setCell ⟨D,n,none⟩ v')/\Chg X w (V.setCell ⟨D,n,none⟩ v')/\V.frozen? ⟨D,n,none⟩=false/\(∃u,V.cell? ⟨D,n,none⟩=some u):=by
 obtain⟨l1,l2,l3⟩:=h.labs;have a8:n<dv.length:=(awR.1 hv).1;have z:n<ds.length:=by have:=h.dl;omega
 obtain⟨x0,a6⟩:∃x,ds[n]?=some x:=⟨ds[n],ay4 z⟩;obtain⟨r1,r2⟩:=h.rows n v x0 hv a6;have a2:=(awU.1 h.box).1;have j:=(awU.1 h.used).1;have a1:=(awU.1 h.data).1;have o:∀k,k<w.heap.size->lab k≠5+n->V.heap[k]?=w.heap[k]?:=fun k H hl=>hg.block k H fun e=>hl (r2 k e);have A:V.heap[D]?=some (.cells dv.toArray 32 (0,0)):=(o D a1 (by omega)).trans h.data;have H:∀k,k≠D->(V.setCell ⟨D,n,none⟩ v').heap[k]?=V.heap[k]?:=fun k H=>axn V ⟨D,n,none⟩ _ k H;have I:∀k,k<w.heap.size->lab k≠5+n->lab k≠3->(V.setCell ⟨D,n,none⟩ v').heap[k]?=w.heap[k]?:=fun k h1 h2 h3=>(H k fun e=>h3 (by rw [e];exact l3)).trans (o k h1 h2);have N:∀k,k<w.heap.size->(if w.heap.size<=k then 5+n else lab k)=lab k:=fun k H=>if_neg (by omega);have s:Chg (fun k=>lab k=5+n∨lab k=3) w (V.setCell ⟨D,n,none⟩ v'):=(hg.mono fun k _ e=>.inl (r2 k e)).set (.inr l3);refine⟨⟨(I B a2 (by omega) (by omega)).trans h.box,(I U j (by omega) (by omega)).trans h.used,?_,⟨.inl h.inX.1,.inl h.inX.2.1,.inl h.inX.2.2⟩,⟨by rw [N B a2];exact l1,by rw [N U j];exact l2,by rw [N D a1];exact l3⟩,⟨(h.free.1.keep s fun g Z e=>?_).wide fun k _ J=>.inl J,fun g Z=>?_⟩,by rw [axb,axb];exact h.dl,fun i u xs hu J=>?_⟩,?_,?_,?_⟩
 ·
  have:=aa4 (i:=n) A v'
  rwa [ayD] at this
 · have:=h.free.2 g Z;omega
 · rw [N g (h.free.1.lt g Z)];exact h.free.2 g Z
 ·
  by_cases y:i=n
  ·
   subst y;rw [ayE a8] at hu;rw [ayE z] at J
   cases awV hu
   cases awV J
   have a7:v'.ownBlock≠some D:=fun e=>by
    rcases C D e with e2 | e2
    · have:=r2 D e2;omega
    · omega
   refine⟨⟨aaX hr fun g Z=>H g fun e=>a7 (by rw [<-e];exact Z),fun g Z=>?_⟩,fun g Z=>?_⟩
   ·
    rcases C g Z with e | e
    · exact .inl (r1.2 g e)
    · exact .inr e
   ·
    rcases C g Z with e | e
    · rw [N g (r1.lt g e)];exact r2 g e
    · exact if_pos e
  ·
   rw [ayF (fun e=>y e.symm)] at hu J;obtain⟨g1,g2⟩:=h.rows i u xs hu J;refine⟨(g1.keep s fun g Z e=>?_).wide fun k _ J=>.inl J,fun g Z=>?_⟩
   · have:=g2 g Z;omega
   · rw [N g (g1.lt g Z)];exact g2 g Z
 · exact (hg.mono fun k _ e=>r1.2 k e).set h.inX.2.2
 · simp [World.frozen?,A]
 · exact⟨v,by simp [World.cell?,A];exact hv⟩
theorem acG.setF (h:acG X lab B U D fv dv size fr us ds w){fv':Value}{fr':List Int}{V:World}(hr:V.ownsRow 0 3 1 fv' fr'.length (fr'.map (Value.int .i64)))(j:Chg (fun k=>fv.ownBlock=some k) w V)(H:∀g,fv'.ownBlock=some g->fv.ownBlock=some g∨w.heap.size<=g) :
  acG (fun k=>X k∨w.heap.size<=k) (fun k=>if w.heap.size<=k then 4 else lab k) B U D fv' dv size fr' us ds (V.setCell ⟨B,0,none⟩ fv')/\Chg X w (V.setCell ⟨B,0,none⟩ fv')/\V.frozen? ⟨B,0,none⟩=false/\(∃u,V.cell? ⟨B,0,none⟩=some u):=by
 obtain⟨v,l2,l3⟩:=h.labs;have x:=(awU.1 h.box).1;have z:=(awU.1 h.used).1;have y:=(awU.1 h.data).1;have A:∀k,k<w.heap.size->lab k≠4->V.heap[k]?=w.heap[k]?:=fun k I hl=>j.block k I fun e=>hl (h.free.2 k e);have C:=(A B x (by omega)).trans h.box;have I:∀k,k≠B->(V.setCell ⟨B,0,none⟩ fv').heap[k]?=V.heap[k]?:=fun k I=>axn V ⟨B,0,none⟩ _ k I;have J:∀k,k<w.heap.size->lab k≠4->lab k≠1->(V.setCell ⟨B,0,none⟩ fv').heap[k]?=w.heap[k]?:=fun k h1 h2 h3=>(I k fun e=>h3 (by rw [e];exact v)).trans (A k h1 h2);have N:∀k,k<w.heap.size->(if w.heap.size<=k then 4 else lab k)=lab k:=fun k I=>if_neg (by omega);have a1:Chg (fun k=>lab k=4∨lab k=1) w (V.setCell ⟨B,0,none⟩ fv'):=(j.mono fun k _ e=>.inl (h.free.2 k e)).set (.inr v);have o:fv'.ownBlock≠some B:=fun e=>by
  rcases H B e with e2 | e2
  · have:=h.free.2 B e2;omega
  · omega
 refine⟨⟨aa4 (i:=0) C fv',(J U z (by omega) (by omega)).trans h.used,(J D y (by omega) (by omega)).trans h.data,⟨.inl h.inX.1,.inl h.inX.2.1,.inl h.inX.2.2⟩,⟨by rw [N B x];exact v,by rw [N U z];exact l2,by rw [N D y];exact l3⟩,⟨⟨aaX hr fun g Z=>I g fun e=>o (by rw [<-e];exact Z),fun g Z=>?_⟩,fun g Z=>?_⟩,h.dl,fun i u xs hu s=>?_⟩,?_,?_,?_⟩
 ·
  rcases H g Z with e | e
  · exact .inl (h.free.1.2 g e)
  · exact .inr e
 ·
  rcases H g Z with e | e
  · rw [N g (h.free.1.lt g e)];exact h.free.2 g e
  · exact if_pos e
 ·
  obtain⟨g1,g2⟩:=h.rows i u xs hu s;refine⟨(g1.keep a1 fun g Z e=>?_).wide fun k _ s=>.inl s,fun g Z=>?_⟩
  · have:=g2 g Z;omega
  · rw [N g (g1.lt g Z)];exact g2 g Z
 · exact (j.mono fun k _ e=>h.free.1.2 k e).set h.inX.1
 · simp [World.frozen?,C]
 · exact⟨fv,by simp [World.cell?,C]⟩
end
theorem aks:(ZP.info? 3).map (fun i=>(i.zero,i.size,i.bytes))=some (some (.int .i64 0),1,8):=by kernel_rfl
def ah0 (us:List Bool)(n:Int):Bool:=decide (0<=n)&&us.getD n.toNat false
theorem afe {X:Nat->Prop}{J:Nat->Nat}{B U D size:Nat}{C:Value}{A:List Value}{fr:List Int}{us:List Bool}{ds:List (List Int)}(n:Int)(w:World)(h:acG X J B U D C A size fr us ds w) :
  Calls ZP 233 #[.pointer (some ⟨B,0,none⟩),.int .i64 n] w fun e w'=>e=.returned (.bool (ah0 us n))/\Below w.heap.size w w':=by
 have c2:w.cell? ⟨B,2,none⟩=some (.slice (some ⟨U,0,none⟩) us.length us.length):=by simp [World.cell?,h.box]
 have j:=ax3 (fun q=>aa2 w q)
 by_cases h0:0<=n
 ·
  obtain⟨k,rfl⟩:=axr h0;have x:decide ((k:Int)>=0)=true:=by simp
  have V:decide ((0:Int)<=(k:Int))=true:=by simp
  by_cases Y:k<us.length
  ·
   have z:decide ((k:Int)<(us.length:Int))=true:=by simp;omega
   have I:decide (k<us.length)=true:=by simp;omega
   have N:us[k]?=some us[k]:=ay4 Y;obtain⟨y,H⟩:∃y,us[k]=y:=⟨_,rfl⟩;rw [H] at N;have v:w.cell? ⟨U,k,none⟩=some (.bool y):=by simp [World.cell?,h.used,N]
   have Z:ah0 us (k:Int)=y:=by unfold ah0;rw [axs,ay5,N];simp
   have o:(0:Int)<=(k:Int):=by omega
   have s:(k:Int)<(us.length:Int):=by omega
   rw [Z];clear h Z N H h0 Y;go_enter func233,ntmps233;go_wp2;go_ret;exact⟨rfl,axf _ _⟩
  ·
   have z:decide ((k:Int)<(us.length:Int))=false:=by simp;omega
   have I:decide (k<us.length)=false:=by simp;omega
   have Z:ah0 us (k:Int)=false:=by unfold ah0;rw [axs,ay5,az0 (by omega)];simp
   rw [Z];clear h Z h0 Y;go_enter func233,ntmps233;go_wp2;go_ret;exact⟨rfl,axf _ _⟩
 ·
  have x:decide (n>=0)=false:=by simp;omega
  have V:decide (0<=n)=false:=by simp;omega
  have Z:ah0 us n=false:=by unfold ah0;rw [V];rfl
  rw [Z];clear h Z h0;go_enter func233,ntmps233;go_wp2;go_ret;exact⟨rfl,axf _ _⟩
theorem auQ {w:World}{e:TypeId}{a:Option Addr}{n c:Nat}{xs:List Value}{x:Value}(h:w.ownsRow 0 e 1 (.slice a (n+1) c) (n+1) (xs++[x])):w.ownsRow 0 e 1 (.slice a n c) n xs/\∃g,a=some ⟨g,0,none⟩/\w.cell? ⟨g,n,none⟩=some x:=by
 have Y:xs.length=n:=by have:=h.1;simp at this;omega
 rcases h.2 with ⟨_,h0⟩ | ⟨g,cap,Z,X,h1,h2,h3,h4,h5,h6⟩
 · omega
 ·
  cases X
  refine⟨⟨by omega,.inr ⟨g,c,Z,rfl,h1,h2,by omega,h4,h5,?_⟩⟩,g,rfl,?_⟩
  · have:=congrArg (List.take (n*1)) h6;rw [List.take_take,Nat.min_eq_left (by omega),List.take_left' (by omega)] at this;exact this
  ·
   simp only [World.cell?,h2];have:Z[n]?=some x:=by
    have:=congrArg (fun l=>l[n]?) h6;rw [awS,if_pos (by omega),az9 (by omega),Y,ayh] at this
    simpa using this
   simpa using this
def awC (X:Nat->Prop)(Y:Nat->Nat)(B U D size:Nat)(V:List Value)(fr:List Int)(us:List Bool)(ds:List (List Int))(w:World)(e:Ending)(w':World):Prop:=
 e=.returned (.tuple #[.int .i64 (fr.getLast?.getD 0),.bool (!fr.isEmpty)])/\(∃fv' Z,acG (fun k=>X k∨w.heap.size<=k) Z B U D fv' V size fr.dropLast us ds w')/\Chg X w w'
theorem ap4 {X:Nat->Prop}{N:Nat->Nat}{B U D size:Nat}{j:Value}{v:List Value}{fr:List Int}{us:List Bool}{ds:List (List Int)}(w:World)(h:acG X N B U D j v size fr us ds w)(I:fr.length<=1000000) :
  Calls ZP 232 #[.pointer (some ⟨B,0,none⟩)] w (awC X N B U D size v fr us ds w):=by
 obtain⟨a,c,rfl,J,_⟩:=SlK.own h.free.1.1;have c0:w.cell? ⟨B,0,none⟩=some (.slice a fr.length c):=by simp [World.cell?,h.box]
 have HH:=ax3 h
 rcases List.eq_nil_or_concat fr with rfl | ⟨l,x,rfl⟩
 · clear h I;go_enter func232,ntmps232;go_wp2;go_ret2;exact⟨rfl,⟨_,N,HH.out.wide fun _ _ o=>.inl o⟩,Chg.refl _ _⟩
 ·
  have Z:=h.free.1.1;rw [List.concat_eq_append] at *;have Y:(l++[x]).length=l.length+1:=by simp
  rw [Y,ay7] at Z;rw [Y] at c0 I J;obtain⟨A,g,rfl,s⟩:=auQ Z;obtain⟨m,z⟩:∃m,l.length=m:=⟨_,rfl⟩;have e0:decide (((m+1:Nat):Int)=0)=false:=by simp;omega
  have e1:(((m+1:Nat):Int)==0)=false:=by simp;omega
  have e2:IntKind.i64.wrap (((m+1:Nat):Int)-1)=(m:Int):=by rw [ax2];omega
  obtain⟨C,H,q3,_⟩:=h.setF (fv':=.slice (some ⟨g,0,none⟩) l.length c) (fr':=l) (V:=w) A (Chg.refl _ _) (fun k e=>.inl e);rw [z] at C H c0 s J I;obtain⟨T,y⟩:∃T,m+1=T:=⟨_,rfl⟩;rw [y] at e0 e1 e2 c0 J I;have i0:(0:Int)<=(m:Int):=by omega
  have i1:(m:Int)<(T:Int):=by omega
  have i2:(m:Int)<=(c:Int):=by omega
  have i3:m<=c:=by omega
  have Q1:=ax3 C;have Q2:=ax3 H;clear h Z A C H z y Y;go_enter func232,ntmps232;go_wp2;go_ret2;refine⟨by simp,⟨_,_,by rw [azc];exact Q1.out⟩,Q2.out⟩
theorem agB {X:Nat->Prop}{s:Nat->Nat}{B U D size:Nat}{fv:Value}{dv:List Value}{fr:List Int}{us:List Bool}{ds:List (List Int)}(x:Int)(w:World)(h:acG X s B U D fv dv size fr us ds w)(hn:fr.length<=1000000) :
  Calls ZP 138 #[.pointer (some ⟨B,0,none⟩),.int .i64 x] w fun e w'=>(∃v,e=.returned v)/\(∃fv' Z,acG (fun k=>X k∨w.heap.size<=k) Z B U D fv' dv size (fr++[x]) us ds w')/\Chg X w w':=by
 obtain⟨i0,hi,a2,j,o⟩:=info_parts aks;obtain⟨a,c,rfl,a7,_⟩:=SlK.own h.free.1.1;have c0:w.cell? ⟨B,0,none⟩=some (.slice a fr.length c):=by simp [World.cell?,h.box]
 have C:=aa1 w (.cells #[.int .i64 x] 3);have N:=aag h.free.1.1 C;have I:SlK 1 (w.alloc (.cells #[.int .i64 x] 3)) (some ⟨w.heap.size,0,none⟩) 1 [.int .i64 x]:=by
  have hx:(w.alloc (.cells #[.int .i64 x] 3)).heap[w.heap.size]?=some (.cells #[.int .i64 x] 3 (0,0)):=axg _ _;refine⟨rfl,.inr ⟨_,0,rfl,by simp,fun i u hu=>?_⟩⟩;have e:(w.alloc (.cells #[.int .i64 x] 3)).cell? ⟨w.heap.size,0+i,none⟩=(#[Value.int .i64 x]:Array Value)[0+i]?:=by simp only [World.cell?,hx];simp
  rw [e,axz];show (List.toArray [Value.int .i64 x])[i]?=some u;rw [ax9];exact hu
 have HH:=ax3 h;have HF:Hid (∀Y J,J.ownsRow 0 3 1 Y (fr.length+1) (fr.map (Value.int .i64)++[.int .i64 x])->(w.alloc (.cells #[.int .i64 x] 3)).grownBy J (Value.slice a fr.length c).ownBlock->(Y.ownBlock=(Value.slice a fr.length c).ownBlock∨Y.ownBlock=some (w.alloc (.cells #[.int .i64 x] 3)).heap.size)->
   (∃Z,acG (fun k=>X k∨w.heap.size<=k) Z B U D Y dv size (fr++[x]) us ds (J.setCell ⟨B,0,none⟩ Y))/\Chg X w (J.setCell ⟨B,0,none⟩ Y)/\J.frozen? ⟨B,0,none⟩=false/\(∃u,J.cell? ⟨B,0,none⟩=some u)/\∃y c1,Y=.slice y (fr.length+1) c1):=fun Y J ho hg a8=>by
  obtain⟨q1,q2,q3,q4⟩:=h.setF (fv':=Y) (fr':=fr++[x]) (V:=J) (by rw [List.length_append,ay7];exact ho) ((Chg.of_same C).grown hg fun g e _=>e) (fun g e=>by
   rcases a8 with e2 | e2
   · rw [e2] at e;exact .inl e
   ·
    rw [e2] at e;have:(w.alloc (.cells #[.int .i64 x] 3)).heap.size=w.heap.size+1:=by simp
    have:=awV e
    right
    omega)
  obtain⟨y,c1,e,_,_⟩:=SlK.own ho;exact⟨⟨_,q1⟩,q2,q3,q4,y,c1,e⟩
 clear h a7 C;go_enter func138,ntmps138
 go_wp2_with (at_builtin;refine abb rfl _ _ 30 rfl 0 3 i0 (.int .i64 0) 1 8 underlying30 hi a2 j o rfl (by decide) _ fr.length (fr.map (Value.int .i64)) rfl N (some ⟨w.heap.size,0,none⟩) 1 1 [.int .i64 x] rfl I (by simp [Value.oneCell']) (by unfold maxLen;omega) (by omega) (axh _) ?_;intro Y J A z H;obtain⟨⟨Z,g1⟩,g2,g3,⟨u,g4⟩,y,c1,a6⟩:=HF.out Y J A z H;subst a6;have G1:=ax3 g1;have G2:=ax3 g2;clear A z H N I g1 g2)
 go_end0
 exact⟨⟨_,rfl⟩,⟨_,_,G1.out⟩,G2.out⟩
structure aeG where
 num:Nat
 start:Nat
 warm:Nat
 data:List Int
 buf:Nat
structure RdM where
 ph:Nat
 holds:Bool
 buf:Nat
 warm:Nat
 own:Nat
 ahead:Nat
 tail:List Int
 ended:Bool
structure WkM where
 ph:Nat
 blk:aeG
 node:Nat
 done:Nat
 hits:List aam
structure CfM where
 W:Nat
 K:Nat
 R:Nat
 Q:Nat
 O:Nat
 S:Nat
 F:Nat
 L:Nat
 scan:Nat->Nat->List Int->Nat->Nat->Nat×Nat×List aam×Bool
 br:Bool
 ans:List Bool
def CfM.wm (c:CfM):Nat:=c.L-1
structure PlM where
 rs:List (List Int)
 told:Nat
 off:Nat
 tk:List aam
 fr:List Nat
 us:List Bool
 ds:List (List Int)
 q:List aeG
 shut:Bool
 next:Nat
 rg:List (Option (List aam))
 out:List aam
 ended:Bool
 number:Nat
 read:Nat
 took:List aam
 cancelled:Bool
 rd:RdM
 wk:List WkM
 mph:Nat
 left:List aam
 eph:Nat
def awy:aeG:=⟨0,0,0,[],0⟩
def wk0 (ph:Nat):WkM:=⟨ph,awy,0,0,[]⟩
section
variable (c:CfM)(s:PlM)
def ajI (rs:List (List Int)):PlM:=
 ⟨rs,0,0,[],(List.range c.R).reverse,List.replicate c.R false,List.replicate c.R [],[],false,0,List.replicate c.R none,[],false,0,0,[],false,⟨1,false,0,0,0,0,[],false⟩,List.replicate c.W (wk0 1),1,[],1⟩
def abD (n:Nat):PlM:={ s with fr:=if ah0 s.us n then s.fr++[n] else s.fr,us:=if ah0 s.us n then s.us.set n false else s.us,ds:=if ah0 s.us n then s.ds.set n [] else s.ds }
def acl:Bool:=!s.q.isEmpty || s.shut
def ago:Bool:=(match s.rg with | some _ :: _=>true | _=>false) || (decide (s.rd.ph=5)&&decide (s.next=s.number))
def aex:Bool:=!s.out.isEmpty || s.ended
def abt:Bool:=if s.rd.ph=5 then false else if s.cancelled then true else if s.rd.ph=1 then al8 s.next c.R s.number else if s.rd.ph=3 then decide (s.q.length<c.Q) else true
def adh (i:Nat):Bool:=match s.wk[i]? with | none=>false | some w=>if w.ph=4 then false else if w.ph=1 then acl s else true
def adi:Bool:=if s.mph=3 then false else if s.cancelled then true else if s.mph=1 then ago s else decide (s.out.length<c.O)
def afI:Bool:=if s.eph=2 then false else aex s
def aaB (t:Nat):Bool:=if t=0 then abt c s else if t<=c.W then adh s (t-1) else if t=c.W+1 then adi c s else if t=c.W+2 then afI s else false
def takeR:PlM:=
 let n:=s.fr.getLast?.getD 0
 { s with fr:=s.fr.dropLast,us:=s.us.set n true,ds:=(s.ds.set n []).set n s.rd.tail,rd:={ s.rd with ph:=2,holds:=true,buf:=n,warm:=s.rd.tail.length,own:=0,ahead:=s.read } }
def backR:PlM:=let t:=abD s s.rd.buf;{ t with rd:={ t.rd with holds:=false } }
def readR:PlM:=
 let b:=abw ((c.K:Int)-s.rd.own) s.rs
 if s.rs.isEmpty then
  if 0<s.rd.own then { s with rd:={ s.rd with ended:=true,ph:=3 } }
  else let t:=backR s;{ t with rd:={ t.rd with ph:=4 } }
 else { s with
  rs:=afq ((c.K:Int)-s.rd.own) s.rs,told:=s.told+b.length,ds:=s.ds.set s.rd.buf (s.ds.getD s.rd.buf []++b),read:=s.read+b.length,
  rd:={ s.rd with own:=s.rd.own+b.length,tail:=(s.rd.tail++b).drop ((s.rd.tail++b).length-c.wm),ph:=if s.rd.own+b.length=c.K then 3 else s.rd.ph } }
def putR:PlM:=
 { s with q:=s.q++[⟨s.number,c.F+s.rd.ahead,s.rd.warm,s.ds.getD s.rd.buf [],s.rd.buf⟩],number:=s.number+1,rd:={ s.rd with holds:=false,ph:=if s.rd.ended then 4 else 1 } }
def shutR:PlM:={ s with shut:=true,rd:={ s.rd with ph:=5 } }
def stopR:PlM:=shutR (if s.rd.holds then backR s else s)
def stepR:PlM:=if s.cancelled then stopR s else if s.rd.ph=1 then takeR s else if s.rd.ph=2 then readR c s else if s.rd.ph=3 then putR c s else shutR s
def setW (i:Nat)(f:WkM->WkM):PlM:={ s with wk:=s.wk.modify i f }
def takeW (i:Nat):PlM:=match s.q with
 | []=>setW s i fun w=>{ w with ph:=4 }
 | b :: q=>{ setW s i (fun w=>{ w with ph:=2,blk:=b }) with q:=q }
def scanW (i:Nat):PlM:=setW s i fun w=>
 let r:=c.scan w.blk.start w.blk.warm w.blk.data w.node w.done
 { w with node:=r.1,done:=r.2.1,hits:=w.hits++r.2.2.1,ph:=if r.2.2.2 then 3 else w.ph }
def leaveW (i:Nat):PlM:=match s.wk[i]? with
 | none=>s
 | some w=>setW (abD s w.blk.buf) i fun _=>wk0 1
def putWM (i:Nat):PlM:=match s.wk[i]? with
 | none=>s
 | some w=>leaveW { s with rg:=s.rg.set (w.blk.num-s.next) (some w.hits) } i
def phW (i:Nat):Nat:=match s.wk[i]? with | none=>4 | some w=>w.ph
def stopW (i:Nat):PlM:=
 let t:=if phW s i=1 then takeW s i else s
 if phW t i=4 then t else leaveW t i
def stepW (i:Nat):PlM:=if s.cancelled then stopW s i else if phW s i=1 then takeW s i else if phW s i=2 then scanW c s i else putWM s i
def takeM:PlM:=match s.rg with
 | some h :: r=>if h.isEmpty then { s with rg:=r++[none],next:=s.next+1 } else { s with rg:=r++[none],next:=s.next+1,left:=h,mph:=2 }
 | _=>{ s with ended:=true,mph:=3 }
def flushM:PlM:=match s.left with
 | []=>s
 | h :: t=>{ s with out:=s.out++[h],left:=t,mph:=if t.isEmpty then 1 else s.mph }
def ahW:PlM:={ s with rg:=List.replicate s.rg.length none,left:=[],ended:=true,mph:=3 }
def stepMg:PlM:=if s.cancelled then ahW s else if s.mph=1 then takeM s else flushM s
def offerE:PlM:=match s.out with
 | []=>{ s with eph:=2 }
 | h :: t=>if ag9 c.ans s.off then { s with off:=s.off+1,tk:=s.tk++[h],out:=t,took:=s.took++[h] } else { s with off:=s.off+1 }
def aeW:PlM:=if s.out.isEmpty then { s with eph:=2 } else { s with out:=[] }
def stepE:PlM:=if s.cancelled then aeW s else offerE c s
def abi (t:Nat):PlM:=if t=0 then stepR c s else if t<=c.W then stepW c s (t-1) else if t=c.W+1 then stepMg s else stepE c s
def abB:List Nat:=(List.range (c.W+3)).filter (aaB c s)
def aeC (n:Int):Option Nat:=(abB c s)[ag7 n (abB c s).length]?
def act (n:Int):PlM:=match aeC c s n with | none=>s | some t=>abi c s t
def ac1:Bool:=decide (s.rd.ph=5)&&s.wk.all (fun w=>decide (w.ph=4))&&decide (s.mph=3)&&decide (s.eph=2)
def aaE:PlM:=if s.cancelled || ac1 s then s else { s with cancelled:=true }
end
def hW (x:WkM):List aeG:=if x.ph=2∨x.ph=3 then [x.blk] else []
def aoG (s:PlM):List aeG:=s.q++s.wk.flatMap hW
def rdB (r:RdM):List Nat:=if r.holds then [r.buf] else []
def acn (s:PlM):List Nat:=rdB s.rd++(aoG s).map aeG.buf
theorem atC {α:Type}{l:List α}{i:Nat}{x:α}(h:l[i]?=some x):l=l.take i++x :: l.drop (i+1):=by
 obtain⟨Z,e⟩:=awR.1 h;rw [<-e,List.getElem_cons_drop,axI]
theorem atN {α:Type}{l:List α}{i:Nat}{x:α}(h:l[i]?=some x)(f:α->α):l.modify i f=l.take i++f x :: l.drop (i+1):=by
 have U:=(awR.1 h).1
 apply ayX
 intro j;rw [aye]
 by_cases V:j<i
 ·
  have Z:¬i=j:=by omega
  rw [ax8 (by rw [ay6];omega),azd V]
  cases l[j]?<;>simp [Z]
 ·
  have Y:(l.take i).length=i:=by rw [ay6];omega
  rw [az9 (by omega),Y]
  by_cases X:j=i
  · subst X;rw [ayh,h];simp
  ·
   obtain⟨d,rfl⟩:∃d,j=i+1+d:=⟨j-(i+1),by omega⟩;have Z:¬i=i+1+d:=by omega
   rw [show i+1+d-i=d+1 by omega,axR,ayP]
   cases l[i+1+d]?<;>simp [Z]
theorem ald (n x:Nat):(List.range n).count x=if x<n then 1 else 0:=by
 induction n with
 | zero=>simp
 | succ n ih=>
  rw [ayt,ayu,ih,aze]
  by_cases h:n=x
  · subst h;simp
  ·
   have e:(n==x)=false:=by simp [h]
   rw [e]
   by_cases h2:x<n
   ·
    have h3:x<n+1:=by omega
    simp [h2,h3]
   ·
    have h3:¬x<n+1:=by omega
    simp [h2,h3]
structure ab5 (c:CfM)(s:PlM):Prop where
 perm:(s.fr++acn s).Perm (List.range c.R)
 ul:s.us.length=c.R
 dl:s.ds.length=c.R
 uf:∀x,x∈s.fr->s.us[x]?=some false
 ut:∀x,x∈acn s->s.us[x]?=some true
section
variable {c:CfM}{s t:PlM}
theorem ab5.cnt (h:ab5 c s)(x:Nat):s.fr.count x+(acn s).count x=if x<c.R then 1 else 0:=by
 have:=h.perm.count_eq x;rw [ayu] at this;rw [this,ald]
theorem ab5.same (h:ab5 c s)(X:t.fr=s.fr)(Z:t.us=s.us)(U:t.ds.length=s.ds.length)(N:∀x,(acn t).count x=(acn s).count x):ab5 c t:=by
 have Y:(acn t).Perm (acn s):=azf.2 N;refine⟨?_,by rw [Z];exact h.ul,by rw [U];exact h.dl,by rw [X,Z];exact h.uf,fun x V=>by rw [Z];exact h.ut x (Y.mem_iff.1 V)⟩;rw [X];exact (List.Perm.append_left _ Y).trans h.perm
theorem ab5.give (h:ab5 c s)(n:Nat)(B:n∈acn s)(I:t.fr=(abD s n).fr)(U:t.us=(abD s n).us)(A:t.ds.length=s.ds.length)(C:∀x,(acn t).count x+(if x=n then 1 else 0)=(acn s).count x):ab5 c t:=by
 have V:=h.ut n B;have Y:ah0 s.us (n:Int)=true:=by
  unfold ah0;rw [ay5,axs,V];simp
 have o:(abD s n).fr=s.fr++[n]:=by unfold abD;dsimp only;rw [if_pos Y]
 have v:(abD s n).us=s.us.set n false:=by unfold abD;dsimp only;rw [if_pos Y]
 rw [o] at I;rw [v] at U;have N:n<s.us.length:=(awR.1 V).1;have H:=h.cnt n;have D:=C n;rw [if_pos rfl] at D;refine⟨?_,by rw [U,axb];exact h.ul,by rw [A];exact h.dl,fun x Z=>?_,fun x Z=>?_⟩
 ·
  refine (azf.2 fun x=>?_).trans h.perm;rw [I,ayu,ayu,ayu,aze];have:=C x
  by_cases Z:x=n
  · subst Z;simp at this ⊢;omega
  · have:¬n=x:=fun e=>Z e.symm;simp [Z,this] at *;omega
 ·
  rw [U,ayH]
  by_cases X:n=x
  · rw [if_pos X,if_pos N]
  ·
   rw [if_neg X];rw [I] at Z
   rcases ayd.1 Z with h1 | h1
   · exact h.uf x h1
   · exact absurd (ayp.1 h1).symm X
 ·
  have z:=az4.2 Z;have y:=C x;have J:n≠x:=fun e=>by
   subst e
   split at H<;>omega
  rw [U,ayH,if_neg J];exact h.ut x (az4.1 (by omega))
theorem ab5.take (h:ab5 c s)(n:Nat)(A:s.fr.getLast?=some n)(C:t.fr=s.fr.dropLast)(N:t.us=s.us.set n true)(z:t.ds.length=s.ds.length)(B:∀x,(acn t).count x=(acn s).count x+(if x=n then 1 else 0)):ab5 c t:=by
 have X:s.fr=s.fr.dropLast++[n]:=by
  obtain⟨l,e⟩:=List.getLast?_eq_some_iff.1 A;rw [e,azc]
 have J:n∈s.fr:=by rw [X];simp
 have U:=h.uf n J;have I:n<s.us.length:=(awR.1 U).1;have D:=h.cnt n;have V:∀x,s.fr.count x=s.fr.dropLast.count x+(if x=n then 1 else 0):=fun x=>by
  have:s.fr.count x=(s.fr.dropLast++[n]).count x:=by rw [<-X]
  rw [this,ayu,aze]
  by_cases Z:x=n
  · subst Z;simp
  · have:¬n=x:=fun e=>Z e.symm;simp [Z,this]
 refine⟨?_,by rw [N,axb];exact h.ul,by rw [z];exact h.dl,fun x Z=>?_,fun x Z=>?_⟩
 · refine (azf.2 fun x=>?_).trans h.perm;rw [C,ayu,ayu,B x,V x];omega
 ·
  rw [C] at Z;have y:=az4.2 Z;have h2:=V n;rw [if_pos rfl] at h2;have H:n≠x:=fun e=>by subst e;split at D<;>omega
  rw [N,ayH,if_neg H];exact h.uf x (by rw [X];exact List.mem_append_left _ Z)
 ·
  rw [N,ayH]
  by_cases Y:n=x
  · rw [if_pos Y,if_pos I]
  · rw [if_neg Y];have:=B x;rw [if_neg (fun e=>Y e.symm)] at this;exact h.ut x (az4.1 (by have:=az4.2 Z;omega))
end
structure acA (s:PlM):Prop where
 ph:1<=s.rd.ph/\s.rd.ph<=5
 ho:s.rd.holds=true↔(s.rd.ph=2∨s.rd.ph=3)
 wp:∀(i:Nat) (x:WkM),s.wk[i]?=some x->1<=x.ph/\x.ph<=4
 mp:1<=s.mph/\s.mph<=3
 ep:1<=s.eph/\s.eph<=2
section
variable {c:CfM}{s t:PlM}{i:Nat}{x:WkM}
theorem ajU {α:Type} [DecidableEq α] (g:aeG->α){l:List WkM}(h:l[i]?=some x)(f:WkM->WkM)(y:α):(((l.modify i f).flatMap hW).map g).count y+((hW x).map g).count y=((l.flatMap hW).map g).count y+((hW (f x)).map g).count y:=by
 rw [atN h f];have e:=congrArg (fun l=>((List.flatMap hW l).map g).count y) (atC h)
 try dsimp only at e
 rw [e];simp only [List.flatMap_append,List.flatMap_cons,ay7,ayu];omega
theorem aaM (s:PlM)(y:Nat):(acn s).count y=(rdB s.rd).count y+((s.q.map aeG.buf).count y+((s.wk.flatMap hW).map aeG.buf).count y):=by
 unfold acn aoG;rw [ay7,ayu,ayu]
theorem afA (n y:Nat):([n]:List Nat).count y=if y=n then 1 else 0:=by
 rw [aze]
 by_cases h:y=n
 · subst h;simp
 · have:¬n=y:=fun e=>h e.symm;simp [h,this]
theorem ab5.takeW (h:ab5 c s)(Z:s.wk[i]?=some x)(X:x.ph=1):ab5 c (takeW s i):=by
 have h1:hW x=[]:=by unfold hW;rw [if_neg (by omega)]
 unfold Proofs.YtaamacoicojhnaaGreat.takeW
 cases Y:s.q with
 | nil=>
  refine h.same rfl rfl rfl fun y=>?_;rw [aaM,aaM];have:=ajU aeG.buf Z (fun w=>{ w with ph:=4 }) y;rw [h1] at this;have h2:hW { x with ph:=4 }=[]:=rfl;rw [h2] at this;simp only [setW]
  simpa using this
 | cons b q=>
  refine h.same rfl rfl rfl fun y=>?_;rw [aaM,aaM,Y];have:=ajU aeG.buf Z (fun w=>{ w with ph:=2,blk:=b }) y;rw [h1] at this;have h2:hW { x with ph:=2,blk:=b }=[b]:=rfl;rw [h2] at this;simp only [setW,ax0,ax1,az3,List.count_cons] at this ⊢;omega
theorem ab5.scanW (h:ab5 c s)(X:s.wk[i]?=some x)(Y:x.ph=2):ab5 c (scanW c s i):=by
 unfold Proofs.YtaamacoicojhnaaGreat.scanW;refine h.same rfl rfl rfl fun y=>?_;rw [aaM,aaM];have:=ajU aeG.buf X (fun w=>{ w with node:=(c.scan w.blk.start w.blk.warm w.blk.data w.node w.done).1,done:=(c.scan w.blk.start w.blk.warm w.blk.data w.node w.done).2.1,hits:=w.hits++(c.scan w.blk.start w.blk.warm w.blk.data w.node w.done).2.2.1,ph:=if (c.scan w.blk.start w.blk.warm w.blk.data w.node w.done).2.2.2 then 3 else w.ph }) y;have h1:hW x=[x.blk]:=by unfold hW;rw [if_pos (.inl Y)]
 have h2:∀(n d:Nat) (Z:List aam) (b:Bool),hW { x with node:=n,done:=d,hits:=Z,ph:=if b then 3 else x.ph }=[x.blk]:=fun n d Z b=>by unfold hW;rw [if_pos (by cases b<;>simp [Y])]
 rw [h1,h2] at this;simp only [setW];omega
theorem ab5.leaveW (h:ab5 c s)(Z:s.wk[i]?=some x)(Y:x.ph=2∨x.ph=3):ab5 c (leaveW s i):=by
 have h1:hW x=[x.blk]:=by unfold hW;rw [if_pos Y]
 have X:x.blk.buf∈acn s:=by
  unfold acn aoG;refine List.mem_append_right _ (axE.2 ⟨x.blk,List.mem_append_right _ (ayo.2 ⟨x,ay9 Z,by rw [h1];simp⟩),rfl⟩)
 unfold Proofs.YtaamacoicojhnaaGreat.leaveW;rw [Z];refine h.give x.blk.buf X rfl rfl ?_ fun y=>?_
 · simp only [setW,abD];split<;>simp
 · rw [aaM,aaM];have:=ajU aeG.buf Z (fun _=>wk0 1) y;have h2:hW (wk0 1)=[]:=rfl;rw [h1,h2,ax0,ax1,afA] at this;simp only [setW,abD,ax1,az3] at this ⊢;omega
theorem ab5.ring (h:ab5 c s)(rg:List (Option (List aam))):ab5 c { s with rg:=rg }:=h.same rfl rfl rfl fun _=>rfl
theorem ab5.putWM (h:ab5 c s)(Z:s.wk[i]?=some x)(Y:x.ph=2∨x.ph=3):ab5 c (putWM s i):=by
 unfold Proofs.YtaamacoicojhnaaGreat.putWM;rw [Z];exact (h.ring _).leaveW (s:={ s with rg:=s.rg.set (x.blk.num-s.next) (some x.hits) }) Z Y
theorem atD {l:List WkM}(h:l[i]?=some x)(f:WkM->WkM):(l.modify i f)[i]?=some (f x):=by
 rw [aye,h];simp
theorem ac9 (Z:s.wk[i]?=some x):phW s i=x.ph:=by unfold phW;rw [Z]
theorem ab5.stopW (h:ab5 c s)(Z:s.wk[i]?=some x)(V:1<=x.ph/\x.ph<=3):ab5 c (stopW s i):=by
 unfold Proofs.YtaamacoicojhnaaGreat.stopW;rw [ac9 Z]
 by_cases h1:x.ph=1
 ·
  dsimp only;rw [if_pos h1];have Y:=h.takeW Z h1
  cases X:s.q with
  | nil=>
   have e:(Proofs.YtaamacoicojhnaaGreat.takeW s i).wk[i]?=some { x with ph:=4 }:=by unfold Proofs.YtaamacoicojhnaaGreat.takeW;rw [X];exact atD Z _
   rw [ac9 e,if_pos rfl];exact Y
  | cons b q=>
   have e:(Proofs.YtaamacoicojhnaaGreat.takeW s i).wk[i]?=some { x with ph:=2,blk:=b }:=by unfold Proofs.YtaamacoicojhnaaGreat.takeW;rw [X];exact atD Z _
   rw [ac9 e,if_neg (show ¬(2=4) by decide)];exact Y.leaveW e (.inl rfl)
 · dsimp only;rw [if_neg h1,ac9 Z,if_neg (by omega)];exact h.leaveW Z (by omega)
theorem ab5.stepW (h:ab5 c s)(Z:s.wk[i]?=some x)(Y:1<=x.ph/\x.ph<=3):ab5 c (stepW c s i):=by
 unfold Proofs.YtaamacoicojhnaaGreat.stepW;rw [ac9 Z]
 split
 · exact h.stopW Z Y
 ·
  split
  · exact h.takeW Z (by assumption)
  ·
   split
   · exact h.scanW Z (by assumption)
   · exact h.putWM Z (by omega)
theorem anb {r:RdM}(h:r.holds=false):rdB r=[]:=by unfold rdB;rw [h];rfl
theorem afl {r:RdM}(h:r.holds=true):rdB r=[r.buf]:=by unfold rdB;rw [h];rfl
theorem ab5.takeR (h:ab5 c s)(Y:s.rd.holds=false)(X:s.fr≠[]):ab5 c (takeR s):=by
 obtain⟨n,Z⟩:∃n,s.fr.getLast?=some n:=⟨_,az7 X⟩;unfold Proofs.YtaamacoicojhnaaGreat.takeR;rw [Z];refine h.take n Z rfl rfl (by simp) fun y=>?_;rw [aaM,aaM,anb Y,afl (r:={ s.rd with ph:=2,holds:=true,buf:=(some n).getD 0,warm:=s.rd.tail.length,own:=0,ahead:=s.read }) rfl,afA];simp only [ayr,az3];omega
theorem ab5.backR (h:ab5 c s)(Z:s.rd.holds=true):ab5 c (backR s):=by
 have Y:s.rd.buf∈acn s:=by unfold acn;rw [afl Z];simp
 unfold Proofs.YtaamacoicojhnaaGreat.backR;refine h.give s.rd.buf Y rfl rfl ?_ fun y=>?_
 · simp only [abD];split<;>simp
 · rw [aaM,aaM,afl Z,anb (r:={ (abD s s.rd.buf).rd with holds:=false }) rfl,afA];simp only [abD,az3];omega
theorem ab5.rdO (h:ab5 c s){t:PlM}(h1:t.fr=s.fr)(h2:t.us=s.us)(h3:t.ds.length=s.ds.length)(h4:t.q=s.q)(h5:t.wk=s.wk)(h6:t.rd.holds=s.rd.holds)(h7:t.rd.buf=s.rd.buf):ab5 c t:=by
 refine h.same h1 h2 h3 fun y=>?_;rw [aaM,aaM,h4,h5];unfold rdB;rw [h6,h7]
theorem ab5.readR (h:ab5 c s)(Z:s.rd.holds=true):ab5 c (readR c s):=by
 unfold Proofs.YtaamacoicojhnaaGreat.readR;dsimp only
 split
 ·
  split
  · exact h.rdO rfl rfl rfl rfl rfl rfl rfl
  · exact (h.backR Z).rdO rfl rfl rfl rfl rfl rfl rfl
 · exact h.rdO rfl rfl (by simp) rfl rfl rfl rfl
theorem ab5.putR (h:ab5 c s)(Z:s.rd.holds=true):ab5 c (putR c s):=by
 unfold Proofs.YtaamacoicojhnaaGreat.putR;refine h.same rfl rfl rfl fun y=>?_;rw [aaM,aaM,afl Z,anb (r:={ s.rd with holds:=false,ph:=if s.rd.ended then 4 else 1 }) rfl];simp only [ay7,ax0,ax1,ayu,az3];omega
theorem ab5.shutR (h:ab5 c s):ab5 c (shutR s):=h.rdO rfl rfl rfl rfl rfl rfl rfl
theorem ab5.stopR (h:ab5 c s):ab5 c (stopR s):=by
 unfold Proofs.YtaamacoicojhnaaGreat.stopR
 by_cases Z:s.rd.holds=true
 · rw [if_pos Z];exact (h.backR Z).shutR
 · rw [if_neg Z];exact h.shutR
theorem ab5.stepR (h:ab5 c s)(X:acA s)(h5:s.rd.ph≠5)(V:s.cancelled=false->s.rd.ph=1->s.fr≠[]):ab5 c (stepR c s):=by
 unfold Proofs.YtaamacoicojhnaaGreat.stepR;have Y:=X.ho
 cases U:s.cancelled with
 | true=>exact h.stopR
 | false=>
  have Z:¬(false=true):=by decide
  rw [if_neg Z]
  split
  · exact h.takeR (by cases N:s.rd.holds with | false=>rfl | true=>have:=Y.1 N;omega) (V U (by assumption))
  ·
   split
   · exact h.readR (Y.2 (.inl (by assumption)))
   ·
    split
    · exact h.putR (Y.2 (.inr (by assumption)))
    · exact h.shutR
theorem ab5.stepMg (h:ab5 c s):ab5 c (stepMg s):=by
 unfold Proofs.YtaamacoicojhnaaGreat.stepMg takeM flushM ahW
 repeat' split
 all_goals exact h.rdO rfl rfl rfl rfl rfl rfl rfl
theorem ab5.stepE (h:ab5 c s):ab5 c (stepE c s):=by
 unfold Proofs.YtaamacoicojhnaaGreat.stepE offerE aeW
 repeat' split
 all_goals exact h.rdO rfl rfl rfl rfl rfl rfl rfl
end
structure ae9 (c:CfM)(s:PlM):Prop where
 shu:s.shut=decide (s.rd.ph=5)
 en:s.ended=decide (s.mph=3)
 ml:s.mph=2->s.left≠[]
 wl:s.wk.length=c.W
 gl:s.rg.length=c.R
 ql:s.q.length<=c.Q
 ol:s.out.length<=c.O
section
variable {c:CfM}{s t:PlM}{i:Nat}{x:WkM}
theorem adU {p:WkM->Prop}{l:List WkM}{f:WkM->WkM}(h:∀(j:Nat) (y:WkM),l[j]?=some y->p y)(V:l[i]?=some x)(U:p (f x)):∀(j:Nat) (y:WkM),(l.modify i f)[j]?=some y->p y:=fun j y Z=>by
 rw [aye] at Z
 by_cases Y:i=j
 · subst Y;rw [V] at Z;simp at Z;rw [<-Z];exact U
 ·
  cases X:l[j]? with
  | none=>rw [X] at Z;simp at Z
  | some z=>
   rw [X] at Z;simp [Y] at Z;rw [<-Z];exact h j z X
theorem acA.wk (h:acA s){t:PlM}{f:WkM->WkM}(Z:t.rd=s.rd)(V:t.mph=s.mph)(N:t.eph=s.eph)(X:t.wk=s.wk.modify i f)(Y:s.wk[i]?=some x)(U:1<=(f x).ph/\(f x).ph<=4):acA t:=
 ⟨by rw [Z];exact h.ph,by rw [Z];exact h.ho,by rw [X];exact adU (p:=fun y=>1<=y.ph/\y.ph<=4) h.wp Y U,by rw [V];exact h.mp,by rw [N];exact h.ep⟩
theorem acA.rd (h:acA s){t:PlM}(X:t.mph=s.mph)(V:t.eph=s.eph)(Z:t.wk=s.wk)(Y:1<=t.rd.ph/\t.rd.ph<=5)(ho:t.rd.holds=true↔(t.rd.ph=2∨t.rd.ph=3)):acA t:=
 ⟨Y,ho,by rw [Z];exact h.wp,by rw [X];exact h.mp,by rw [V];exact h.ep⟩
theorem acA.takeW (h:acA s)(Z:s.wk[i]?=some x):acA (takeW s i):=by
 unfold Proofs.YtaamacoicojhnaaGreat.takeW
 split
 · exact h.wk (f:=fun w=>{ w with ph:=4 }) rfl rfl rfl rfl Z ⟨by show 1<=4;decide,axe _⟩
 · exact h.wk (f:=fun w=>{ w with ph:=2,blk:=_ }) rfl rfl rfl rfl Z ⟨by show 1<=2;decide,by show 2<=4;decide⟩
theorem acA.leaveW (h:acA s)(Z:s.wk[i]?=some x):acA (leaveW s i):=by
 unfold Proofs.YtaamacoicojhnaaGreat.leaveW;rw [Z];exact h.wk (f:=fun _=>wk0 1) rfl rfl rfl rfl Z ⟨axe _,by show 1<=4;decide⟩
theorem acA.putWM (h:acA s)(Z:s.wk[i]?=some x):acA (putWM s i):=by
 unfold Proofs.YtaamacoicojhnaaGreat.putWM;rw [Z];exact acA.leaveW (s:={ s with rg:=s.rg.set (x.blk.num-s.next) (some x.hits) }) ⟨h.ph,h.ho,h.wp,h.mp,h.ep⟩ Z
theorem acA.scanW (h:acA s)(Z:s.wk[i]?=some x):acA (scanW c s i):=by
 have Y:=h.wp i x Z;unfold Proofs.YtaamacoicojhnaaGreat.scanW;refine h.wk (f:=fun w=>{ w with node:=(c.scan w.blk.start w.blk.warm w.blk.data w.node w.done).1,done:=(c.scan w.blk.start w.blk.warm w.blk.data w.node w.done).2.1,hits:=w.hits++(c.scan w.blk.start w.blk.warm w.blk.data w.node w.done).2.2.1,ph:=if (c.scan w.blk.start w.blk.warm w.blk.data w.node w.done).2.2.2 then 3 else w.ph }) rfl rfl rfl rfl Z ?_;dsimp only
 split
 · omega
 · exact Y
theorem amI (Z:s.wk[i]?=some x):∃y,(takeW s i).wk[i]?=some y:=by
 unfold takeW
 split
 · exact⟨_,atD Z _⟩
 · exact⟨_,atD Z _⟩
theorem acA.stepW (h:acA s)(Z:s.wk[i]?=some x):acA (stepW c s i):=by
 unfold Proofs.YtaamacoicojhnaaGreat.stepW
 split
 ·
  unfold stopW;dsimp only
  by_cases h1:phW s i=1
  ·
   rw [if_pos h1];have Y:=h.takeW Z;obtain⟨y,X⟩:=amI Z
   split
   · exact Y
   · exact Y.leaveW X
  ·
   rw [if_neg h1]
   split
   · exact h
   · exact h.leaveW Z
 ·
  split
  · exact h.takeW Z
  ·
   split
   · exact h.scanW Z
   · exact h.putWM Z
theorem acA.stepR (h:acA s):acA (stepR c s):=by
 have Z:=h.ho;have X:=h.ph;unfold Proofs.YtaamacoicojhnaaGreat.stepR
 split
 ·
  unfold stopR shutR backR
  by_cases Y:s.rd.holds=true
  · rw [if_pos Y];exact h.rd rfl rfl rfl ⟨by show 1<=5;decide,axe _⟩ (by simp [abD])
  ·
   rw [if_neg Y];refine h.rd rfl rfl rfl ⟨by show 1<=5;decide,axe _⟩ ?_;show s.rd.holds=true↔(5=2∨5=3)
   constructor
   · intro e;exact absurd e Y
   · intro e;omega
 ·
  split
  · exact h.rd rfl rfl rfl ⟨by show 1<=2;decide,by show 2<=5;decide⟩ (by simp [takeR])
  ·
   split
   ·
    have h2:s.rd.holds=true:=Z.2 (.inl (by assumption));unfold readR;dsimp only
    split
    ·
     split
     · exact h.rd rfl rfl rfl ⟨by show 1<=3;decide,by show 3<=5;decide⟩ (by simp [h2])
     · exact h.rd rfl rfl rfl ⟨by show 1<=4;decide,by show 4<=5;decide⟩ (by simp [backR,abD])
    ·
     refine h.rd rfl rfl rfl ?_ ?_
     · dsimp only;split<;>omega
     ·
      dsimp only;rw [h2]
      constructor
      ·
       intro _;split
       · exact .inr rfl
       · exact .inl (by assumption)
      · intro _;rfl
   ·
    split
    ·
     unfold putR;refine h.rd rfl rfl rfl ?_ ?_
     · dsimp only;split<;>omega
     · dsimp only;split<;>simp
    ·
     unfold shutR;refine h.rd rfl rfl rfl ⟨by show 1<=5;decide,axe _⟩ ?_;show s.rd.holds=true↔(5=2∨5=3)
     constructor
     · intro e;have:=Z.1 e;omega
     · intro e;omega
theorem acA.stepMg (h:acA s):acA (stepMg s):=by
 have Z:=h.mp;unfold Proofs.YtaamacoicojhnaaGreat.stepMg takeM flushM ahW
 repeat' split
 all_goals refine⟨h.ph,h.ho,h.wp,?_,h.ep⟩
 all_goals (try dsimp only)
 all_goals (try split)
 all_goals first | omega | exact Z
theorem acA.stepE (h:acA s):acA (stepE c s):=by
 have Z:=h.ep;unfold Proofs.YtaamacoicojhnaaGreat.stepE offerE aeW
 repeat' split
 all_goals refine⟨h.ph,h.ho,h.wp,h.mp,?_⟩
 all_goals (try dsimp only)
 all_goals first | omega | exact Z
end
section
variable {c:CfM}{s t:PlM}{i:Nat}{x:WkM}
theorem ae9.wk (h:ae9 c s)(h1:t.shut=s.shut)(h2:t.rd=s.rd)(h3:t.ended=s.ended)(h4:t.mph=s.mph)(h5:t.left=s.left)(h6:t.wk.length=s.wk.length)(h7:t.rg.length=s.rg.length)(h8:t.q.length<=s.q.length)(h9:t.out=s.out):ae9 c t:=
 ⟨by rw [h1,h2];exact h.shu,by rw [h3,h4];exact h.en,by rw [h4,h5];exact h.ml,by rw [h6];exact h.wl,by rw [h7];exact h.gl,awT h8 h.ql,by rw [h9];exact h.ol⟩
theorem ae9.takeW (h:ae9 c s):ae9 c (takeW s i):=by
 unfold Proofs.YtaamacoicojhnaaGreat.takeW
 split
 · exact h.wk rfl rfl rfl rfl rfl (by simp [setW]) rfl (axe _) rfl
 ·
  rename_i b q Z
  exact h.wk rfl rfl rfl rfl rfl (by simp [setW]) rfl (by rw [Z];simp) rfl
theorem ae9.leaveW (h:ae9 c s):ae9 c (leaveW s i):=by
 unfold Proofs.YtaamacoicojhnaaGreat.leaveW
 split
 · exact h
 · exact h.wk rfl rfl rfl rfl rfl (by simp [setW,abD]) rfl (axe _) rfl
theorem ae9.stepW (h:ae9 c s):ae9 c (stepW c s i):=by
 unfold Proofs.YtaamacoicojhnaaGreat.stepW
 split
 ·
  unfold stopW;dsimp only
  repeat' split
  all_goals first | exact h.takeW | exact h | exact h.takeW.leaveW | exact h.leaveW
 ·
  split
  · exact h.takeW
  ·
   split
   · exact h.wk rfl rfl rfl rfl rfl (by simp [scanW,setW]) rfl (axe _) rfl
   ·
    unfold putWM
    split
    · exact h
    · exact ae9.leaveW (h.wk (t:={ s with rg:=s.rg.set _ _ }) rfl rfl rfl rfl rfl rfl (by simp) (axe _) rfl)
theorem ae9.rdN (h:ae9 c s)(h0:s.rd.ph≠5)(h2:t.rd.ph≠5)(h1:t.shut=s.shut)(h3:t.ended=s.ended)(h4:t.mph=s.mph)(h5:t.left=s.left)(h6:t.wk=s.wk)(h7:t.rg=s.rg)(h8:t.q.length<=c.Q)(h9:t.out=s.out):ae9 c t:=
 ⟨by rw [h1,h.shu,decide_eq_false h0,decide_eq_false h2],by rw [h3,h4];exact h.en,by rw [h4,h5];exact h.ml,by rw [h6];exact h.wl,by rw [h7];exact h.gl,h8,by rw [h9];exact h.ol⟩
theorem ae9.rd5 (h:ae9 c s)(h2:t.rd.ph=5)(h1:t.shut=true)(h3:t.ended=s.ended)(h4:t.mph=s.mph)(h5:t.left=s.left)(h6:t.wk=s.wk)(h7:t.rg=s.rg)(h8:t.q=s.q)(h9:t.out=s.out):ae9 c t:=
 ⟨by rw [h1,decide_eq_true h2],by rw [h3,h4];exact h.en,by rw [h4,h5];exact h.ml,by rw [h6];exact h.wl,by rw [h7];exact h.gl,by rw [h8];exact h.ql,by rw [h9];exact h.ol⟩
theorem ae9.stepR (h:ae9 c s)(Z:abt c s=true):ae9 c (stepR c s):=by
 have h5:s.rd.ph≠5:=fun e=>by unfold abt at Z;rw [if_pos e] at Z;cases Z
 unfold Proofs.YtaamacoicojhnaaGreat.stepR
 split
 ·
  unfold stopR shutR backR
  split
  · exact h.rd5 rfl rfl rfl rfl rfl rfl rfl rfl rfl
  · exact h.rd5 rfl rfl rfl rfl rfl rfl rfl rfl rfl
 ·
  rename_i X
  split
  · exact h.rdN h5 (by show 2≠5;decide) rfl rfl rfl rfl rfl rfl h.ql rfl
  ·
   split
   ·
    unfold readR;dsimp only
    split
    ·
     split
     · exact h.rdN h5 (by show 3≠5;decide) rfl rfl rfl rfl rfl rfl h.ql rfl
     · exact h.rdN h5 (by show 4≠5;decide) rfl rfl rfl rfl rfl rfl h.ql rfl
    ·
     refine h.rdN h5 ?_ rfl rfl rfl rfl rfl rfl h.ql rfl;dsimp only;split
     · decide
     · exact h5
   ·
    split
    ·
     rename_i U N V
     have Y:s.q.length<c.Q:=by
      unfold abt at Z;rw [if_neg h5,if_neg X,if_neg U,if_pos V] at Z;exact of_decide_eq_true Z
     refine h.rdN h5 ?_ rfl rfl rfl rfl rfl rfl (by show (s.q++[_]).length<=c.Q;rw [List.length_append];exact Y) rfl;unfold putR;dsimp only;split<;>decide
    · exact h.rd5 rfl rfl rfl rfl rfl rfl rfl rfl rfl
theorem ae9.stepMg (h:ae9 c s)(J:acA s)(Y:adi c s=true):ae9 c (stepMg s):=by
 have h3:s.mph≠3:=fun e=>by unfold adi at Y;rw [if_pos e] at Y;cases Y
 have V:s.ended=false:=by rw [h.en,decide_eq_false h3]
 have I:=J.mp;unfold Proofs.YtaamacoicojhnaaGreat.stepMg
 split
 · exact⟨h.shu,rfl,fun e=>by have e:(3:Nat)=2:=e;omega,h.wl,by simp [ahW];exact h.gl,h.ql,h.ol⟩
 ·
  rename_i N
  split
  ·
   rename_i h1
   unfold takeM
   split
   ·
    rename_i H r D
    have X:(r++[(none:Option (List aam))]).length=c.R:=by have:=h.gl;rw [D] at this;simp at this ⊢;exact this
    split
    · exact⟨h.shu,h.en,h.ml,h.wl,X,h.ql,h.ol⟩
    ·
     rename_i Z
     exact⟨h.shu,by show s.ended=decide ((2:Nat)=3);rw [V];rfl,fun _ e=>Z (by have e:H=[]:=e;rw [e];rfl),h.wl,X,h.ql,h.ol⟩
   · exact⟨h.shu,rfl,fun e=>by have e:(3:Nat)=2:=e;omega,h.wl,h.gl,h.ql,h.ol⟩
  ·
   rename_i h1
   have U:s.out.length<c.O:=by
    unfold adi at Y;rw [if_neg h3,if_neg N,if_neg h1] at Y;exact of_decide_eq_true Y
   unfold flushM
   split
   · exact h
   ·
    rename_i q l C
    refine⟨h.shu,?_,?_,h.wl,h.gl,h.ql,by show (s.out++[q]).length<=c.O;rw [List.length_append];exact U⟩
    ·
     show s.ended=decide ((if l.isEmpty then 1 else s.mph)=3);rw [V]
     split
     · rfl
     · rw [decide_eq_false h3]
    ·
     show (if l.isEmpty then 1 else s.mph)=2->l≠[]
     split
     · intro e;omega
     ·
      rename_i Z
      intro _ e;exact Z (by rw [e];rfl)
theorem ae9.stepE (h:ae9 c s):ae9 c (stepE c s):=by
 have Z:=h.ol;unfold Proofs.YtaamacoicojhnaaGreat.stepE offerE aeW
 split
 ·
  split
  · exact⟨h.shu,h.en,h.ml,h.wl,h.gl,h.ql,h.ol⟩
  · exact⟨h.shu,h.en,h.ml,h.wl,h.gl,h.ql,axh _⟩
 ·
  split
  · exact⟨h.shu,h.en,h.ml,h.wl,h.gl,h.ql,h.ol⟩
  ·
   rename_i q l Y
   rw [Y] at Z
   split
   · exact⟨h.shu,h.en,h.ml,h.wl,h.gl,h.ql,by show l.length<=c.O;simp at Z;omega⟩
   · exact⟨h.shu,h.en,h.ml,h.wl,h.gl,h.ql,h.ol⟩
end
def ack (X:Nat->Prop)(w:World)(v:Value)(xs:List Int):Prop:=
 ((v=.slice none 0 0/\xs=[])∨∃g off c Z,v=.slice (some ⟨g,off,none⟩) xs.length c/\X g/\w.heap[g]?=some (.cells Z 5 (0,0))/\xs.length<=c/\c<=maxLen/\off+c<=Z.size/\(Z.toList.drop off).take xs.length=xs.map (Value.int .u8))/\∀x∈xs,0<=x/\x<=255
section
variable {X Y:Nat->Prop}{w w':World}{v:Value}{xs:List Int}
theorem ack.nil (X:Nat->Prop)(w:World):ack X w (.slice none 0 0) []:=⟨.inl ⟨rfl,rfl⟩,fun x Z=>by cases Z⟩
theorem ack.lt (h:ack X w v xs):∀g,v.ownBlock=some g->g<w.heap.size/\X g:=fun g Z=>by
 rcases h.1 with ⟨rfl,_⟩ | ⟨g',off,c,N,rfl,V,U,_⟩
 · cases Z
 ·
  cases Z
  exact⟨(awU.1 U).1,V⟩
theorem ack.keep (h:ack X w v xs)(J:Chg Y w w')(N:∀g,v.ownBlock=some g->¬Y g):ack X w' v xs:=by
 refine⟨h.1.imp id ?_,h.2⟩;rintro ⟨g,off,c,Z,rfl,U,V,r⟩;exact⟨g,off,c,Z,rfl,U,(J.block g (awU.1 V).1 (N g rfl)).trans V,r⟩
theorem ack.wide (h:ack X w v xs)(N:∀k,k<w.heap.size->X k->Y k):ack Y w v xs:=by
 refine⟨h.1.imp id ?_,h.2⟩;rintro ⟨g,off,c,Z,rfl,U,V,r⟩;exact⟨g,off,c,Z,rfl,N g (awU.1 V).1 U,V,r⟩
theorem ack.shape (h:ack X w v xs):∃a c,v=.slice a xs.length c/\xs.length<=c/\Bys w a xs.length xs:=by
 rcases h.1 with ⟨rfl,rfl⟩ | ⟨g,off,c,D,rfl,C,N,I,_,H,Z⟩
 · exact⟨none,0,rfl,axe _,⟨rfl,.inl rfl⟩,h.2⟩
 ·
  refine⟨_,c,rfl,I,⟨rfl,.inr ⟨g,off,rfl,(awU.1 N).1,fun i x U=>?_⟩⟩,h.2⟩;have J:(xs.map (Value.int .u8))[i]?=some (Value.int .u8 x):=by rw [axa,U];rfl
  have V:i<xs.length:=(awR.1 U).1;rw [<-Z,awS,if_pos V,ayP,Array.getElem?_toList] at J;simp only [World.cell?,N];exact J
theorem ack.cut {a:Option Addr}{n c:Nat}(h:ack X w (.slice a n c) xs)(k:Nat)(A:k<=n):ack X w (.slice (if c=k then a else a.map (·.add k)) (n-k) (c-k)) (xs.drop k):=by
 refine⟨?_,fun x J=>h.2 x (ayQ J)⟩
 rcases h.1 with ⟨h1,rfl⟩ | ⟨g,off,z,N,h1,J,H,D,B,C,Z⟩
 ·
  simp only [ayL] at h1;obtain⟨rfl,rfl,rfl⟩:=h1;obtain rfl:k=0:=by omega
  exact .inl ⟨by simp,rfl⟩
 ·
  simp only [ayL] at h1;obtain⟨rfl,rfl,rfl⟩:=h1;have V:(xs.drop k).length=xs.length-k:=List.length_drop
  by_cases U:c=k
  ·
   subst U;rw [if_pos rfl];have I:xs.drop c=[]:=List.drop_eq_nil_of_le D;refine .inr ⟨g,off,0,N,?_,J,H,?_,axh _,by omega,?_⟩
   · rw [I,show xs.length-c=0 by omega,ayh];rfl
   · rw [I];exact axe _
   · rw [I];rfl
  · rw [if_neg U];refine .inr ⟨g,off+k,c-k,N,by rw [V,awW,aah],J,H,by omega,by omega,by omega,?_⟩;rw [V,List.map_drop,<-Z,List.drop_take,List.drop_drop]
theorem aeA {P:Program}(w:World)(t C e:TypeId)(i:TypeInfo)(B:P.underlying t=some (.slice e))(z:P.info? e=some i)
  (g off V U:Nat) (N:Array Value) (y:w.heap[g]?=some (.cells N e (0,0)))
  (a:Addr) (m c:Nat) (Z:List Value) (A:Z.length=m*i.size) (I:∀j u,Z[j]?=some u->w.cell? (a.add j)=some u) (h1:∀u∈Z,u.oneCell'=true)
  (J:V+m<=U) (D:off+V*i.size+Z.length<=N.size) :
  (Builtin.append_ #[t,t] C #[.slice (some ⟨g,off,none⟩) V U,.slice (some a) m c]).run P w =
   .ok (.slice (some ⟨g,off,none⟩) (V+m) U) (w.setRow g (N.toList.take (off+V*i.size)++Z++N.toList.drop (off+V*i.size+Z.length)).toArray):=by
 have x:=run_firstCells_some (P:=P) w i.size m a m c Z A I;have H:=run_storeCells_at P g (off+V*i.size) e Z 0 N w y (by simpa using D) h1;simp only [ayc] at H;simp [Builtin.append_,run_underlying B,sizeOf,typeInfo,z,Builtin.lenOf,J,x,Addr.add_lit,H]
theorem ahf (w:World)(h:ack X w v xs)(A:Option Addr)(m c:Nat)(C:List Int)(hB:Bys w A m C)(hb:xs.length+m<=1000000) :
  ∃a' c' w',(Builtin.append_ #[32,32] 32 #[v,.slice A m c]).run ZP w=.ok (.slice a' (xs.length+m) c') w'/\ack (fun k=>X k∨w.heap.size<=k) w' (.slice a' (xs.length+m) c') (xs++C)/\w.grownBy w' v.ownBlock/\
   ((Value.slice a' (xs.length+m) c').ownBlock=v.ownBlock∨(Value.slice a' (xs.length+m) c').ownBlock=some w.heap.size):=by
 obtain⟨i,hi,s,J,y⟩:=info_parts acy;have I:C.length=m:=hB.1.1;have N:∀x∈xs++C,0<=x/\x<=255:=fun x hx=>(ayd.1 hx).elim (h.2 x) (hB.2 x);have V:(xs++C).length=xs.length+m:=by rw [List.length_append,I]
 rcases h.1 with ⟨rfl,rfl⟩ | ⟨g,off,B,Z,rfl,hx,z,hl,a1,aa,U⟩
 ·
  obtain⟨v1,W1,hr,ho,hg,a7⟩:=aaq (P:=ZP) w 0 32 32 5 i (.int .u8 0) 1 1 underlying32 hi s J y rfl (by decide) (.slice none 0 0) 0 [] (ayy _ _ _ _) A m c (C.map (Value.int .u8)) (anH hB.1) (fun u H=>by obtain⟨x,_,rfl⟩:=axE.1 H;rfl) (by unfold maxLen;simp at hb;omega) (by simp at hb;omega) (axh _);obtain⟨a2,c2,rfl,ae,_⟩:=SlK.own ho;refine⟨a2,c2,W1,by simpa using hr,⟨?_,N⟩,hg,by simpa using a7⟩
  rcases ho.2 with ⟨e,h0⟩ | ⟨g,cap,Z,e,_,z,h1,h2,h3,h4⟩
  ·
   simp only [ayL] at e;obtain⟨rfl,e2,rfl⟩:=e
   left
   have:C=[]:=ayk (by omega);subst this;refine⟨?_,rfl⟩;simp at I;simp [<-I]
  ·
   simp only [ayL] at e;obtain⟨rfl,e2,rfl⟩:=e
   right
   refine⟨g,0,c2,Z,by simp [I],?_,z,by simpa [I] using h1,h2,by omega,?_⟩
   ·
    rcases a7 with e | e
    · cases e
    ·
     right
     exact axL (awV e).symm
   · simp [I] at h4 ⊢;exact h4
 ·
  cases A with
  | none=>
   have h0:m=0:=hB.1.2.elim id fun ⟨b,o,e,_⟩=>by cases e
   subst h0;have ac:C=[]:=ayk I;subst ac;refine⟨_,B,w,?_,⟨.inr ⟨g,off,B,Z,by simp,.inl hx,z,by simpa using hl,a1,aa,by simpa using U⟩,N⟩,World.grownBy.refl w _,.inl rfl⟩;simp [Builtin.append_,run_underlying underlying32,sizeOf,typeInfo,hi,Builtin.lenOf,Builtin.firstCells,hl,storeCells]
  | some ad=>
   have hs:=anH hB.1
   by_cases D:xs.length+m<=B
   ·
    have a6:off+xs.length*i.size+(C.map (Value.int .u8)).length<=Z.size:=by rw [J,ayq,I];omega
    have hr:=aeA (P:=ZP) w 32 32 5 i underlying32 hi g off xs.length B Z z ad m c (C.map (Value.int .u8)) (by rw [J,ayq,I,aya]) (fun j u H=>hs.news j u H) (fun u H=>by obtain⟨x,_,rfl⟩:=axE.1 H;rfl) D a6;refine⟨_,B,_,hr,⟨.inr ⟨g,off,B,_,by rw [V],.inl hx,setRow_heap w g Z _ _ _ z,by rw [V];exact D,a1,?_,?_⟩,N⟩,⟨rfl,rfl,rfl,by simp,fun k _ hk=>setRow_other w g k _ (fun e=>hk (by simp [Value.ownBlock,e]))⟩,.inl rfl⟩
    · simp only [axT,List.length_append,ay6,List.length_drop,Array.length_toList];omega
    ·
     have e2:off<=(Z.toList.take (off+xs.length)).length:=by have e3:Z.toList.length=Z.size:=Array.length_toList;rw [ay6];omega
     rw [V,J,aya,ayi,List.drop_append_of_le_length e2,ay7,List.drop_take];have e1:(Z.toList.drop off).take (off+xs.length-off)=xs.map (Value.int .u8):=by rw [Nat.add_sub_cancel_left];exact U
     rw [e1,<-ayi];exact List.take_left' (by simp [I])
   ·
    have holds:∀j u,(xs.map (Value.int .u8))[j]?=some u->w.cell? ((⟨g,off,none⟩:Addr).add j)=some u:=fun j u H=>by
     have hj:j<xs.length:=by have:=(awR.1 H).1;simpa using this
     rw [<-U,awS,if_pos hj,ayP,Array.getElem?_toList] at H;rw [aah];simp only [World.cell?,z];exact H
    have hr:=run_append_grow (P:=ZP) w 32 32 5 i (.int .u8 0) underlying32 hi s ⟨g,off,none⟩ xs.length B (xs.map (Value.int .u8)) (by rw [J,ayq,aya]) holds ad m c (C.map (Value.int .u8)) (by rw [J,ayq,I,aya]) (fun j u H=>hs.news j u H) (by omega) (by omega) (growslice_fits (by omega) (by rw [y];omega));have a8:=grownCap_ge w (xs.length+m) B 5;have ab:=grownCap_le_maxLen w (xs.length+m) B 5 (by unfold maxLen;omega);refine⟨_,_,_,hr,⟨.inr ⟨w.heap.size,0,_,_,by rw [V],.inr (axe _),heap_alloc_new w.drew _,by rw [V];exact a8,ab,?_,?_⟩,N⟩,⟨rfl,rfl,rfl,by simp,fun k hk _=>axi w.drew _ k hk⟩,.inr rfl⟩
    · have:(Value.int IntKind.u8 0).cells.size=1:=rfl;simp only [Array.size_append,axT,size_zeroCells,ayq,I,this,aya];omega
    · rw [V,List.drop_zero];simp only [Array.toList_append,ay7];exact List.take_left' (by simp [I])
end
def ahM (X:Nat->Prop)(B U D size:Nat)(fr:List Int)(us:List Bool)(ds:List (List Int))(w:World):Prop:=∃Z Y V,acG X Z B U D Y V size fr us ds w
theorem asn {w:World}{e:TypeId}{a:Option Addr}{k c:Nat}{xs:List Value}(h:w.ownsRow 0 e 1 (.slice a k c) k xs):w.ownsRow 0 e 1 (.slice a 0 c) 0 []:=by
 rcases h.2 with ⟨Z,h0⟩ | ⟨g,cap,Y,Z,h1,h2,h3,h4,h5,h6⟩
 ·
  cases Z
  exact⟨rfl,.inl ⟨rfl,rfl⟩⟩
 ·
  cases Z
  exact⟨rfl,.inr ⟨g,c,Y,rfl,h1,h2,axh _,h4,h5,by simp⟩⟩
theorem acG.cut0 {X:Nat->Prop}{N:Nat->Nat}{B U D size:Nat}{x:Value}{Y:List Value}{fr:List Int}{us:List Bool}{ds:List (List Int)}{w:World}(h:acG X N B U D x Y size fr us ds w)(n:Nat)(C:n<us.length) :
  ∃a k c,Y[n]?=some (.slice a k c)/\ahM (fun k=>X k∨w.heap.size<=k) B U D size fr us (ds.set n []) (w.setCell ⟨D,n,none⟩ (.slice a 0 c))/\Chg X w (w.setCell ⟨D,n,none⟩ (.slice a 0 c)):=by
 have Z:n<Y.length:=by rw [h.dl.1];exact C
 have J:n<ds.length:=by rw [h.dl.2];exact C
 obtain⟨I,s⟩:=h.rows n Y[n] ds[n] (ay4 Z) (ay4 J);obtain⟨a,c,e,_,_⟩:=SlK.own I.1;have H:=I.1;rw [e] at H;obtain⟨z,A,_,_⟩:=h.setD (v:=Y[n]) (v':=.slice a 0 c) (xs':=[]) (V:=w) n (ay4 Z) (asn H) (Chg.refl _ _) (fun g y=>.inl (by rw [e];cases a<;>exact y));exact⟨a,ds[n].length,c,by rw [ay4 Z,e],⟨_,_,_,z⟩,A⟩
def avE (X:Nat->Prop)(B U D size:Nat)(fr:List Int)(us:List Bool)(ds:List (List Int))(w:World)(e:Ending)(w':World):Prop:=
 e=.returned (.tuple #[.int .i64 (fr.getLast?.getD 0),.bool (!fr.isEmpty)])/\Chg X w w'/\
  if fr=[] then ahM (fun k=>X k∨w.heap.size<=k) B U D size fr us ds w' else ahM (fun k=>X k∨w.heap.size<=k) B U D size fr.dropLast (us.set (fr.getLast?.getD 0).toNat true) (ds.set (fr.getLast?.getD 0).toNat []) w'
theorem am4 {X:Nat->Prop}{B U D size:Nat}{fr:List Int}{us:List Bool}{ds:List (List Int)}(w:World)(h:ahM X B U D size fr us ds w)(hn:fr.length<=1000000)(hf:∀x∈fr,0<=x/\x<us.length) :
  Calls ZP 190 #[.pointer (some ⟨B,0,none⟩)] w (avE X B U D size fr us ds w):=by
 obtain⟨a8,fv,dv,h⟩:=h;have j:=ax3 (ap4 w h hn)
 rcases List.eq_nil_or_concat fr with rfl | ⟨l,x,rfl⟩
 ·
  clear h hf hn;go_enter func190,ntmps190
  go_wp2_with (go_at_call 232;refine j.out.mono ?_;rintro e C ⟨rfl,⟨fv',Z,V⟩,H⟩;have HB:=ax3 V;have HC:=ax3 H;clear V H)
  go_ret2;exact⟨rfl,HC.out,by rw [if_pos rfl];exact⟨_,_,_,HB.out⟩⟩
 ·
  rw [List.concat_eq_append] at *;have e1:(l++[x]).getLast?.getD 0=x:=by simp
  have e2:(!(l++[x]).isEmpty)=true:=by simp
  have e3:(l++[x]).dropLast=l:=by simp
  obtain⟨x0,x1⟩:=hf x (by simp);obtain⟨n,rfl⟩:=axr x0;have y:n<us.length:=by omega
  have a7:Hid (l++[(n:Int)]≠[]):=by simp [Hid]
  have HE:=ax3 (And.intro e1 e3);unfold awC at j;rw [e1,e2,e3] at j;obtain⟨L,hL⟩:∃L,us.length=L:=⟨_,rfl⟩;have i0:(0:Int)<=(n:Int):=x0;have i1:(n:Int)<(L:Int):=by omega
  have HL:=ax3 hL;have I:=ax3 y;clear h hf hn e1 e2 e3 hL y x0 x1;go_enter func190,ntmps190;go_upto_region 6 with (go_at_call 232;refine j.out.mono ?_;rintro e C ⟨rfl,⟨fv',Z,V⟩,H⟩)
  obtain⟨u1,o⟩:=V.setU n true;have c2:C.cell? ⟨B,2,none⟩=some (.slice (some ⟨U,0,none⟩) L L):=by have:=HL.out;simp [World.cell?,V.box,this]
  have f2:C.frozen? ⟨U,n,none⟩=false:=by simp [World.frozen?,V.used]
  have g2:C.cell? ⟨U,n,none⟩=some (.bool (us[n]'I.out)):=by simp [World.cell?,V.used,I.out]
  obtain⟨J,N⟩:∃W,W=C.setCell ⟨U,n,none⟩ (.bool true):=⟨_,rfl⟩;rw [<-N] at u1 o;have s:acG (fun k=>X k∨w.heap.size<=k) Z B U D fv' dv size l (us.set n true) ds J.drew:=u1.keep (Y:=fun _=>False) (.of_same (aa2 J 1)) fun _ _ _ h=>h;obtain⟨a,k,c,q1,q2,q3⟩:=s.cut0 n (by rw [axb];exact I.out);have v:(us.set n true).length=L:=by rw [axb];exact HL.out
  have c3:J.cell? ⟨B,3,none⟩=some (.slice (some ⟨D,0,none⟩) L L):=by simp [World.cell?,u1.box,v]
  have f3:J.frozen? ⟨D,n,none⟩=false:=by simp [World.frozen?,u1.data]
  have g3:J.cell? ⟨D,n,none⟩=some (.slice a k c):=by simp [World.cell?,u1.data];exact q1
  have k0:0<=k:=axh _;have Q2:=ax3 q2;have Q3:=ax3 ((H.trans ((o.same (aa2 J 1)).then q3) (fun i hi hx=>hx.elim id fun h=>by omega)));have z:w.heap.size<=J.drew.heap.size:=awT H.size o.size;have a6:=ax3 z;clear V H u1 o s q1 q2 q3 v z;go_upto_region 7 with fail
  rw [<-N];clear N c2 f2 g2
  go_region
  go_wp2;go_ret2;unfold avE;rw [HE.out.1,HE.out.2,if_neg a7.out];refine⟨by simp,Q3.out,?_⟩;obtain⟨A,a1,a2,hq⟩:=Q2.out;exact⟨A,a1,a2,hq.wide fun i _ hx=>hx.elim id fun h=>.inr (awT a6.out h)⟩
end Go.Proofs.YtaamacoicojhnaaGreat
