/- Proofs over the given program, part 16. -/
import Derived.Test.YtaamacoicojhnaaGreatZB15
set_option linter.unusedVariables false
set_option linter.unusedSimpArgs false
set_option maxRecDepth 100000
set_option maxHeartbeats 16000000
open Go.Proofs.Tryz
open Go.Proofs.Tryz renaming prog→ZP
namespace Go.Proofs.YtaamacoicojhnaaGreat
open Go.RowKit Go.Sort
def asf (A:PAd)(c:CfM)(o:Nat->Nat)(s':PlM)(w w':World):Prop:=∃o',aa8 A c o' s' w'/\(∀k,o k=0->o' k=0)/\Chg (fun k=>o k≠0) w w'/\∀k,w.heap.size<=k->k<w'.heap.size->o' k=0
section
variable {A:PAd}{c:CfM}{s s' s'':PlM}{o:Nat->Nat}{w w' w'':World}
theorem aa8.updZ (h:aa8 A c o s w)(t:Nat)(C:t≠0)(B:t<1000)(I:Chg (fun k=>o k=t) w w')(y:aar A c s' (fun k=>o k=t) (fun k=>o k=0) w' t)
  (z:∀u X Z V,u≠t->aar A c s X Z V u->aar A c s' X Z V u):asf A c o s' w w':=by
 have H:∀k,k<w'.heap.size->o k=0->alp o w.heap.size w'.heap.size 0 k=0:=fun k Y h0=>by
  by_cases U:k<w.heap.size
  · rw [abK U];exact h0
  · exact ajw (by omega) Y
 refine⟨alp o w.heap.size w'.heap.size 0,⟨fun u N=>?_,fun k Y=>agl (awT I.size Y) Y⟩,fun k Y=>?_,I.mono fun k _ e=>by rw [e];exact C,fun k h1 h2=>ajw h1 h2⟩
 ·
  have D:∀k,k<w'.heap.size->o k=u->alp o w.heap.size w'.heap.size 0 k=u:=fun k Y e=>by
   by_cases U:k<w.heap.size
   · rw [abK U];exact e
   · have:=h.out k (by omega);omega
  by_cases J:u=t
  · subst J;exact y.wide D H
  · exact ((z u _ _ _ J (h.part u N)).keep I (fun k _ h1 h2=>J (h1.symm.trans h2)) (fun k _ h1 h2=>C (h2.symm.trans h1))).wide D H
 ·
  by_cases U:k<w.heap.size
  · rw [abK U];exact Y
  · have:=h.out k (by omega);omega
theorem asf.g (h:asf A c o s' w w'):aa3 A c o s' w w':=let ⟨o',h1,h2,h3,_⟩:=h;⟨o',h1,h2,h3⟩
theorem aa3.byD (h:aa3 A c o s' w w'){a:Option Addr}{n:Nat}{Z:List Int}(Y:ByD (fun k=>o k=0) w a n Z):ByD (fun k=>o k=0) w' a n Z:=by
 obtain⟨o',_,_,h3⟩:=h;exact Y.keep h3 fun k _ V X=>X V
theorem aa3.slD (h:aa3 A c o s' w w'){a:Option Addr}{n:Nat}{Z:List aam}(Y:SlD (fun k=>o k=0) w a n Z):SlD (fun k=>o k=0) w' a n Z:=by
 obtain⟨o',_,_,h3⟩:=h;exact Y.keep h3 fun k _ V X=>X V
theorem atP (h:aa8 A c o s w)(Z:Int)(H:∀x∈s.rs,x.length<=1000000)(J:s.told<=1000000000) :
  Calls ZP 192 #[.pointer (some ⟨A.S,0,none⟩),.int .i64 Z] w fun e w'=>∃a U,e=.returned (.tuple #[.slice a (abw Z s.rs).length U,.bool s.rs.isEmpty])/\ByD (fun k=>w.heap.size<=k/\k<w'.heap.size) w' a (abw Z s.rs).length (abw Z s.rs)/\asf A c o { s with rs:=afq Z s.rs,told:=s.told+(abw Z s.rs).length } w w':=by
 obtain⟨a,n,U,y,h1,h2⟩:ar4 A c s (fun k=>o k=2) w:=h.part 2 (by omega);refine (alU Z w h1 h2 H J).mono ?_;rintro e w' ⟨v,a2,N,c2,Y,rfl,V,B,C,D,j⟩;obtain⟨z,X,rfl,_,I⟩:=aaC (enc:=Value.int .u8) V;refine⟨z,X,rfl,⟨⟨I,B⟩,fun _ q e=>?_⟩,h.updZ 2 (by omega) (by omega) D ⟨a2,N,c2,Y,C,by omega⟩ (aar.congr 2)⟩;exact acx V q.block (by rw [e];rfl)
theorem aa8.tailApp (h:aa8 A c o s w){I:Value}(j:w.heap[A.R]?=some (.cells (rdV A s.rd I) 245 (0,0)))(bs:List Int){N:Option Addr}{X U:Nat}{Z:World}(ht:ack (fun k=>o k=8∨w.heap.size<=k) Z (.slice N X U) (s.rd.tail++bs))(v:w.grownBy Z I.ownBlock)
  (C:(Value.slice N X U).ownBlock=I.ownBlock∨(Value.slice N X U).ownBlock=some w.heap.size) :
  aa3 A c o { s with rd:={ s.rd with tail:=s.rd.tail++bs } } w (Z.setCell ⟨A.R,11,none⟩ (.slice N X U))/\Z.frozen? ⟨A.R,11,none⟩=false/\Z.cell? ⟨A.R,11,none⟩=some I:=by
 obtain⟨J,h1,h2,h3,h4⟩:ap5 A s (fun k=>o k=8) w:=h.part 8 (by omega);have e0:J=I:=by
  rw [h1] at j;have e1:=congrArg (fun x=>x.bind fun y=>match y with | Obj.cells cs _ _=>cs[11]? | _=>none) j
  simpa [rdV,al9] using e1
 subst e0;have B:=(awU.1 h1).1;have V:Z.heap[A.R]?=some (.cells (rdV A s.rd J) 245 (0,0)):=(v.block A.R B fun e=>h4 e.symm).trans h1;have H:(Value.slice N X U).ownBlock≠some A.R:=fun e=>by
  rcases C with z | z
  · exact h4 (z.symm.trans e)
  · rw [z] at e;have:=awV e;omega
 have hc:Chg (fun k=>o k=8) w (Z.setCell ⟨A.R,11,none⟩ (.slice N X U)):=by
  refine ((Chg.refl _ w).grown v fun g e _=>(h3.lt g e).2).set ?_;exact h2
 refine⟨h.upG 8 (by omega) (by omega) hc ⟨.slice N X U,?_,.inl h2,?_,H⟩ (aar.congr 8),by simp [World.frozen?,V],by simp [World.cell?,V,rdV,al9]⟩
 · exact aa4 (i:=11) V _
 · exact ht.keep (Y:=fun k=>k=A.R) ((Chg.refl _ Z).set rfl) fun g D e=>H (by rw [<-e];exact D)
theorem aa8.tailCut (h:aa8 A c o s w){a:Option Addr}{n Z:Nat}(V:w.cell? ⟨A.R,11,none⟩=some (.slice a n Z))(k:Nat)(I:k<=n) :
  aa3 A c o { s with rd:={ s.rd with tail:=s.rd.tail.drop k } } w (w.setCell ⟨A.R,11,none⟩ (.slice (if Z=k then a else a.map (·.add k)) (n-k) (Z-k)))/\w.frozen? ⟨A.R,11,none⟩=false:=by
 obtain⟨N,h1,h2,h3,h4⟩:ap5 A s (fun k=>o k=8) w:=h.part 8 (by omega);have H:N=.slice a n Z:=by
  simp only [World.cell?,h1] at V;have V:some N=some (Value.slice a n Z):=V;exact awV V
 subst H;have X:(Value.slice (if Z=k then a else a.map (·.add k)) (n-k) (Z-k)).ownBlock≠some A.R:=fun e=>by
  split at e
  ·
   cases a with
   | none=>cases e
   | some p=>exact h4 e
  ·
   cases a with
   | none=>cases e
   | some p=>
    refine h4 ?_;simp only [awW,Value.ownBlock] at e ⊢;rw [<-e]
    cases p
    simp only [Addr.add]
    split<;>rfl
 have J:Chg (fun k=>o k=8) w (w.setCell ⟨A.R,11,none⟩ (.slice (if Z=k then a else a.map (·.add k)) (n-k) (Z-k))):=(Chg.refl _ w).set h2;refine⟨.of_same (J.mono fun k _ e=>by rw [e];decide) (h.updB 8 (by omega) (by omega) (by simp [World.setCell]) J ⟨_,aa4 (i:=11) h1 _,h2,?_,X⟩ (aar.congr 8)),by simp [World.frozen?,h1]⟩;exact (h3.cut k I).keep (Y:=fun k=>k=A.R) ((Chg.refl _ w).set rfl) fun g U e=>X (by rw [<-e];exact U)
end
theorem aeh {P:Program}{w w':World}{Z:Array Oper}{rest:List Oper}{o:Oper}{a:Act}{Q:Exit->Act->World->Prop}{v X v':Value}(Y:o.guard=none)(s x:Operand)(t:TypeId)
  (ho:o.op=.call { callee:=.builtin .append,args:=#[s,x],argTypes:=#[t,t] }) (U:a.eval s=v) (V:a.eval x=X) (N:(Builtin.append_ #[t,t] o.type #[v,X]).run P w=.ok v' w') (h:wpList P Z Q rest (a.put o.dst v') w'):wpList P Z Q (o :: rest) a w:=by
 refine wpList_plain Y fun K J=>?_;unfold Oper.wp execOp;simp only [ho,resolve,invoke,builtin,awX,awY,Result.andThen_ok,awZ,ax0,ax1,U,V,N];exact J _ _ h
theorem ami {A:PAd}{c:CfM}{s:PlM}{o:Nat->Nat}(w W:World)(h:aa3 A c o s w W)(Y:s.rs=[])(hk:c.K<=100000)(H:s.rd.own<=100000)(hl:s.fr.length<=100000)(ht:s.told<=1000000000) :
  Calls ZP 142 #[.pointer (some ⟨A.R,0,none⟩)] W fun e w'=>e=.returned (.tuple #[])/\aa3 A c o (readR c s) w w':=by
 have k0:=h.ceR 0 (.pointer (some ⟨A.P,0,none⟩)) fun _=>rfl;obtain⟨K0,z⟩:∃m,c.K=m:=⟨_,rfl⟩;obtain⟨X,U⟩:∃m,s.rd.own=m:=⟨_,rfl⟩;have hS:Hid (∀(s':PlM) V,aa3 A c o s' w V->s'.rd=s.rd->V.cell? ⟨A.P,9,none⟩=some (.pointer (some ⟨A.S,0,none⟩))/\V.cell? ⟨A.P,2,none⟩=some (.int .i64 (K0:Int))/\V.cell? ⟨A.R,9,none⟩=some (.int .i64 (X:Int))):=fun s' V Z hr=>⟨Z.ceP 9 _ fun _=>rfl,Z.ceP 2 _ fun _=>by rw [<-z];rfl,Z.ceR 9 _ fun _=>by rw [hr,<-U];rfl⟩;obtain⟨mo,a1⟩:∃m,(K0:Int)-(X:Int)=m:=⟨_,rfl⟩;have a8:IntKind.i64.wrap ((K0:Int)-(X:Int))=mo:=by rw [ax2];omega
 have N:abw mo s.rs=[]:=by rw [Y];rfl
 have C:afq mo s.rs=s.rs:=by rw [Y];rfl
 have HC:=ax3 ((h.bel (aa2 W 1)).lift fun o1 h1 z1=>(atP h1 mo (by rw [Y];simp) ht).mono (R':=fun e w'=>(∃a cc,e=.returned (.tuple #[.slice a 0 cc,.bool true]))/\aa3 A c o1 s (W.drewN 1) w') fun e w' ⟨a,cc,h2,_,h3⟩=>by
  rw [N,Y] at h2;have h3:=h3.g;rw [N,C] at h3;exact⟨⟨a,cc,h2⟩,h3⟩)
 have J:=ax3 (hS.out s _ (h.bel (aa2 W 1)) rfl);have HR:=ax3 Y;have HL:=ax3 hl;have j:=ax3 U;clear h Y hk H hl ht z U a1 N C;go_enter func142,ntmps142;go_upto_region 1 with fail
 obtain⟨D,hD⟩:∃D,D=W.drew:=⟨_,rfl⟩;have y:W.drewN 1=D:=by rw [hD];rfl
 rw [y] at HC J;clear k0 y;refine wp_region_noPanic ?_;refine wp_region_held_drew (S:=fun V=>V.cell? ⟨A.P,9,none⟩=some (.pointer (some ⟨A.S,0,none⟩))/\V.cell? ⟨A.P,2,none⟩=some (.int .i64 (K0:Int))/\V.cell? ⟨A.R,9,none⟩=some (.int .i64 (X:Int))) (by kernel_rfl) (by rw [<-hD];exact J.out) (fun hHeld=>?_);rw [<-hD] at hHeld ⊢;clear hD;refine tkA 0 ?_;refine tkA 1 ?_;refine tkA 2 ?_;refine tkW 3 (v:=?_) ?_ ?_;rotate_left
 ·
  intro V B;obtain⟨q1,q2,q3⟩:=B
  first | (go_simp;done) | (go_simp;with_reducible rfl)
 try simp only [Act.put,pA,pB,pC]
 refine tkA 4 ?_;refine tkA 5 ?_;refine tkA 6 ?_;refine tkA 7 ?_;refine tkW 8 (v:=?_) ?_ ?_;rotate_left
 ·
  intro V B;obtain⟨q1,q2,q3⟩:=B
  first | (go_simp;done) | (go_simp;with_reducible rfl)
 try simp only [Act.put,pA,pB,pC]
 refine tkA 9 ?_;refine tkA 10 ?_;refine tkA 11 ?_;refine tkW 12 (v:=?_) ?_ ?_;rotate_left
 ·
  intro V B;obtain⟨q1,q2,q3⟩:=B
  first | (go_simp;done) | (go_simp;with_reducible rfl)
 try simp only [Act.put,pA,pB,pC]
 refine tkA 13 ?_;refine rdy 14 (fun K hK=>?_);go_simp
 go_at_call 192
 refine HC.out.mono ?_;rintro e w2 ⟨⟨a2,c2,rfl⟩,Z⟩;refine hK.out _ _ (hS.out _ _ Z rfl) (fun x=>?_);clear hK K
 try simp only [Act.put,pA,pB,pC]
 refine tkA 15 ?_;refine tkA 16 ?_;refine tkA 17 ?_;refine tkA 18 ?_;refine tkA 19 ?_;refine wpAnyH_done (by kernel_rfl) ?_ _;refine ax4 ?_;have r9:=x.2.2;have HG:=ax3 Z;clear x hHeld HC J hS
 by_cases h0:0<X
 ·
  have d0:decide ((X:Int) > 0)=true:=by simp;omega
  have d1:decide (0<X)=true:=by simp;omega
  have ab:=Z.ceR 12 (.bool s.rd.ended) fun _=>rfl;have aa:=Z.frR 12;have H1:=Z.setR 12 (.bool true) { s.rd with ended:=true } (fun _=>rfl) rfl;have a7:=H1.ceR 1 (.int .u8 (s.rd.ph:Int)) fun _=>rfl;have a6:=H1.frR 1;have I:=ax3 (H1.setR 1 (.int .u8 3) { s.rd with ended:=true,ph:=3 } (fun _=>rfl) rfl);have HH:=ax3 h0;clear Z H1 h0;go_upto_region 14 with fail
  go_wp2
  go_end0
  refine⟨rfl,?_⟩;unfold readR;rw [if_pos (show s.rs.isEmpty=true by rw [HR.out];rfl),if_pos (show 0<s.rd.own by rw [j.out];exact HH.out)];exact I.out
 ·
  have h0:X=0:=by omega
  subst h0;have HB:=ax3 (agP w w2 Z HL.out);clear Z;go_upto_region 3 with (go_at_call 193;refine HB.out.mono ?_;rintro e w3 ⟨rfl,Z⟩)
  have a7:=Z.ceR 1 (.int .u8 (s.rd.ph:Int)) fun _=>rfl;have a6:=Z.frR 1;have I:=ax3 (Z.setR 1 (.int .u8 4) { (backR s).rd with ph:=4 } (fun _=>rfl) rfl);clear Z;go_wp2
  go_end0
  refine⟨rfl,?_⟩;unfold readR;rw [if_pos (show s.rs.isEmpty=true by rw [HR.out];rfl),if_neg (show ¬0<s.rd.own by rw [j.out];omega)];exact I.out
section
variable {A:PAd}{c:CfM}{s s':PlM}{o:Nat->Nat}{w w':World}
theorem aa3.cM (h:aa3 A c o s w w'):∃a m Z,w'.heap[A.M]?=some (.cells (mgV A s.mph (.slice a m Z)) 251 (0,0))/\SlK 2 w' a m (aad s.left)/\m<=Z:=h.low fun Y h1=>let ⟨a,m,Z,h2,h3,h4⟩:=h1.cM;⟨a,m,Z,h2,h3.1,h4⟩
theorem aa3.cE (h:aa3 A c o s w w'):w'.heap[A.E]?=some (.cells (emV A s.eph) 253 (0,0)):=h.low fun Z h1=>h1.cE
theorem aa3.setML (h:aa3 A c o s w w')(l:List aam)(a:Option Addr)(m Y:Nat)(U:∀Z,aa8 A c Z s w'->(∀k,o k=0->Z k=0)->SlD (fun k=>Z k=0) w' a m l)(V:m<=Y):aa3 A c o { s with left:=l } w (w'.setCell ⟨A.M,6,none⟩ (.slice a m Y)):=h.then fun Z h1 X=>.of_same (h1.chgM 6 _) (h1.setML l a m Y (U Z h1 X) V).1
theorem apO (Z:Nat->Prop)(w:World):SlD Z w none 0 []:=⟨⟨rfl,.inl rfl⟩,fun h=>absurd rfl h⟩
end
theorem afT {A:PAd}{c:CfM}{s:PlM}{o:Nat->Nat}(w W:World)(h:aa3 A c o s w W) :
  Calls ZP 204 #[.pointer (some ⟨A.M,0,none⟩)] W fun e w'=>e=.returned (.tuple #[])/\aa3 A c o { s with ended:=true,mph:=3 } w w':=by
 obtain⟨a,m,N,Z,_⟩:=h.cM;have k0:W.cell? ⟨A.M,0,none⟩=some (.pointer (some ⟨A.P,0,none⟩)):=by simp only [World.cell?,Z];rfl
 have Y:=h.ceP 14 (.pointer (some ⟨A.O,0,none⟩)) fun _=>rfl;have J:=ax3 h;clear h Z;go_enter func204,ntmps204;go_upto_region 1 with (go_at_call 245;refine (J.out.lift fun H h1 I=>au4 h1).mono ?_;rintro e U ⟨⟨v,rfl⟩,X⟩)
 obtain⟨a,m,N,Z,_⟩:=X.cM;have C:U.frozen? ⟨A.M,1,none⟩=false:=by simp [World.frozen?,Z]
 have D:U.cell? ⟨A.M,1,none⟩=some (.int .u8 (s.mph:Int)):=by simp only [World.cell?,Z];rfl
 have V:=ax3 (X.setM 3);clear X k0 Y Z;go_wp2
 go_end0
 exact⟨rfl,V.out⟩
theorem aiU {A:PAd}{c:CfM}{s:PlM}{o:Nat->Nat}(w W:World)(h:aa3 A c o s w W)(U:s.next<=1000000000)(r:List (Option (List aam)))(N:s.rg=none :: r) :
  Calls ZP 154 #[.pointer (some ⟨A.M,0,none⟩)] W fun e w'=>e=.returned (.tuple #[])/\aa3 A c o (takeM s) w w':=by
 obtain⟨a,m,x,J,_⟩:=h.cM;have k0:W.cell? ⟨A.M,0,none⟩=some (.pointer (some ⟨A.P,0,none⟩)):=by simp only [World.cell?,J];rfl
 have Y:=h.ceP 13 (.pointer (some ⟨A.G,0,none⟩)) fun _=>rfl;have C:=ax3 h;have X:=ax3 (And.intro U N);clear h J U N;go_enter func154,ntmps154;go_upto_region 2 with (go_at_call 203;refine (C.out.lift fun y h1 B=>amp h1 X.out.1 (by rw [X.out.2];rfl)).mono ?_;rintro e I ⟨rfl,Z⟩)
 have D:=ax3 (afT w I Z);clear Z k0 Y
 go_wp2_with (go_at_call 204;refine D.out.mono ?_;rintro e z ⟨rfl,Z⟩;have V:=ax3 Z;clear Z)
 go_end0
 refine⟨rfl,?_⟩;have H:takeM s={ s with ended:=true,mph:=3 }:=by unfold takeM;rw [X.out.2]
 rw [H];exact V.out
theorem ajz {A:PAd}{c:CfM}{s:PlM}{o:Nat->Nat}(w W:World)(h:aa3 A c o s w W)(y:s.next<=1000000000)(l:List aam)(r:List (Option (List aam)))(x:s.rg=some l :: r) :
  Calls ZP 154 #[.pointer (some ⟨A.M,0,none⟩)] W fun e w'=>e=.returned (.tuple #[])/\aa3 A c o (takeM s) w w':=by
 obtain⟨o1,h1,z1,g1⟩:=h;obtain⟨a,m,cc,I,_⟩:=h1.cM;have k0:W.cell? ⟨A.M,0,none⟩=some (.pointer (some ⟨A.P,0,none⟩)):=by simp only [World.cell?,I];rfl
 have H:=h1.g.ceP 13 (.pointer (some ⟨A.G,0,none⟩)) fun _=>rfl;have HC:=ax3 (alv h1 y l r x);have Z:∀s' V,aa3 A c o1 s' W V->aa3 A c o s' w V:=fun s' V N=>aa3.comp z1 g1 N;have C:=ax3 Z;have HX:=ax3 (And.intro y x);clear h1 z1 g1 I y x Z
 cases z:l with
 | nil=>
  subst z;go_enter func154,ntmps154;go_upto_region 3 with (go_at_call 203;refine HC.out.mono ?_;rintro e B ⟨a1,c1,rfl,Y,X,N⟩;have HG:=ax3 N;clear Y N X)
  clear k0 H;go_wp2
  go_end0
  refine⟨rfl,?_⟩;have e1:takeM s={ s with rg:=r++[none],next:=s.next+1 }:=by unfold takeM;rw [HX.out.2];rfl
  rw [e1];exact C.out _ _ HG.out
 | cons q t=>
  obtain⟨n,j⟩:∃n,l.length=n:=⟨_,rfl⟩;have v:0<n:=by rw [<-j,z];simp
  have d0:decide ((n:Int) > 0)=true:=by simp;omega
  have d1:decide (0<n)=true:=by simp;omega
  rw [j] at HC;have HL:=ax3 z;clear z v j;go_enter func154,ntmps154;go_upto_region 4 with (go_at_call 203;refine HC.out.mono ?_;rintro e B ⟨a1,c1,rfl,Y,X,N⟩)
  obtain⟨a2,m2,c2,I,_⟩:=N.cM;have j0:B.frozen? ⟨A.M,6,none⟩=false:=by simp [World.frozen?,I]
  have j1:B.cell? ⟨A.M,6,none⟩=some (.slice a2 m2 c2):=by simp only [World.cell?,I];rfl
  have U:=N.setML l a1 n c1 (fun o2 h2 z2=>Y.wide fun k _ hk=>z2 k hk) X;clear I;go_upto_region 5 with fail
  obtain⟨W2,D⟩:∃V,V=B.setCell ⟨A.M,6,none⟩ (.slice a1 n c1):=⟨_,rfl⟩;rw [<-D] at U ⊢;clear D j0 j1 k0 H Y X N;obtain⟨a3,m3,c3,J,_⟩:=U.cM;have j0:W2.frozen? ⟨A.M,1,none⟩=false:=by simp [World.frozen?,J]
  have j1:W2.cell? ⟨A.M,1,none⟩=some (.int .u8 (s.mph:Int)):=by simp only [World.cell?,J];rfl
  have a6:=ax3 (U.setM 2);clear U J;go_wp2
  go_end0
  refine⟨rfl,?_⟩;have e1:takeM s={ s with rg:=r++[none],next:=s.next+1,left:=l,mph:=2 }:=by unfold takeM;rw [HX.out.2];simp only [HL.out];rfl
  rw [e1];exact C.out _ _ a6.out
theorem ajM {A:PAd}{c:CfM}{s:PlM}{o:Nat->Nat}(w W:World)(h:aa3 A c o s w W)(H:s.next<=1000000000) :
  Calls ZP 157 #[.pointer (some ⟨A.M,0,none⟩)] W fun e w'=>e=.returned (.tuple #[])/\aa3 A c o (ahW s) w w':=by
 obtain⟨a,m,cc,X,_⟩:=h.cM;have k0:W.cell? ⟨A.M,0,none⟩=some (.pointer (some ⟨A.P,0,none⟩)):=by simp only [World.cell?,X];rfl
 have J:=h.ceP 13 (.pointer (some ⟨A.G,0,none⟩)) fun _=>rfl;have j:=ax3 h;have y:=ax3 H;clear h X H;go_enter func157,ntmps157;go_upto_region 1 with (go_at_call 207;refine (j.out.lift fun o1 h1 z1=>aub h1 y.out).mono ?_;rintro e N ⟨⟨v,rfl⟩,Y⟩)
 obtain⟨a2,D,c2,X,_⟩:=Y.cM;have B:N.frozen? ⟨A.M,6,none⟩=false:=by simp [World.frozen?,X]
 have C:N.cell? ⟨A.M,6,none⟩=some (.slice a2 D c2):=by simp only [World.cell?,X];rfl
 have Z:=Y.setML [] none 0 0 (fun o2 h2 z2=>apO _ _) (axe _);clear X;go_upto_region 2 with fail
 obtain⟨z,U⟩:∃V,V=N.setCell ⟨A.M,6,none⟩ (.slice none 0 0):=⟨_,rfl⟩;rw [<-U] at Z ⊢;have x:=ax3 (afT w z Z);clear U B C k0 J Y Z
 go_wp2_with (go_at_call 204;refine x.out.mono ?_;rintro e w2 ⟨rfl,Y⟩;have I:=ax3 Y;clear Y)
 go_end0
 exact⟨rfl,I.out⟩
theorem ak6 {A:PAd}{c:CfM}{s:PlM}{o:Nat->Nat}(w W:World)(h:aa3 A c o s w W) :
  Calls ZP 160 #[.pointer (some ⟨A.E,0,none⟩)] W fun e w'=>e=.returned (.tuple #[])/\aa3 A c o (aeW s) w w':=by
 have X:=h.cE;have k0:W.cell? ⟨A.E,0,none⟩=some (.pointer (some ⟨A.P,0,none⟩)):=by simp only [World.cell?,X];rfl
 have H:=h.ceP 14 (.pointer (some ⟨A.O,0,none⟩)) fun _=>rfl;have J:=ax3 (h.lift fun y h1 z=>auI h1);clear h X
 cases Z:s.out with
 | nil=>
  have U:s.out.length=0:=by rw [Z];rfl
  rw [U] at J;have N:=ax3 Z;clear Z U;go_enter func160,ntmps160;go_upto_region 1 with (go_at_call 211;refine J.out.mono ?_;rintro e I ⟨rfl,Y⟩)
  have X:=Y.cE;have v:I.frozen? ⟨A.E,1,none⟩=false:=by simp [World.frozen?,X]
  have x:I.cell? ⟨A.E,1,none⟩=some (.int .u8 (s.eph:Int)):=by simp only [World.cell?,X];rfl
  have D:=ax3 (Y.setE 2);clear Y k0 H X;go_wp2
  go_end0
  refine⟨rfl,?_⟩;have V:aeW s={ s with out:=[],eph:=2 }:=by unfold aeW;rw [if_pos (by rw [N.out];rfl),<-N.out]
  rw [V];exact D.out
 | cons b q=>
  have U:((s.out.length:Int)==0)=false:=by rw [Z];simp;omega
  have V:decide ((s.out.length:Int)=0)=false:=by rw [Z];simp;omega
  obtain⟨n,C⟩:∃n,s.out.length=n:=⟨_,rfl⟩;rw [C] at U V J;have N:=ax3 Z;clear Z C;go_enter func160,ntmps160
  go_wp2_with (go_at_call 211;refine J.out.mono ?_;rintro e I ⟨rfl,Y⟩;have B:=ax3 Y;clear Y)
  go_end0
  refine⟨rfl,?_⟩;have V:aeW s={ s with out:=[] }:=by unfold aeW;rw [if_neg (by rw [N.out];simp)]
  rw [V];exact B.out
theorem arV {w:World}{a:Option Addr}{m c:Nat}{h:aam}{t:List aam}(Z:SlK 2 w a m (aad (h :: t)))(N:m<=c):SlK 2 w (if c=1 then a else a.map (·.add 2)) (m-1) (aad t)/\m=t.length+1:=by
 have X:m=t.length+1:=by
  have:=Z.1;rw [abG] at this;simp at this;omega
 refine⟨⟨by rw [abG];omega,?_⟩,X⟩
 by_cases h0:t.length=0
 · exact .inl (by omega)
 · obtain⟨b,o,rfl,U,Y⟩:=Z.2.resolve_left (by omega);rw [if_neg (by omega)];refine .inr ⟨b,o+2,by rw [awW,aah],U,fun i u V=>?_⟩;have:=Y (i+2) u (by show (au0 h++aad t)[i+2]?=some u;exact V);rw [show o+2+i=o+(i+2) by omega];exact this
theorem akc {Z:Nat->Prop}{w:World}{a:Option Addr}{m:Nat}{h:aam}{t:List aam}(Y:SlD Z w a m (h :: t)):∃g off,a=some ⟨g,off,none⟩/\Z g/\w.cell? ⟨g,off,none⟩=some (.int .i64 h.1)/\w.cell? ⟨g,off+1,none⟩=some (.int .i64 h.2):=by
 have V:m=t.length+1:=by
  have:=Y.1.1;rw [abG] at this;simp at this;omega
 obtain⟨b,o,rfl,U,X⟩:=Y.1.2.resolve_left (by omega);exact⟨b,o,rfl,Y.2 (by omega) _ rfl,X 0 _ rfl,X 1 _ rfl⟩
theorem akp {A:PAd}{c:CfM}{s:PlM}{o:Nat->Nat}(w W:World)(h:aa3 A c o s w W)(q:aam)(t:List aam)(hl:s.left=q :: t)(ho:s.out.length<c.O)(he:s.ended=false) :
  Calls ZP 156 #[.pointer (some ⟨A.M,0,none⟩)] W fun e w'=>e=.returned (.tuple #[])/\aa3 A c o (flushM s) w w':=by
 obtain⟨C,h1,z1,g1⟩:=h;obtain⟨a,m,z,hb,y,j⟩:=h1.cM;rw [hl] at y;obtain⟨g,off,rfl,ac,ad,ap⟩:=akc y;obtain⟨tv,hP⟩:=h1.cP;obtain⟨ae,hm⟩:=arV y.1 j;have ag:=awQ W _ ad;have ao:=(awU.1 hb).1;have am:=(awU.1 hP).1;have aF:C A.M=9:=(h1.part 9 (by omega)).elim fun a h=>h.elim fun m h=>h.elim fun z h=>h.2.1;have aE:C A.P=1:=(h1.part 1 (by omega)).elim fun a h=>h.2.1;have H:Hid (∀V:World,(V.heap[A.M]?=W.heap[A.M]?/\V.heap[A.P]?=W.heap[A.P]?/\V.heap[g]?=W.heap[g]?)->V.cell? ⟨A.M,0,none⟩=some (.pointer (some ⟨A.P,0,none⟩))/\V.cell? ⟨A.P,14,none⟩=some (.pointer (some ⟨A.O,0,none⟩))/\V.cell? ⟨A.M,6,none⟩=some (.slice (some ⟨g,off,none⟩) m z)/\V.cell? ⟨g,off,none⟩=some (.int .i64 q.1)/\V.cell? ⟨g,off+1,none⟩=some (.int .i64 q.2)):=fun V ⟨e1,e2,e3⟩=>by
  refine⟨?_,?_,?_,?_,?_⟩
  · simp only [World.cell?,e1.trans hb];rfl
  · simp only [World.cell?,e2.trans hP];rfl
  · simp only [World.cell?,e1.trans hb];rfl
  · rw [axp (a:=⟨g,off,none⟩) e3];exact ad
  · rw [axp (a:=⟨g,off+1,none⟩) e3];exact ap
 obtain⟨D,hD⟩:∃D,D=W.drew:=⟨_,rfl⟩;have a6:Below W.heap.size W D:=by rw [hD];exact aa2 W 1
 obtain⟨U,hU⟩:∃U,U=D.alloc (.cells #[.int .i64 q.1,.int .i64 q.2] 116):=⟨_,rfl⟩;have X:Below W.heap.size W U:=by rw [hU];exact a6.alloc a6.size _
 have ak:∀V,Below W.heap.size W V->(V.heap[A.M]?=W.heap[A.M]?/\V.heap[A.P]?=W.heap[A.P]?/\V.heap[g]?=W.heap[g]?):=fun V hV=>⟨hV.block _ ao,hV.block _ am,hV.block _ ag⟩;have aa:SlK 2 U (some ⟨D.heap.size,0,none⟩) 1 [.int .i64 q.1,.int .i64 q.2]:=by rw [hU];exact ajc D q
 have ay:=h1.bel X;have ai:∀k,k<W.heap.size->alp C W.heap.size U.heap.size 0 k=C k:=fun k B=>abK B;have HC:Hid (Calls ZP 206 #[.pointer (some ⟨A.O,0,none⟩),.slice (some ⟨D.heap.size,0,none⟩) 1 1] U fun e w'=>(∃v,e=.returned v)/\(w'.heap[A.M]?=W.heap[A.M]?/\w'.heap[A.P]?=W.heap[A.P]?/\w'.heap[g]?=W.heap[g]?)/\aa3 A c C { s with out:=s.out++[q] } W w'/\SlK 2 w' (if z=1 then some ⟨g,off,none⟩ else (some (⟨g,off,none⟩:Addr)).map (·.add 2)) (m-1) (aad t)):=by
  refine (aws ay q (some ⟨D.heap.size,0,none⟩) 1 ho he aa).mono ?_;rintro e w' ⟨hv,hg,hc⟩;have B:∀k,k<W.heap.size->C k≠7->w'.heap[k]?=W.heap[k]?:=fun k B h7=>(hc.block k (ax6 B X.size) (by rw [ai k B];exact h7)).trans (X.block k B);refine⟨hv,⟨B _ ao (by omega),B _ am (by omega),B _ ag (by have h9:C g=0:=ac;omega)⟩,?_,?_⟩
  ·
   exact aa3.comp (fun k aH=>by
    by_cases aG:k<W.heap.size
    · rw [ai k aG];exact aH
    · have:=h1.out k (by omega);omega) (.of_same X) hg
  ·
   have h9:ByD (fun _=>True) W none 0 []:=⟨⟨⟨rfl,.inl rfl⟩,fun x hx=>by cases hx⟩,fun h=>absurd rfl h⟩;refine⟨ae.1,?_⟩
   rcases ae.2 with h0 | ⟨b,o9,e9,ar,aD⟩
   · exact .inl h0
   ·
    have aI:b=g:=by
     by_cases h1:z=1
     · rw [if_pos h1] at e9;cases e9;rfl
     · rw [if_neg h1,awW,aah] at e9;cases e9;rfl
    subst aI;refine .inr ⟨b,o9,e9,ax6 ar (awT X.size hc.size),fun i u hi=>?_⟩;rw [axp (a:=⟨b,o9+i,none⟩) (B b ar (by have h9:C b=0:=ac;omega))];exact aD i u hi
 have aA:=ax3 (ak D a6);have az:=ax3 (ak U X);have HU:=ax3 hU;have I:∀s' V,aa3 A c C s' W V->aa3 A c o s' w V:=fun s' V hg=>aa3.comp z1 g1 hg;have aC:=ax3 I;have HX:=ax3 (And.intro hl (And.intro hm (And.intro ac j)));have aN:0<m:=by omega
 have aM:m<=z:=j;clear h1 z1 g1 hb y ad ap hP ae ag ao am aF aE a6 X ak aa ay ai I hm hl ho he hU j;go_enter func156,ntmps156;go_upto_region 0 with fail
 refine wp_region_noPanic ?_;refine wp_region_held_drew (S:=fun V=>V.heap[A.M]?=W.heap[A.M]?/\V.heap[A.P]?=W.heap[A.P]?/\V.heap[g]?=W.heap[g]?) (by kernel_rfl) (by rw [<-hD];exact aA.out) (fun hHeld=>?_);rw [<-hD] at hHeld ⊢;clear hD;refine tkA 0 ?_;refine tkA 1 ?_;refine tkA 2 ?_;refine tkA 3 ?_;refine tkB 4 H.out ?_;refine tkA 5 ?_;refine tkA 6 ?_;refine tkB 7 H.out ?_;refine tkA 8 ?_;refine tkA 9 ?_;refine tkA 10 ?_;refine tkB 11 H.out ?_;refine tkA 12 ?_;refine tkB 13 H.out ?_;refine rdy 14 (fun K H=>?_);go_simp;rw [<-HU.out];refine H.out _ _ az.out (fun aK=>?_);clear H K
 try simp only [Act.put,pA,pB,pC]
 refine rdy 15 (fun K H=>?_);go_simp
 go_at_call 206
 refine HC.out.mono ?_;rintro e w2 ⟨⟨v5,rfl⟩,al,Z,af⟩;refine H.out _ _ al (fun aJ=>?_);clear H K
 try simp only [Act.put,pA,pB,pC]
 refine wpAnyH_done (by kernel_rfl) ?_ _;refine ax4 ?_;obtain⟨-,-,r6,-,-⟩:=H.out w2 al;obtain⟨a2,m2,c2,av,_⟩:=Z.cM;have j6:w2.frozen? ⟨A.M,6,none⟩=false:=by simp [World.frozen?,av]
 obtain⟨a8,a7⟩:∃x,(if z=1 then some (⟨g,off,none⟩:Addr) else (some (⟨g,off,none⟩:Addr)).map (·.add 2))=x:=⟨_,rfl⟩;rw [a7] at af;have ab:=Z.setML t a8 (m-1) (z-1) (fun o5 h5 z5=>⟨af,fun h0 q9 e=>by
  have h9:C g=0:=HX.out.2.2.1;have:q9.block=g:=by
   rw [<-a7] at e
   split at e
   · cases e;rfl
   · rw [awW,aah] at e;cases e;rfl
  rw [this];exact z5 g h9⟩) (by omega)
 have Y:=ax3 ab;clear ab af Z av aK aJ hHeld az aA HC al;have aq:flushM s={ s with out:=s.out++[q],left:=t,mph:=if t.isEmpty then 1 else s.mph }:=by unfold flushM;rw [HX.out.1]
 have aB:=ax3 aq;clear aq;have a1:(0:Int)<=1:=by omega
 have aP:(1:Int)<=(m:Int):=by omega
 go_upto_region 1 with fail
 go_upto_region 2 with fail
 have aw:(if z=1 then some (⟨g,off,none⟩:Addr) else some ⟨g,off+2,none⟩)=a8:=by
  rw [<-a7,awW,aah]
 rw [aw];obtain⟨W3,aj⟩:∃V,V=w2.setCell ⟨A.M,6,none⟩ (.slice a8 (m-1) (z-1)):=⟨_,rfl⟩;rw [<-aj] at Y ⊢;obtain⟨o4,h4,z4,g4⟩:=Y.out;have s6:W3.cell? ⟨A.M,6,none⟩=some (.slice a8 (m-1) (z-1)):=by rw [aj];simp [World.cell?_setCell_same,r6]
 clear aj aw a7 r6 j6 h4 z4 g4;obtain⟨a3,m3,c3,au,_⟩:=Y.out.cM;have f6:W3.frozen? ⟨A.M,6,none⟩=false:=by simp [World.frozen?,au]
 clear au;have N:=HX.out.2.1
 cases ht:t with
 | nil=>
  have J:m-1=0:=by rw [ht] at N;simp at N;omega
  rw [J] at s6;have Z:=Y.out.setML [] none 0 0 (fun o2 h2 z2=>apO _ _) (axe _);have HT:=ax3 ht;clear N J ht;go_upto_region 4 with fail
  obtain⟨W4,ax⟩:∃V,V=W3.setCell ⟨A.M,6,none⟩ (.slice none 0 0):=⟨_,rfl⟩;rw [<-ax] at Z ⊢;clear ax s6 f6;obtain⟨a4,m4,c4,ah,_⟩:=Z.cM;have f1:W4.frozen? ⟨A.M,1,none⟩=false:=by simp [World.frozen?,ah]
  have aO:W4.cell? ⟨A.M,1,none⟩=some (.int .u8 (s.mph:Int)):=by simp only [World.cell?,ah];rfl
  have aL:=ax3 (Z.setM 1);clear Z ah;go_wp2
  go_end0
  refine⟨rfl,?_⟩;rw [aB.out];have:=aL.out;have e:t=[]:=HT.out;rw [e];exact aC.out _ _ this
 | cons q2 t2=>
  obtain⟨m9,J⟩:∃k,m-1=k:=⟨_,rfl⟩;have h9:m9≠0:=by rw [ht] at N;simp at N;omega
  have d0:((m9:Int)==0)=false:=by simp;omega
  have d1:decide ((m9:Int)=0)=false:=by simp;omega
  have d2:decide (m9=0)=false:=by simp;omega
  rw [J] at s6;have HT:=ax3 ht;clear N J ht;go_wp2
  go_end0
  refine⟨rfl,?_⟩;rw [aB.out,if_neg (by rw [HT.out];simp)];exact aC.out _ _ Y.out
theorem ar6 {Z:Int}{rs:List (List Int)}(h:0<=Z):((abw Z rs).length:Int)<=Z:=by
 unfold abw
 split
 · simpa using h
 ·
  split
  · simpa using h
  ·
   unfold ads
   split
   · assumption
   · rw [ay6];omega
theorem aok {c:CfM}{s:PlM}(Y:s.rs≠[])(Z:List Int)(U:s.ds[s.rd.buf]?=some Z):readR c s={ s with rs:=afq ((c.K:Int)-s.rd.own) s.rs,told:=s.told+(abw ((c.K:Int)-s.rd.own) s.rs).length,ds:=s.ds.set s.rd.buf (Z++abw ((c.K:Int)-s.rd.own) s.rs),read:=s.read+(abw ((c.K:Int)-s.rd.own) s.rs).length,rd:={ s.rd with own:=s.rd.own+(abw ((c.K:Int)-s.rd.own) s.rs).length,tail:=(s.rd.tail++abw ((c.K:Int)-s.rd.own) s.rs).drop ((s.rd.tail++abw ((c.K:Int)-s.rd.own) s.rs).length-c.wm),ph:=if s.rd.own+(abw ((c.K:Int)-s.rd.own) s.rs).length=c.K then 3 else s.rd.ph } }:=by
 have X:¬(s.rs.isEmpty=true):=by cases V:s.rs with | nil=>exact absurd V Y | cons _ _=>simp
 have N:s.ds.getD s.rd.buf []=Z:=by rw [ay5,U];rfl
 unfold readR;rw [if_neg X,N]
theorem aa8.drewS {A:PAd}{c:CfM}{s:PlM}{o:Nat->Nat}{w:World}(h:aa8 A c o s w):aa8 A c o s w.drew:=by
 have h1:=h.bel (aa2 w 1);have e:(w.drewN 1).heap.size=w.heap.size:=rfl;rw [e,h.tag_same] at h1;exact h1
theorem akR {A:PAd}{c:CfM}{s:PlM}{o:Nat->Nat}(w W:World)(h:aa3 A c o s w W)(x0:List Int)(aq:s.rs≠[])(hk:c.K<=1000)(U:c.wm<=1000)(ah:s.rd.own<=c.K)(hu:s.us[s.rd.buf]?=some true)(hd:s.ds[s.rd.buf]?=some x0)(aC:x0.length+(c.K-s.rd.own)<=c.K+c.wm)
  (ht:s.told<=100000000) (hl:∀x∈s.rs,x.length<=1000000) (B:s.read<=100000000) (N:s.rd.tail.length<=1000) :
  Calls ZP 142 #[.pointer (some ⟨A.R,0,none⟩)] W fun e w'=>e=.returned (.tuple #[])/\aa3 A c o (readR c s) w w':=by
 obtain⟨o1,h1,z1,g1⟩:=h;have k0:=h1.g.ceR 0 (.pointer (some ⟨A.P,0,none⟩)) fun _=>rfl;obtain⟨K0,av⟩:∃m,c.K=m:=⟨_,rfl⟩;obtain⟨ow,ar⟩:∃m,s.rd.own=m:=⟨_,rfl⟩;obtain⟨mo,aK⟩:∃m,(K0:Int)-(ow:Int)=m:=⟨_,rfl⟩;have bp:IntKind.i64.wrap ((K0:Int)-(ow:Int))=mo:=by rw [ax2];omega
 obtain⟨X,ac⟩:∃b,abw mo s.rs=b:=⟨_,rfl⟩;obtain⟨n,hn⟩:∃m,X.length=m:=⟨_,rfl⟩;have ai:(n:Int)<=mo:=by rw [<-hn,<-ac];exact ar6 (by omega)
 have aR:s.rs.isEmpty=false:=by cases hh:s.rs with | nil=>exact absurd hh aq | cons _ _=>rfl
 have hS:Hid (∀(s':PlM) V,aa3 A c o1 s' W V->s'.rd=s.rd->V.cell? ⟨A.P,9,none⟩=some (.pointer (some ⟨A.S,0,none⟩))/\V.cell? ⟨A.P,2,none⟩=some (.int .i64 (K0:Int))/\V.cell? ⟨A.R,9,none⟩=some (.int .i64 (ow:Int))):=fun s' V J hr=>⟨J.ceP 9 _ fun _=>rfl,J.ceP 2 _ fun _=>by rw [<-av];rfl,J.ceR 9 _ fun _=>by rw [hr,<-ar];rfl⟩;obtain⟨D,hD⟩:∃D,D=W.drew:=⟨_,rfl⟩;have aw:aa8 A c o1 s D:=by rw [hD];exact h1.drewS
 have a1:Below W.heap.size W D:=by rw [hD];exact aa2 W 1
 have HC:=ax3 (atP aw mo hl (by omega));rw [aR,ac,hn] at HC;have b0:=ax3 (hS.out s D (h1.g.bel a1) rfl);have HB:=ax3 (And.intro aq (And.intro av (And.intro ar (And.intro aK (And.intro ac hn)))));have HN:=ax3 (And.intro ai (And.intro hk (And.intro U (And.intro ah (And.intro aC (And.intro B N))))));have aJ:n<=1000/\ow<=1000/\s.read<=100000000/\s.rd.tail.length<=1000:=by omega
 have ad:=ax3 aJ;clear aJ;have HU:=ax3 (And.intro hu hd);have HO:=ax3 (And.intro z1 (g1.same a1));have bw:=ax3 aw;have bx:=ax3 a1;have bm:=ax3 (fun (s':PlM) V (J:aa3 A c o1 s' D V)=>aa3.comp (w:=W) (w':=D) (o:=o1) (fun _ h=>h) (.of_same a1) J);clear h1 z1 g1 aq hk U ah hu hd aC ht hl B N av ar aK ac hn ai aR aw a1;go_enter func142,ntmps142;go_upto_region 1 with fail
 clear k0;refine wp_region_noPanic ?_;refine wp_region_held_drew (S:=fun V=>V.cell? ⟨A.P,9,none⟩=some (.pointer (some ⟨A.S,0,none⟩))/\V.cell? ⟨A.P,2,none⟩=some (.int .i64 (K0:Int))/\V.cell? ⟨A.R,9,none⟩=some (.int .i64 (ow:Int))) (by kernel_rfl) (by rw [<-hD];exact b0.out) (fun hHeld=>?_);rw [<-hD] at hHeld ⊢;clear hD;refine tkA 0 ?_;refine tkA 1 ?_;refine tkA 2 ?_;refine tkW 3 (v:=?_) ?_ ?_;rotate_left
 ·
  intro V hV;obtain⟨q1,q2,q3⟩:=hV
  first | (go_simp;done) | (go_simp;with_reducible rfl)
 try simp only [Act.put,pA,pB,pC]
 refine tkA 4 ?_;refine tkA 5 ?_;refine tkA 6 ?_;refine tkA 7 ?_;refine tkW 8 (v:=?_) ?_ ?_;rotate_left
 ·
  intro V hV;obtain⟨q1,q2,q3⟩:=hV
  first | (go_simp;done) | (go_simp;with_reducible rfl)
 try simp only [Act.put,pA,pB,pC]
 refine tkA 9 ?_;refine tkA 10 ?_;refine tkA 11 ?_;refine tkW 12 (v:=?_) ?_ ?_;rotate_left
 ·
  intro V hV;obtain⟨q1,q2,q3⟩:=hV
  first | (go_simp;done) | (go_simp;with_reducible rfl)
 try simp only [Act.put,pA,pB,pC]
 refine tkA 13 ?_;refine rdy 14 (fun K hK=>?_);go_simp
 go_at_call 192
 refine HC.out.mono ?_;rintro e w2 ⟨a2,c2,rfl,aT,o3,h3,z3,g3,n3⟩;have aP:aa3 A c o1 { s with rs:=afq mo s.rs,told:=s.told+n } D w2:=⟨o3,h3,z3,g3⟩;refine hK.out _ _ (hS.out _ _ (bm.out _ _ aP) rfl) (fun be=>?_);clear hK K
 try simp only [Act.put,pA,pB,pC]
 refine tkA 15 ?_;refine tkA 16 ?_;refine tkA 17 ?_;refine tkA 18 ?_;refine tkA 19 ?_;refine wpAnyH_done (by kernel_rfl) ?_ _;refine ax4 ?_;have aU:ByD (fun k=>o3 k=0) w2 a2 n X:=by
  exact aT.wide fun k _ hk=>n3 k hk.1 hk.2
 have b5:=ax3 aU;have HZ:=ax3 (And.intro (fun k hk=>z3 k (HO.out.1 k hk)) (HO.out.2.trans g3 fun i _ hi e=>hi (HO.out.1 i e)));have r7:=h3.g.ceR 7 (.int .i64 (s.rd.buf:Int)) fun _=>rfl;have b7:=h3.g.ceP 11 (.pointer (some ⟨A.Bb,0,none⟩)) fun _=>rfl;obtain⟨bf,j⟩:∃m,s.rd.buf=m:=⟨_,rfl⟩;rw [j] at r7;have bv:=ax3 h3;have bo:=ax3 j;have aH:=fun (V:World) (hV:Below w2.heap.size w2 V)=>(h3.g.bel hV).lift fun o4 h4 z4=>avA h4 bf n c2 a2 X x0 (b5.out.1.below hV) (by have:=HU.out.1;rwa [j] at this) (by have:=HU.out.2;rwa [j] at this) (by have:=HN.out;have h9:=HB.out.2.1;have h8:=HB.out.2.2.1;have h7:=HB.out.2.2.2.1;omega) (by have:=HN.out;omega);have bl:=ax3 aH;clear be hHeld HC b0 hS aT h3 z3 g3 n3 aP aU j aH;go_upto_region 5 with fail
 refine aak 9 mixed (by kernel_rfl) ?_;dsimp only [List.take_succ_cons,List.take_zero,List.drop_succ_cons,List.drop_zero]
 repeat (go_big_quiet_step (fail))
 refine wpQuiet_nil ?_;rintro _ ⟨nq,rfl⟩;have b4:=ax3 (bl.out _ (aa2 w2 nq));clear r7 b7
 go_wp2_with fail
 refine b4.out.mono ?_;rintro e w3 ⟨rfl,J⟩;obtain⟨Z,aI⟩:∃m,ow+n=m:=⟨_,rfl⟩;obtain⟨re,B⟩:∃m,s.read=m:=⟨_,rfl⟩;obtain⟨Y,ag⟩:∃m,re+n=m:=⟨_,rfl⟩;have aF:IntKind.i64.wrap ((ow:Int)+(n:Int))=(Z:Int):=by have:=ad.out;rw [ax2];omega
 have aE:IntKind.i64.wrap ((re:Int)+(n:Int))=(Y:Int):=by have:=ad.out;rw [ax2];omega
 have ae:=ax3 (And.intro aI (And.intro B ag));have c9:=J.ceR 9 (.int .i64 (ow:Int)) fun _=>by rw [<-HB.out.2.2.1];rfl
 have f9:=J.frR 9;have af:=ax3 (J.setR 9 (.int .i64 (Z:Int)) { s.rd with own:=Z } (fun _=>rfl) rfl);clear J b4 aI B ag;go_upto_region 7 with fail
 obtain⟨W4,aY⟩:∃V,V=w3.setCell ⟨A.R,9,none⟩ (.int .i64 (Z:Int)):=⟨_,rfl⟩;rw [<-aY] at af ⊢;clear aY c9 f9 aF;have b6:=af.out.ceP 17 (.int .i64 (re:Int)) fun _=>by rw [<-ae.out.2.1];rfl
 have bg:=af.out.frP 17;have aA:=ax3 (af.out.setP 17 (.int .i64 (Y:Int)) { s with rs:=afq mo s.rs,told:=s.told+n,ds:=s.ds.set bf (x0++X),read:=Y,rd:={ s.rd with own:=Z } } (fun _=>rfl) rfl (aar.congr 1));go_upto_region 8 with fail
 obtain⟨W5,aX⟩:∃V,V=W4.setCell ⟨A.P,17,none⟩ (.int .i64 (Y:Int)):=⟨_,rfl⟩;rw [<-aX] at aA ⊢;clear aX b6 bg aE;have ak:=aA.out.byD b5.out;obtain⟨o5,h5,z5,g5⟩:=aA.out;obtain⟨tv,ao,H⟩:=h5.cR;have H:ack (fun k=>o5 k=8) W5 tv s.rd.tail:=H;obtain⟨bi,bh,rfl,aN,_⟩:=H.shape;have aM:s.rd.tail.length+n<=1000000:=by have:=ad.out;omega
 obtain⟨a6,c6,W6,ab,aG,aQ,al⟩:=ahf W5 H a2 n c2 X ak.1 aM;obtain⟨q1,q2,q3⟩:=h5.tailApp ao X aG aQ al;have aB:W5.cell? ⟨A.R,11,none⟩=some (.slice bi s.rd.tail.length bh):=by simp only [World.cell?,ao];rfl
 obtain⟨tl,N⟩:∃m,s.rd.tail.length=m:=⟨_,rfl⟩;rw [N] at aB ab q1 q3;obtain⟨tn,ap⟩:∃m,tl+n=m:=⟨_,rfl⟩;rw [ap] at ab q1;have bk:=ax3 ab;have b1:=ax3 q1;have aZ:=ax3 (And.intro z5 g5);have ay:=ax3 (And.intro N ap);clear ak h5 z5 g5 ao H aN aM ab aG aQ al q1 N ap;go_upto_region 9 with (at_builtin;refine aeh rfl (.tmp 69) (.tmp 70) 32 rfl rfl rfl bk.out ?_)
 obtain⟨W7,aW⟩:∃V,V=W6.setCell ⟨A.R,11,none⟩ (.slice a6 tn c6):=⟨_,rfl⟩;rw [<-aW] at b1 ⊢;clear aW aB q2 q3;obtain⟨o7,h7,z7,g7⟩:=b1.out;obtain⟨a7,c7,am,aS,z⟩:=h7.g.tail;have C:(s.rd.tail++X).length=tn:=by rw [List.length_append,ay.out.1,HB.out.2.2.2.2.2];exact ay.out.2
 rw [show (({ s with rs:=afq mo s.rs,told:=s.told+n,ds:=s.ds.set bf (x0++X),read:=Y,rd:={ s.rd with own:=Z,tail:=s.rd.tail++X } }:PlM).rd.tail.length)=tn from C] at am z;obtain⟨wm,U⟩:∃m,c.wm=m:=⟨_,rfl⟩;have n8:=h7.g.ceP 8 (.int .i64 (wm:Int)) fun _=>by rw [<-U];rfl
 obtain⟨kk,aO⟩:∃m,tn-wm=m:=⟨_,rfl⟩;obtain⟨dm,bd⟩:∃m:Int,(tn:Int)-(wm:Int)=m:=⟨_,rfl⟩;have b9:tn<=3000/\wm<=1000:=by have:=ad.out;have h9:=ay.out;have h8:=HN.out;omega
 have aD:IntKind.i64.wrap ((tn:Int)-(wm:Int))=dm:=by rw [ax2];omega
 have aL:max (0:Int) dm=(kk:Int):=by omega
 have k9:kk<=tn:=by omega
 have b8:tn<=c7:=z;obtain⟨u1,nf⟩:=h7.tailCut am kk k9;have y:∀s' V,aa3 A c o7 s' W7 V->aa3 A c o s' w V:=fun s' V J=>aa3.comp HZ.out.1 HZ.out.2 (aa3.comp aZ.out.1 aZ.out.2 (aa3.comp z7 g7 J));have ax:=ax3 (u1.bel (aa2 _ 1));have b3:=ax3 y;have bj:=ax3 (And.intro U (And.intro aO C));clear h7 z7 g7 aS z C U aO bd b9 u1 y
 go_region
 generalize (if c7=kk then a7 else Option.map (fun x=>x.add kk) a7)=a8 at ax ⊢
 obtain⟨W8,au⟩:∃V,V=(W7.setCell ⟨A.R,11,none⟩ (.slice a8 (tn-kk) (c7-kk))).drew:=⟨_,rfl⟩;have aa:Hid (aa3 A c o7 { s with rs:=afq mo s.rs,told:=s.told+n,ds:=s.ds.set bf (x0++X),read:=Y,rd:={ s.rd with own:=Z,tail:=(s.rd.tail++X).drop kk } } W7 W8):=by rw [au];exact ax.out
 rw [<-au];clear au am n8 nf aD aL k9 b8 ax;have c9:=aa.out.ceR 9 (.int .i64 (Z:Int)) fun _=>rfl;have p2:=aa.out.ceP 2 (.int .i64 (K0:Int)) fun _=>by rw [<-HB.out.2.1];rfl
 have bu:=ax3 (aa.out.bel (aa2 W8 1));have aj:∀ph,ph=(if s.rd.own+(abw ((c.K:Int)-s.rd.own) s.rs).length=c.K then 3 else s.rd.ph)->readR c s={ s with rs:=afq mo s.rs,told:=s.told+n,ds:=s.ds.set bf (x0++X),read:=Y,rd:={ s.rd with own:=Z,tail:=(s.rd.tail++X).drop kk,ph:=ph } }:=fun ph bb=>by
  obtain⟨e1,e2,e3,e4,e5,e6⟩:=HB.out;obtain⟨f1,f2,f3⟩:=ae.out;obtain⟨g1,g2,g3⟩:=bj.out;have g4:=bo.out;have hd:=HU.out.2;subst e2 e3 e4 e5 e6 f1 f2 f3 g1 g3 g2 g4;rw [aok e1 x0 hd,bb]
 have b2:=ax3 aj;clear aj
 by_cases hd:Z=K0
 ·
  have d0:decide ((Z:Int)=(K0:Int))=true:=by simp;omega
  have d1:((Z:Int)==(K0:Int))=true:=by simp;omega
  have HD:=ax3 hd;clear hd;go_upto_region 10 with fail
  go_big_quiet (fail)
  have I:=aa.out.bel (aa2 W8 nq);obtain⟨W9,aV⟩:∃V,V=W8.drewN nq:=⟨_,rfl⟩;rw [<-aV] at I ⊢;clear aV c9 p2;have bt:=I.ceR 1 (.int .u8 (s.rd.ph:Int)) fun _=>rfl;have bq:=I.frR 1;have az:=ax3 (I.setR 1 (.int .u8 3) { s.rd with own:=Z,tail:=(s.rd.tail++X).drop kk,ph:=3 } (fun _=>rfl) rfl);clear I;go_wp2
  go_end0
  refine⟨rfl,?_⟩;rw [b2.out 3 (by obtain⟨e1,e2,e3,e4,e5,e6⟩:=HB.out;rw [e2,e3,e4,e5,e6,ae.out.1,if_pos HD.out])];exact b3.out _ _ az.out
 ·
  have d0:decide ((Z:Int)=(K0:Int))=false:=by simp;omega
  have d1:((Z:Int)==(K0:Int))=false:=by simp;omega
  have HD:=ax3 hd;clear hd;go_upto_region 10 with fail
  go_big_quiet (fail)
  have az:=ax3 (aa.out.bel (aa2 W8 nq));go_wp2
  go_end0
  refine⟨rfl,?_⟩;rw [b2.out s.rd.ph (by obtain⟨e1,e2,e3,e4,e5,e6⟩:=HB.out;rw [e2,e3,e4,e5,e6,ae.out.1,if_neg HD.out])];exact b3.out _ _ az.out
theorem aa8.tookApp {A:PAd}{c:CfM}{s:PlM}{o:Nat->Nat}{w:World}(h:aa8 A c o s w){I:Value}(hb:w.heap[A.P]?=some (.cells (adz A c s I) 109 (0,0)))(q:aam){N:Option Addr}{X U:Nat}{Y:World}
  (hr:Y.ownsRow 0 116 2 (.slice N X U) (s.took.length+1) (aad s.took++[.int .i64 q.1,.int .i64 q.2])) (hg:w.grownBy Y I.ownBlock) (D:(Value.slice N X U).ownBlock=I.ownBlock∨(Value.slice N X U).ownBlock=some w.heap.size) :
  aa3 A c o { s with took:=s.took++[q] } w (Y.setCell ⟨A.P,18,none⟩ (.slice N X U))/\Y.frozen? ⟨A.P,18,none⟩=false/\Y.cell? ⟨A.P,18,none⟩=some I:=by
 obtain⟨J,C,k2,k4,k5⟩:aqq A c s (fun k=>o k=1) w:=h.part 1 (by omega);have e0:J=I:=by
  rw [C] at hb;have j:=congrArg (fun x=>x.bind fun y=>match y with | Obj.cells cs _ _=>cs[18]? | _=>none) hb
  simpa [adz] using j
 subst e0;have z:=(awU.1 C).1;have V:Y.heap[A.P]?=some (.cells (adz A c s J) 109 (0,0)):=(hg.block _ z fun e=>k5 e.symm).trans C;have H:(Value.slice N X U).ownBlock≠some A.P:=fun e=>by
  rcases D with v | v
  · exact k5 (v.symm.trans e)
  · rw [v] at e;have:=awV e;omega
 have B:Chg (fun k=>o k=1) w Y:=(Chg.refl _ w).grown hg fun g e _=>k4.2 g e;have hc:Chg (fun k=>o k=1) w (Y.setCell ⟨A.P,18,none⟩ (.slice N X U)):=B.set k2;refine⟨h.upG 1 (by omega) (by omega) hc ⟨.slice N X U,aa4 (i:=18) V _,.inl k2,⟨?_,fun g Z=>?_⟩,H⟩ (aar.congr 1),by simp [World.frozen?,V],by simp only [World.cell?,V];rfl⟩
 ·
  show World.ownsRow _ _ _ _ _ (s.took++[q]).length (aad (s.took++[q]));have j:aad (s.took++[q])=aad s.took++[.int .i64 q.1,.int .i64 q.2]:=by simp [aad,au0]
  rw [j,List.length_append];exact aaX hr fun g Z=>axn Y ⟨A.P,18,none⟩ _ g fun e=>H (by rw [Z,e])
 ·
  rcases D with e | e
  · exact .inl (k4.2 g (e ▸ Z))
  · rw [e] at Z;exact .inr (axL (awV Z))
theorem ajQ {A:PAd}{c:CfM}{s:PlM}{o:Nat->Nat}(w W:World)(h:aa3 A c o s w W)(V:s.out=[]) :
  Calls ZP 159 #[.pointer (some ⟨A.E,0,none⟩)] W fun e w'=>e=.returned (.tuple #[])/\aa3 A c o (offerE c s) w w':=by
 have Z:=h.cE;have k0:W.cell? ⟨A.E,0,none⟩=some (.pointer (some ⟨A.P,0,none⟩)):=by simp only [World.cell?,Z];rfl
 have X:=h.ceP 14 (.pointer (some ⟨A.O,0,none⟩)) fun _=>rfl;have B:Hid (Calls ZP 208 #[.pointer (some ⟨A.O,0,none⟩)] W fun e w'=>∃a N,e=.returned (.slice a 0 N)/\Below W.heap.size W w'):=h.low fun z h1=>(avs h1).mono fun e w' ⟨v,h2,h3,h4⟩=>by
  obtain⟨a,N,rfl,_⟩:=abl h3;rw [V] at h2;exact⟨a,N,h2,h4⟩
 have C:=ax3 h;have D:=ax3 V;clear h Z V;go_enter func159,ntmps159;go_upto_region 3 with (go_at_call 208;refine B.out.mono ?_;rintro e I ⟨j,c1,rfl,Y⟩)
 have U:=C.out.bel Y;have Z:=U.cE;have x:I.frozen? ⟨A.E,1,none⟩=false:=by simp [World.frozen?,Z]
 have y:I.cell? ⟨A.E,1,none⟩=some (.int .u8 (s.eph:Int)):=by simp only [World.cell?,Z];rfl
 have J:=ax3 (U.setE 2);clear U k0 X Z Y;go_wp2;refine bodyPost_ret (results_none rfl _ _ _) rfl ?_;refine⟨rfl,?_⟩;have H:offerE c s={ s with eph:=2 }:=by unfold offerE;rw [D.out]
 rw [H];exact J.out
theorem aiQ {A:PAd}{c:CfM}{s:PlM}{o:Nat->Nat}(w W:World)(h:aa3 A c o s w W)(q:aam)(t:List aam)(hq:s.out=q :: t)(ho:s.off<=1000000)(hk:s.tk.length<=1000000)(ht:s.took.length<=1000000)(aG:s.out.length<=1000000) :
  Calls ZP 159 #[.pointer (some ⟨A.E,0,none⟩)] W fun e w'=>e=.returned (.tuple #[])/\aa3 A c o (offerE c s) w w':=by
 have hb:=h.cE;have k0:W.cell? ⟨A.E,0,none⟩=some (.pointer (some ⟨A.P,0,none⟩)):=by simp only [World.cell?,hb];rfl
 have aE:=h.ceP 14 (.pointer (some ⟨A.O,0,none⟩)) fun _=>rfl;obtain⟨n,hn⟩:∃n,s.out.length=n:=⟨_,rfl⟩;have aH:n≠0:=by rw [<-hn,hq];simp
 have d0:((n:Int)==0)=false:=by simp;omega
 have d1:decide ((n:Int)=0)=false:=by simp;omega
 have d2:decide (n=0)=false:=by simp;omega
 have HC:Hid (Calls ZP 208 #[.pointer (some ⟨A.O,0,none⟩)] W fun e w'=>∃a cc,e=.returned (.slice a n cc)/\SlD (fun k=>W.heap.size<=k/\k<w'.heap.size) w' a n (q :: t)/\Below W.heap.size W w'):=h.low fun o1 h1=>(avs h1).mono fun e w' ⟨v,h2,h3,h4⟩=>by
  obtain⟨a,cc,rfl,_,h5,h6⟩:=abl h3;rw [hn] at h2 h5;rw [hq] at h5;exact⟨a,cc,h2,⟨h5,fun _ q e=>h6 q e⟩,h4⟩
 have HG:=ax3 h;have HX:=ax3 (And.intro hq (And.intro ho (And.intro hk (And.intro ht hn))));have i0:(0:Int)<(n:Int):=by omega
 have aN:0<n:=by omega
 clear h hb hq ho hk ht aG hn aH;go_enter func159,ntmps159;go_upto_region 4 with (go_at_call 208;refine HC.out.mono ?_;rintro e w1 ⟨a1,c1,rfl,am,av⟩)
 obtain⟨o3,h3,z3,g3,n3⟩:=HG.out.belZ av;obtain⟨g,off,rfl,j,a2,ak⟩:=akc (am.wide (Z':=fun k=>o3 k=0) fun k _ hk=>n3 k hk.1 hk.2);have aq:=awQ w1 _ a2;have ap:g≠A.P:=fun e=>by
  obtain⟨tv,_,k2,_⟩:=h3.part 1 (by omega);have k2:o3 A.P=1:=k2;have h0:o3 g=0:=j;rw [e] at h0;omega
 have aD:=h3.g.ceP 10 (.pointer (some ⟨A.Kk,0,none⟩)) fun _=>rfl;have aB:=ax3 (fun (V:World) (hV:Below w1.heap.size w1 V)=>(h3.g.bel hV).lift fun o5 h5 z5=>avh h5 q HX.out.2.1 HX.out.2.2.1);have ah:∀(s':PlM) V,aa3 A c o3 s' w1 V->V.cell? ⟨g,off,none⟩=some (.int .i64 q.1)/\V.cell? ⟨g,off+1,none⟩=some (.int .i64 q.2):=fun s' V N=>by
  have:=N.weak g aq j;exact⟨by rw [axp (a:=⟨g,off,none⟩) this];exact a2,by rw [axp (a:=⟨g,off+1,none⟩) this];exact ak⟩
 have ac:=ax3 ah;have H:=ax3 (And.intro z3 g3);clear h3 z3 g3 n3 am aq j ah av k0 aE HC HG;refine aak 7 mixed (by kernel_rfl) ?_;dsimp only [List.take_succ_cons,List.take_zero,List.drop_succ_cons,List.drop_zero]
 repeat (go_big_quiet_step (fail))
 refine wpQuiet_nil ?_;rintro _ ⟨nq,rfl⟩;have aA:=ax3 (aB.out _ (aa2 w1 nq));clear aD a2 ak aB
 go_wp2_with fail
 refine aA.out.mono ?_;rintro e w3 ⟨rfl,N⟩
 cases hy:ag9 c.ans s.off with
 | false=>
  rw [hy] at N;have aK:=ax3 N;have HY:=ax3 hy;clear N hy;go_wp2
  go_end0
  refine⟨rfl,?_⟩;have e1:offerE c s={ s with off:=s.off+1 }:=by unfold offerE;rw [HX.out.1];simp only [HY.out];rfl
  rw [e1];exact aa3.comp H.out.1 H.out.2 aK.out
 | true=>
  rw [hy] at N;have aC:=N.ceP 14 (.pointer (some ⟨A.O,0,none⟩)) fun _=>rfl;have az:=ax3 (N.lift fun o5 h5 z5=>anF h5 q t HX.out.1);have HY:=ax3 hy;clear N hy aA;go_upto_region 6 with (go_at_call 210;refine az.out.mono ?_;rintro e w4 ⟨⟨v4,rfl⟩,N⟩)
  obtain⟨o6,h6,z6,g6⟩:=N;obtain⟨D,hD⟩:∃D,D=w4.drew:=⟨_,rfl⟩;have X:=h6.drewS;rw [<-hD] at X;have aa:Below w4.heap.size w4 D:=by rw [hD];exact aa2 w4 1
  have a8:=aa3.comp z6 (g6.same aa) X.g;obtain⟨U,hU⟩:∃U,U=D.alloc (.cells #[.int .i64 q.1,.int .i64 q.2] 116):=⟨_,rfl⟩;have J:Below D.heap.size D U:=by rw [hU];exact aa1 _ _
  have ar:=a8.bel J;have ab:=X.bel J;obtain⟨aL,ad⟩:=X.cP;obtain⟨tv,k1,k2,k4,k5⟩:=ab.part 1 (by omega);have k4:afd (fun k=>alp o6 D.heap.size U.heap.size 0 k=1) U 116 2 tv s.took.length (aad s.took):=k4;obtain⟨a4,c4,rfl,_,_,_⟩:=abl k4.1;have x:U.cell? ⟨A.P,18,none⟩=some (.slice a4 s.took.length c4):=by simp only [World.cell?,k1];rfl
  have aw:=(awU.1 ad).1;have ay:D.cell? ⟨A.P,18,none⟩=some (.slice a4 s.took.length c4):=by
   rw [<-axp (a:=⟨A.P,18,none⟩) (J.block A.P aw)];exact x
  obtain⟨i1,ao,ag,af,ae⟩:=info_parts adc;have z:SlK 2 U (some ⟨D.heap.size,0,none⟩) 1 [.int .i64 q.1,.int .i64 q.2]:=by rw [hU];exact ajc D q
  have aF:=HX.out.2.2.2.1;obtain⟨v1,W1,hr,a6,au,y⟩:=aaq (P:=ZP) U 0 69 69 116 i1 (.agg #[.int .i64 0,.int .i64 0]) 2 16 underlying69 ao ag af ae rfl (by decide) (.slice a4 s.took.length c4) s.took.length (aad s.took) k4.1 (some ⟨D.heap.size,0,none⟩) 1 1 [.int .i64 q.1,.int .i64 q.2] z (fun u hu=>by simp at hu;rcases hu with rfl | rfl<;>rfl) (by unfold maxLen;omega) (by omega) (axh _);obtain⟨a5,c5,rfl,_,_,_⟩:=abl a6;obtain⟨u1,u2,u3⟩:=ab.tookApp k1 q a6 au y;have a7:=aa3.comp (fun k hk=>by
   have h0:=z6 k hk
   by_cases aI:k<D.heap.size
   · show alp o6 _ _ 0 k=0;rw [abK aI];exact h0
   · have:=X.out k (by omega);omega) ((g6.same aa).same J) u1
  have aj:=ac.out _ _ a8;have ai:=ac.out _ _ ar;have I:=ac.out _ _ a7;have C:W1.cell? ⟨g,off,none⟩=some (.int .i64 q.1)/\W1.cell? ⟨g,off+1,none⟩=some (.int .i64 q.2):=by
   have e:(W1.setCell ⟨A.P,18,none⟩ (.slice a5 (s.took.length+1) c5)).heap[g]?=W1.heap[g]?:=axn W1 ⟨A.P,18,none⟩ _ g ap;rw [axp (a:=⟨g,off,none⟩) e,axp (a:=⟨g,off+1,none⟩) e] at I;exact I
  have ax:=u3;have HR:=ax3 hr;have HF:=ax3 a7;have Y:=ax3 (And.intro ai (And.intro C I));have HU:=ax3 hU;obtain⟨tn,al⟩:∃k,s.took.length=k:=⟨_,rfl⟩;obtain⟨aM,B⟩:∃k,tn+1=k:=⟨_,rfl⟩;rw [al] at x ay HR HF Y u3;rw [B] at HR HF Y;clear h6 z6 g6 X aa a8 J ar ab ad k1 k2 k4 k5 aw ao ag af ae z aF hr a6 au y u1 a7 ai C I ax hU al B az aC;refine wp_region_noPanic ?_;refine wp_region_held_drew (S:=fun V=>V.cell? ⟨g,off,none⟩=some (.int .i64 q.1)/\V.cell? ⟨g,off+1,none⟩=some (.int .i64 q.2)) (by kernel_rfl) (by rw [<-hD];exact aj) (fun hHeld=>?_);rw [<-hD] at hHeld ⊢;clear hD aj;refine tkA 0 ?_;refine tkA 1 ?_;refine tkA 2 ?_;refine tkA 3 ?_;refine tkA 5 ?_;refine tkA 6 ?_;refine tkW 7 (v:=?_) ?_ ?_;rotate_left
  ·
   intro V hV;obtain⟨q1,q2⟩:=hV
   first | (go_simp;done) | (go_simp;with_reducible rfl)
  try simp only [Act.put,pA,pB,pC]
  refine awN 4 8 (fun K Z=>?_) (fun K Z=>?_)
  focus
   go_simp;refine Z.out _ _ hHeld (fun h4=>?_);clear Z K
   try simp only [Act.put,pA,pB,pC]
   refine rdy 8 (fun K Z=>?_);go_simp;rw [<-HU.out];refine Z.out _ _ Y.out.1 (fun h8=>?_);clear Z K h4 h8
   try simp only [Act.put,pA,pB,pC]
  rotate_left
  focus
   go_simp;rw [<-HU.out];refine Z.out _ _ Y.out.1 (fun h8=>?_);clear Z K
   try simp only [Act.put,pA,pB,pC]
   refine rdy 4 (fun K Z=>?_);go_simp;refine Z.out _ _ Y.out.1 (fun h4=>?_);clear Z K h4 h8
   try simp only [Act.put,pA,pB,pC]
  all_goals
   refine rdy 9 (fun K Z=>?_);refine aaP (.tmp 38) (.tmp 42) 69 rfl _ _ rfl rfl rfl HR.out ?_;refine Z.out _ _ Y.out.2.1 (fun h9=>?_);clear Z K
   try simp only [Act.put,pA,pB,pC]
   refine tkA 10 ?_;refine tkA 11 ?_;refine rdy 12 (fun K Z=>?_);go_simp;refine Z.out _ _ Y.out.2.2 (fun aJ=>?_);clear Z K h9 aJ
   try simp only [Act.put,pA,pB,pC]
   refine wpAnyH_done (by kernel_rfl) ?_ _;refine ax4 ?_;go_wp2
   go_end0
   refine⟨rfl,?_⟩;have e1:offerE c s={ s with off:=s.off+1,tk:=s.tk++[q],out:=t,took:=s.took++[q] }:=by unfold offerE;rw [HX.out.1];simp only [HY.out,if_true]
   rw [e1];have h9:=aa3.comp H.out.1 H.out.2 HF.out
   simpa using h9
section
variable {A:PAd}{c:CfM}{s s':PlM}{o:Nat->Nat}{w w':World}{i:Nat}{x:WkM}
theorem aa3.cW (h:aa3 A c o s w w')(X:s.wk[i]?=some x)(V:i<900):∃p Y,w'.heap[A.Wk i]?=some (.cells (wkV A i x p Y) 249 (0,0))/\p.num=x.blk.num/\p.start=x.blk.start/\p.warm=x.blk.warm/\p.buf=x.blk.buf/\Bys w' p.a p.m x.blk.data:=h.low fun N h1=>by
 obtain⟨p,Y,U,Z,_⟩:=h1.cW X V;exact⟨p,Y,U,Z.1,Z.2.1,Z.2.2.1,Z.2.2.2.1,Z.2.2.2.2.1⟩
theorem aa3.setWk (h:aa3 A c o s w w')(I:s.wk[i]?=some x)(z:i<900)(V:WkM)(w'':World)(N:w''.heap.size=w'.heap.size)(H:∀k,k≠A.Wk i->w''.heap[k]?=w'.heap[k]?)(X:w''.os=w'.os/\w''.tape=w'.tape/\w''.output=w'.output)
  (C:∀Z p U,aa8 A c Z s w'->(∀k,o k=0->Z k=0)->w'.heap[A.Wk i]?=some (.cells (wkV A i x p U) 249 (0,0))->PcD (fun k=>Z k=0) w' p x.blk->afd (fun k=>Z k=i+11∨Z k=0) w' 116 2 U x.hits.length (aad x.hits)->U.ownBlock≠some (A.Wk i)->(x.ph≠3->∀g,U.ownBlock=some g->Z g=i+11)->
   ∃J Y,w''.heap[A.Wk i]?=some (.cells (wkV A i V J Y) 249 (0,0))/\PcD (fun k=>Z k=0) w' J V.blk/\afd (fun k=>Z k=i+11∨Z k=0) w' 116 2 Y V.hits.length (aad V.hits)/\Y.ownBlock≠some (A.Wk i)/\(V.ph≠3->∀g,Y.ownBlock=some g->Z g=i+11)) :
  aa3 A c o (setW s i fun _=>V) w w'':=h.then fun Z h1 D=>by
 refine .of_same ?_ (h1.setWk I z V w'' N H X fun p U=>C Z p U h1 D);have h0:abH A s (fun k=>Z k=i+11) (fun k=>Z k=0) w' i:=h1.part (i+11) (by omega);unfold abH at h0;rw [I] at h0;obtain⟨p,U,j,y,_⟩:=h0;refine⟨X.1,X.2.1,X.2.2,by omega,fun k v B=>H k fun e=>B ?_⟩;rw [e,show Z (A.Wk i)=i+11 from y];omega
theorem aa3.setWph (h:aa3 A c o s w w')(Y:s.wk[i]?=some x)(U:i<900)(ph:Nat)(Z:ph≠3->x.ph≠3) :
  aa3 A c o (setW s i fun _=>{ x with ph:=ph }) w (w'.setCell ⟨A.Wk i,1,none⟩ (.int .u8 (ph:Int))):=
 h.setWk Y U _ _ (by simp [World.setCell]) (fun k V=>axn w' ⟨A.Wk i,1,none⟩ _ k V) ⟨rfl,rfl,rfl⟩ fun z p X h1 B C D H I J=>⟨p,X,aa4 (i:=1) C _,D,H,I,fun e g N=>J (Z e) g N⟩
def ahF (w:World)(T:Nat)(p:PcW):World:=((((w.setCell ⟨T,6,none⟩ (.int .i64 p.num)).setCell ⟨T,7,none⟩ (.int .i64 p.start)).setCell ⟨T,8,none⟩ (.int .i64 p.warm)).setCell ⟨T,9,none⟩ (.slice p.a p.m p.c)).setCell ⟨T,10,none⟩ (.int .i64 p.buf)
theorem amP {w:World}{A:PAd}{i:Nat}{x:WkM}{X:PcW}{Z:Value}(h:w.heap[A.Wk i]?=some (.cells (wkV A i x X Z) 249 (0,0)))(p:PcW):(ahF w (A.Wk i) p).heap[A.Wk i]?=some (.cells (wkV A i x p Z) 249 (0,0)):=by
 obtain⟨I,B⟩:∃V,V=w.setCell ⟨A.Wk i,6,none⟩ (.int .i64 p.num):=⟨_,rfl⟩;have s6:I.heap[A.Wk i]?=some (.cells (wkV A i x { X with num:=p.num } Z) 249 (0,0)):=by rw [B];exact aa4 (i:=6) h (.int .i64 p.num)
 obtain⟨J,C⟩:∃V,V=I.setCell ⟨A.Wk i,7,none⟩ (.int .i64 p.start):=⟨_,rfl⟩;have v:J.heap[A.Wk i]?=some (.cells (wkV A i x { X with num:=p.num,start:=p.start } Z) 249 (0,0)):=by rw [C];exact aa4 (i:=7) s6 (.int .i64 p.start)
 obtain⟨N,D⟩:∃V,V=J.setCell ⟨A.Wk i,8,none⟩ (.int .i64 p.warm):=⟨_,rfl⟩;have y:N.heap[A.Wk i]?=some (.cells (wkV A i x { X with num:=p.num,start:=p.start,warm:=p.warm } Z) 249 (0,0)):=by rw [D];exact aa4 (i:=8) v (.int .i64 p.warm)
 obtain⟨U,H⟩:∃V,V=N.setCell ⟨A.Wk i,9,none⟩ (.slice p.a p.m p.c):=⟨_,rfl⟩;have z:U.heap[A.Wk i]?=some (.cells (wkV A i x { p with buf:=X.buf } Z) 249 (0,0)):=by rw [H];exact aa4 (i:=9) y (.slice p.a p.m p.c)
 have Y:(U.setCell ⟨A.Wk i,10,none⟩ (.int .i64 p.buf)).heap[A.Wk i]?=some (.cells (wkV A i x p Z) 249 (0,0)):=aa4 (i:=10) z (.int .i64 p.buf);rw [H,D,C,B] at Y;exact Y
theorem ar5 {w:World}{A:PAd}{i:Nat}{x:WkM}{Z:PcW}{X:Value}(h:w.heap[A.Wk i]?=some (.cells (wkV A i x Z X) 249 (0,0))):((((w.setCell ⟨A.Wk i,11,none⟩ (.int .i64 0)).setCell ⟨A.Wk i,12,none⟩ (.int .i64 0)).setCell ⟨A.Wk i,13,none⟩ (.slice none 0 0)).setCell ⟨A.Wk i,1,none⟩ (.int .u8 1)).heap[A.Wk i]?=some (.cells (wkV A i { x with ph:=1,node:=0,done:=0 } Z (.slice none 0 0)) 249 (0,0)):=by
 obtain⟨J,D⟩:∃V,V=w.setCell ⟨A.Wk i,11,none⟩ (.int .i64 0):=⟨_,rfl⟩;have s6:J.heap[A.Wk i]?=some (.cells (wkV A i { x with node:=0 } Z X) 249 (0,0)):=by rw [D];exact aa4 (i:=11) h (.int .i64 0)
 obtain⟨N,H⟩:∃V,V=J.setCell ⟨A.Wk i,12,none⟩ (.int .i64 0):=⟨_,rfl⟩;have B:N.heap[A.Wk i]?=some (.cells (wkV A i { x with node:=0,done:=0 } Z X) 249 (0,0)):=by rw [H];exact aa4 (i:=12) s6 (.int .i64 0)
 obtain⟨U,I⟩:∃V,V=N.setCell ⟨A.Wk i,13,none⟩ (.slice none 0 0):=⟨_,rfl⟩;have C:U.heap[A.Wk i]?=some (.cells (wkV A i { x with node:=0,done:=0 } Z (.slice none 0 0)) 249 (0,0)):=by rw [I];exact aa4 (i:=13) B (.slice none 0 0)
 have Y:(U.setCell ⟨A.Wk i,1,none⟩ (.int .u8 1)).heap[A.Wk i]?=some (.cells (wkV A i { x with ph:=1,node:=0,done:=0 } Z (.slice none 0 0)) 249 (0,0)):=aa4 (i:=1) C (.int .u8 1);rw [I,H,D] at Y;exact Y
theorem akt (w:World)(T:Nat)(p:PcW)(k:Nat)(Z:k≠T):(ahF w T p).heap[k]?=w.heap[k]?:=by
 unfold ahF;rw [axn _ ⟨T,10,none⟩ _ k Z,axn _ ⟨T,9,none⟩ _ k Z,axn _ ⟨T,8,none⟩ _ k Z,axn _ ⟨T,7,none⟩ _ k Z,axn _ ⟨T,6,none⟩ _ k Z]
def ac6 (w:World)(T:Nat):World:=((((ahF w T ⟨0,0,0,none,0,0,0⟩).setCell ⟨T,11,none⟩ (.int .i64 0)).setCell ⟨T,12,none⟩ (.int .i64 0)).setCell ⟨T,13,none⟩ (.slice none 0 0)).setCell ⟨T,1,none⟩ (.int .u8 1)
theorem arh (w:World)(a:Addr)(v:Value):(w.setCell a v).heap.size=w.heap.size:=by simp [World.setCell]
theorem aes (w:World)(T:Nat):Chg (fun k=>k=T) w (ac6 w T):=by
 unfold ac6 ahF;exact (((((((((Chg.refl (fun k=>k=T) w).set rfl).set rfl).set rfl).set rfl).set rfl).set rfl).set rfl).set rfl).set rfl
theorem ale (w:World)(T:Nat):(ac6 w T).heap.size=w.heap.size:=by
 unfold ac6 ahF;simp only [arh]
theorem alS (w:World)(T:Nat)(k:Nat)(Z:k≠T):(ac6 w T).heap[k]?=w.heap[k]?:=by
 unfold ac6;rw [axn _ ⟨T,1,none⟩ _ k Z,axn _ ⟨T,13,none⟩ _ k Z,axn _ ⟨T,12,none⟩ _ k Z,axn _ ⟨T,11,none⟩ _ k Z,akt _ _ _ k Z]
theorem anq (w:World)(T:Nat):(ac6 w T).os=w.os/\(ac6 w T).tape=w.tape/\(ac6 w T).output=w.output:=⟨(aes w T).os,(aes w T).tape,(aes w T).output⟩
theorem aoD {w:World}{A:PAd}{i:Nat}{x:WkM}{Z:PcW}{Y:Value}(h:w.heap[A.Wk i]?=some (.cells (wkV A i x Z Y) 249 (0,0))):(ac6 w (A.Wk i)).heap[A.Wk i]?=some (.cells (wkV A i (wk0 1) ⟨0,0,0,none,0,0,0⟩ (.slice none 0 0)) 249 (0,0)):=ar5 (amP h ⟨0,0,0,none,0,0,0⟩)
theorem awM (Z:Nat->Prop)(w:World):PcD Z w ⟨0,0,0,none,0,0,0⟩ awy:=⟨rfl,rfl,rfl,rfl,⟨⟨rfl,.inl rfl⟩,fun x Y=>by cases Y⟩,fun h=>absurd rfl h⟩
theorem aa3.leaveW (h:aa3 A c o s w w')(Z:s.wk[i]?=some x)(Y:i<900):aa3 A c o (setW s i fun _=>wk0 1) w (ac6 w' (A.Wk i)):=
 h.setWk Z Y _ _ (ale _ _) (alS _ _) (anq _ _) fun N p J h1 U V C D H I=>⟨⟨0,0,0,none,0,0,0⟩,.slice none 0 0,aoD V,awM _ _,afd.nil _ _ _ _,(fun e=>by cases e),fun _ g X=>by cases X⟩
end
theorem adH {A:PAd}{c:CfM}{s:PlM}{o:Nat->Nat}{i:Nat}{x:WkM}(w W:World)(h:aa3 A c o s w W)(z:s.wk[i]?=some x)(hi:i<900)(hl:s.fr.length<=100000) :
  Calls ZP 202 #[.pointer (some ⟨A.Wk i,0,none⟩)] W fun e w'=>e=.returned (.tuple #[])/\aa3 A c o (leaveW s i) w w':=by
 obtain⟨p,hv,C,e1,e2,e3,e4,_⟩:=h.cW z hi;have a1:=h.ceP 11 (.pointer (some ⟨A.Bb,0,none⟩)) fun _=>rfl;obtain⟨T,y⟩:∃T,A.Wk i=T:=⟨_,rfl⟩;have Y:W.heap[T]?=some (.cells (wkV A i x p hv) 249 (0,0)):=by rw [<-y];exact C
 have k0:W.cell? ⟨T,0,none⟩=some (.pointer (some ⟨A.P,0,none⟩)):=by simp [World.cell?,Y,wkV,al9]
 obtain⟨bf,J⟩:∃b,x.blk.buf=b:=⟨_,rfl⟩;have a2:W.cell? ⟨T,10,none⟩=some (.int .i64 (bf:Int)):=by rw [<-J,<-e4];simp only [World.cell?,Y];rfl
 have hG:=fun (V:World) (hV:Below W.heap.size W V)=>(h.bel hV).lift fun o1 h1 z1=>avo h1 bf hl;have D:leaveW s i=setW (abD s bf) i fun _=>wk0 1:=by unfold leaveW;rw [z];simp only [J]
 have H:(abD s bf).wk[i]?=some x:=z;have HG:=ax3 hG;have I:=ax3 (And.intro D (And.intro H (And.intro hi y)));rw [y];clear h J C Y e1 e2 e3 e4 hG D H hi y z hl;go_enter func202,ntmps202;go_upto_region 0 with fail
 refine aak 13 mixed (by kernel_rfl) ?_;dsimp only [List.take_succ_cons,List.take_zero,List.drop_succ_cons,List.drop_zero]
 repeat (go_big_quiet_step (fail))
 refine wpQuiet_nil ?_;rintro _ ⟨nq,rfl⟩;have a7:=ax3 (HG.out _ (aa2 W nq));clear k0 a2 a1
 go_wp2_with fail
 refine a7.out.mono ?_;rintro e X ⟨⟨v,rfl⟩,hg⟩;obtain⟨N,a6,Z,_⟩:=hg.cW I.out.2.1 I.out.2.2.1;have B:=ax3 (hg.leaveW I.out.2.1 I.out.2.2.1);rw [I.out.2.2.2] at Z B;have U:∀j,X.frozen? ⟨T,j,none⟩=false:=fun j=>by simp [World.frozen?,Z]
 have f1:=U 1;have f6:=U 6;have f7:=U 7;have f8:=U 8;have f9:=U 9;have ac:=U 10;have ab:=U 11;have aa:=U 12;have a8:=U 13;have ah:X.cell? ⟨T,1,none⟩=some (.int .u8 (x.ph:Int)):=by simp only [World.cell?,Z];rfl
 have c6:X.cell? ⟨T,6,none⟩=some (.int .i64 N.num):=by simp only [World.cell?,Z];rfl
 have c7:X.cell? ⟨T,7,none⟩=some (.int .i64 N.start):=by simp only [World.cell?,Z];rfl
 have c8:X.cell? ⟨T,8,none⟩=some (.int .i64 N.warm):=by simp only [World.cell?,Z];rfl
 have c9:X.cell? ⟨T,9,none⟩=some (.slice N.a N.m N.c):=by simp only [World.cell?,Z];rfl
 have ag:X.cell? ⟨T,10,none⟩=some (.int .i64 N.buf):=by simp only [World.cell?,Z];rfl
 have af:X.cell? ⟨T,11,none⟩=some (.int .i64 (x.node:Int)):=by simp only [World.cell?,Z];rfl
 have ae:X.cell? ⟨T,12,none⟩=some (.int .i64 (x.done:Int)):=by simp only [World.cell?,Z];rfl
 have ad:X.cell? ⟨T,13,none⟩=some a6:=by simp only [World.cell?,Z];rfl
 clear Z hg U;go_wp2
 go_end0
 refine⟨rfl,?_⟩;rw [I.out.1];exact B.out
theorem acF {s:PlM}{i:Nat}{x:WkM}(Y:s.wk[i]?=some x)(f:WkM->WkM):setW s i f=setW s i fun _=>f x:=by
 unfold setW;have e:s.wk.modify i f=s.wk.modify i fun _=>f x:=by
  refine ayX fun j=>?_;rw [aye,aye]
  by_cases Z:i=j
  · subst Z;rw [Y];simp
  · simp [Z]
 rw [e]
theorem aa3.freezeW {A:PAd}{c:CfM}{s:PlM}{o:Nat->Nat}{w w':World}{i:Nat}{x:WkM}(h:aa3 A c o s w w')(C:s.wk[i]?=some x)(hi:i<900)(J:x.ph=3) :
  ∃N,aa8 A c N s w'/\(∀k,o k=0->N k=0)/\Chg (fun k=>o k≠0) w w'/\∃p a Z,w'.heap[A.Wk i]?=some (.cells (wkV A i x p (.slice a x.hits.length Z)) 249 (0,0))/\SlD (fun k=>N k=0) w' a x.hits.length x.hits/\p.num=x.blk.num/\x.hits.length<=Z:=by
 obtain⟨V,h1,B,g1⟩:=h;have h0:abH A s (fun k=>V k=i+11) (fun k=>V k=0) w' i:=h1.part (i+11) (by omega);have Y:=h0;unfold abH at Y;rw [C] at Y;obtain⟨p,hv,D,v,H,U,I,k6⟩:=Y;obtain⟨a,Z,rfl,y,z,q3⟩:=abl U.1;refine⟨_,h1.freeze (s':=s) (i+11) (Value.slice a x.hits.length Z).ownBlock (fun k X=>⟨U.lt k X,U.2 k X⟩) (by omega) ?_ fun _ _ _ _ _ h=>h,fun k X=>?_,g1,p,a,Z,D,⟨z,fun h0 q e=>?_⟩,H.1,y⟩
 · show abH A s (fun k=>V k=i+11/\(Value.slice a x.hits.length Z).ownBlock≠some k) (fun k=>V k=0∨(Value.slice a x.hits.length Z).ownBlock=some k) w' i;unfold abH;rw [C];refine⟨p,_,D,⟨v,I⟩,H.wide fun k _ X=>.inl X,⟨U.1,fun g j=>.inr (.inr j)⟩,I,fun h=>absurd J h⟩
 ·
  unfold as1
  split
  · rfl
  · exact B k X
 ·
  have e2:(Value.slice a x.hits.length Z).ownBlock=some q.block:=by rw [e];rfl
  show as1 V _ q.block=0;unfold as1;rw [if_pos e2]
theorem aoW {A:PAd}{c:CfM}{s:PlM}{o:Nat->Nat}{i:Nat}{x:WkM}(w W:World)(h:aa3 A c o s w W)(hx:s.wk[i]?=some x)(hi:i<900)(B:x.ph=3)(hl:s.fr.length<=100000)(hn:x.blk.num<=1000000000)(z:s.next<=1000000000)(h1:s.next<=x.blk.num)(h2:x.blk.num-s.next<c.R)(X:s.rg[x.blk.num-s.next]?=some none) :
  Calls ZP 150 #[.pointer (some ⟨A.Wk i,0,none⟩)] W fun e w'=>e=.returned (.tuple #[])/\aa3 A c o (putWM s i) w w':=by
 obtain⟨o2,hS,z2,g2,p,a,cc,Z,N,J,H⟩:=h.freezeW hx hi B;have a1:=hS.g.ceP 13 (.pointer (some ⟨A.G,0,none⟩)) fun _=>rfl;obtain⟨T,hT⟩:∃T,A.Wk i=T:=⟨_,rfl⟩;rw [hT] at Z;have k0:W.cell? ⟨T,0,none⟩=some (.pointer (some ⟨A.P,0,none⟩)):=by simp [World.cell?,Z,wkV,al9]
 obtain⟨nu,I⟩:∃b,x.blk.num=b:=⟨_,rfl⟩;obtain⟨m,hm⟩:∃b,x.hits.length=b:=⟨_,rfl⟩;rw [I] at hn h1 h2 X J;rw [hm] at Z N H;have k6:W.cell? ⟨T,6,none⟩=some (.int .i64 (nu:Int)):=by rw [<-J];simp only [World.cell?,Z];rfl
 have D:W.cell? ⟨T,13,none⟩=some (.slice a m cc):=by simp only [World.cell?,Z];rfl
 have hC:=fun (V:World) (hV:Below W.heap.size W V)=>(hS.g.bel hV).lift fun o3 h3 z3=>awj h3 nu m cc a x.hits hn z h1 h2 X ((N.keep (Y:=fun _=>False) (.of_same hV) fun _ _ _ h=>h).wide fun k _ hk=>z3 k hk) H;have U:∀s' V,aa3 A c o2 s' W V->aa3 A c o s' w V:=fun s' V X=>aa3.comp z2 g2 X;have C:putWM s i=leaveW { s with rg:=s.rg.set (nu-s.next) (some x.hits) } i:=by unfold putWM;rw [hx];simp only [I]
 have HC:=ax3 hC;have a6:=ax3 U;have y:=ax3 (And.intro hx (And.intro hi (And.intro hl (And.intro hT C))));rw [hT];clear h hx hi B hl hn z h1 h2 X hS z2 g2 Z N J hT I hm hC U C H;go_enter func150,ntmps150;go_upto_region 0 with fail
 refine aak 18 mixed (by kernel_rfl) ?_;dsimp only [List.take_succ_cons,List.take_zero,List.drop_succ_cons,List.drop_zero]
 repeat (go_big_quiet_step (fail))
 refine wpQuiet_nil ?_;rintro _ ⟨nq,rfl⟩;have a7:=ax3 (HC.out _ (aa2 W nq));clear k0 k6 a1 D
 go_wp2_with fail
 refine a7.out.mono ?_;rintro e w1 ⟨⟨v,rfl⟩,X⟩;have j:=ax3 (adH w w1 (a6.out _ _ X) y.out.1 y.out.2.1 y.out.2.2.1);rw [y.out.2.2.2.1] at j;clear X
 go_wp2_with (go_at_call 202;refine j.out.mono ?_;rintro e w2 ⟨rfl,X⟩;have a2:=ax3 X;clear X)
 go_end0
 refine⟨rfl,?_⟩;rw [y.out.2.2.2.2];exact a2.out
theorem akl {A:PAd}{c:CfM}{s:PlM}{o:Nat->Nat}{i:Nat}{x:WkM}(w W:World)(h:aa3 A c o s w W)(D:s.wk[i]?=some x)(B:i<900)(N:x.ph=1)(C:s.q=[]) :
  Calls ZP 148 #[.pointer (some ⟨A.Wk i,0,none⟩)] W fun e w'=>e=.returned (.tuple #[])/\aa3 A c o (takeW s i) w w':=by
 obtain⟨p,hv,J,_⟩:=h.cW D B;have H:=h.ceP 12 (.pointer (some ⟨A.Q,0,none⟩)) fun _=>rfl;obtain⟨T,I⟩:∃T,A.Wk i=T:=⟨_,rfl⟩;have k0:W.cell? ⟨T,0,none⟩=some (.pointer (some ⟨A.P,0,none⟩)):=by rw [<-I];simp [World.cell?,J,wkV,al9]
 have HC:=ax3 (h.lift fun o1 h1 z1=>aoE h1 C);have Y:=ax3 (And.intro D (And.intro B (And.intro N (And.intro I C))));rw [I];clear h D B N I J C;go_enter func148,ntmps148;go_upto_region 2 with (go_at_call 199;refine HC.out.mono ?_;rintro e j ⟨rfl,y⟩)
 obtain⟨z,U⟩:∃V,V=j.alloc (.cells #[.int .i64 0,.int .i64 0,.int .i64 0,.slice none 0 0,.int .i64 0] 126):=⟨_,rfl⟩;have X:=y.bel (w'':=z) (by rw [U];exact aa1 _ _);rw [<-U];clear U k0 H y;obtain⟨p1,a1,Z,_⟩:=X.cW Y.out.1 Y.out.2.1;have v:=ax3 (X.setWph Y.out.1 Y.out.2.1 4 (fun _=>by rw [Y.out.2.2.1];decide));rw [Y.out.2.2.2.1] at Z v;have f1:z.frozen? ⟨T,1,none⟩=false:=by simp [World.frozen?,Z]
 have a2:z.cell? ⟨T,1,none⟩=some (.int .u8 (x.ph:Int)):=by simp only [World.cell?,Z];rfl
 clear Z X;go_wp2;refine bodyPost_ret (results_none rfl _ _ _) rfl ?_;refine⟨rfl,?_⟩;have e1:takeW s i=setW s i fun _=>{ x with ph:=4 }:=by
  unfold takeW;rw [Y.out.2.2.2.2];exact acF Y.out.1 _
 rw [e1];exact v.out
theorem akn {A:PAd}{c:CfM}{s:PlM}{o:Nat->Nat}{i:Nat}{x:WkM}(w W:World)(h:aa3 A c o s w W)(hx:s.wk[i]?=some x)(hi:i<900)(a1:x.ph=1)(b:aeG)(q:List aeG)(hq:s.q=b :: q) :
  Calls ZP 148 #[.pointer (some ⟨A.Wk i,0,none⟩)] W fun e w'=>e=.returned (.tuple #[])/\aa3 A c o (takeW s i) w w':=by
 obtain⟨o1,h1,z1,g1⟩:=h;obtain⟨p,hv,a6,_⟩:=h1.cW hx hi;have a7:=h1.g.ceP 12 (.pointer (some ⟨A.Q,0,none⟩)) fun _=>rfl;obtain⟨T,hT⟩:∃T,A.Wk i=T:=⟨_,rfl⟩;have k0:W.cell? ⟨T,0,none⟩=some (.pointer (some ⟨A.P,0,none⟩)):=by rw [<-hT];simp [World.cell?,a6,wkV,al9]
 have HC:=ax3 (aoj h1 b q hq);have HX:=ax3 (And.intro hx (And.intro hi (And.intro a1 (And.intro hT hq))));have J:∀s' V,aa3 A c o1 s' W V->aa3 A c o s' w V:=fun s' V hg=>aa3.comp z1 g1 hg;have a8:=ax3 J;rw [hT];clear h1 z1 g1 hx hi a1 hT a6 hq J;go_enter func148,ntmps148;go_upto_region 3 with (go_at_call 199;refine HC.out.mono ?_;rintro e w1 ⟨Z,rfl,a2,hg⟩)
 obtain⟨U,I⟩:∃V,V=w1.alloc (.cells #[.int .i64 Z.num,.int .i64 Z.start,.int .i64 Z.warm,.slice Z.a Z.m Z.c,.int .i64 Z.buf] 126):=⟨_,rfl⟩;have v:Below w1.heap.size w1 U:=by rw [I];exact aa1 _ _
 have N:U.heap[w1.heap.size]?=some (.cells #[.int .i64 Z.num,.int .i64 Z.start,.int .i64 Z.warm,.slice Z.a Z.m Z.c,.int .i64 Z.buf] 126 (0,0)):=by rw [I];exact axg _ _
 obtain⟨B,hB⟩:∃B,w1.heap.size=B:=⟨_,rfl⟩;rw [<-I];rw [hB] at N ⊢;have y:=hg.bel v;have z:({ s with q:=q }:PlM).wk[i]?=some x:=HX.out.1;obtain⟨C,aa,X,_⟩:=y.cW z HX.out.2.1;have H:aa3 A c o1 (setW { s with q:=q } i fun _=>{ x with ph:=2,blk:=b }) W ((ahF U (A.Wk i) Z).setCell ⟨A.Wk i,1,none⟩ (.int .u8 2)):=by
  refine y.setWk z HX.out.2.1 _ _ (by unfold ahF;simp only [arh]) (fun k hk=>?_) ?_ fun o3 p hv h3 z3 f1 f2 f3 f4 f5=>⟨Z,hv,?_,(a2.keep (Y:=fun _=>False) (.of_same v) fun _ _ _ h=>h).wide fun k _ hk=>z3 k hk,f3,f4,fun _ g hg=>f5 (by rw [HX.out.2.2.1];decide) g hg⟩
  · rw [axn _ ⟨A.Wk i,1,none⟩ _ k hk,akt _ _ _ k hk]
  ·
   have hc:Chg (fun _=>True) U ((ahF U (A.Wk i) Z).setCell ⟨A.Wk i,1,none⟩ (.int .u8 2)):=by unfold ahF;exact ((((((Chg.refl _ U).set trivial).set trivial).set trivial).set trivial).set trivial).set trivial
   exact⟨hc.os,hc.tape,hc.output⟩
  · exact aa4 (i:=1) (amP f1 Z) (.int .u8 2)
 have D:=ax3 H;rw [HX.out.2.2.2.1] at X D;have x0:U.cell? ⟨B,0,none⟩=some (.int .i64 Z.num):=by simp [World.cell?,N]
 have x1:U.cell? ⟨B,1,none⟩=some (.int .i64 Z.start):=by simp [World.cell?,N]
 have x2:U.cell? ⟨B,2,none⟩=some (.int .i64 Z.warm):=by simp [World.cell?,N]
 have x3:U.cell? ⟨B,3,none⟩=some (.slice Z.a Z.m Z.c):=by simp [World.cell?,N]
 have x4:U.cell? ⟨B,4,none⟩=some (.int .i64 Z.buf):=by simp [World.cell?,N]
 have fz:∀j,U.frozen? ⟨T,j,none⟩=false:=fun j=>by simp [World.frozen?,X]
 have f1:=fz 1;have f6:=fz 6;have f7:=fz 7;have f8:=fz 8;have f9:=fz 9;have ab:=fz 10;have ad:U.cell? ⟨T,1,none⟩=some (.int .u8 (x.ph:Int)):=by simp only [World.cell?,X];rfl
 have c6:U.cell? ⟨T,6,none⟩=some (.int .i64 C.num):=by simp only [World.cell?,X];rfl
 have c7:U.cell? ⟨T,7,none⟩=some (.int .i64 C.start):=by simp only [World.cell?,X];rfl
 have c8:U.cell? ⟨T,8,none⟩=some (.int .i64 C.warm):=by simp only [World.cell?,X];rfl
 have c9:U.cell? ⟨T,9,none⟩=some (.slice C.a C.m C.c):=by simp only [World.cell?,X];rfl
 have ac:U.cell? ⟨T,10,none⟩=some (.int .i64 C.buf):=by simp only [World.cell?,X];rfl
 clear X fz y hg a2 N v I k0 a7 z H hB;go_wp2
 go_end0
 refine⟨rfl,?_⟩;have e1:takeW s i=setW { s with q:=q } i fun _=>{ x with ph:=2,blk:=b }:=by
  unfold takeW;rw [HX.out.2.2.2.2];exact (acF (s:={ s with q:=q }) HX.out.1 _)
 rw [e1];exact a8.out _ _ D.out
theorem agH {A:PAd}{c:CfM}{s:PlM}{o:Nat->Nat}{i:Nat}{x:WkM}(w W:World)(h:aa3 A c o s w W)(Y:s.wk[i]?=some x)(V:i<900)(Z:x.ph=1) :
  Calls ZP 148 #[.pointer (some ⟨A.Wk i,0,none⟩)] W fun e w'=>e=.returned (.tuple #[])/\aa3 A c o (takeW s i) w w':=by
 cases X:s.q with
 | nil=>exact akl w W h Y V Z X
 | cons b q=>exact akn w W h Y V Z b q X
theorem afU {s:PlM}{i:Nat}{x:WkM}(Z:s.wk[i]?=some x):phW s i=x.ph:=by unfold phW;rw [Z]
theorem ah8 {s:PlM}{i:Nat}{x:WkM}(Z:s.wk[i]?=some x)(y:WkM):(setW s i fun _=>y).wk[i]?=some y:=by
 show (s.wk.modify i fun _=>y)[i]?=some y;rw [aye,Z];simp
theorem asr {s:PlM}{i:Nat}{x:WkM}(Z:s.wk[i]?=some x):∃y,(takeW s i).wk[i]?=some y/\(y.ph=4∨y.ph=2)/\(takeW s i).fr=s.fr:=by
 cases Y:s.q with
 | nil=>
  have e:takeW s i=setW s i fun _=>{ x with ph:=4 }:=by unfold takeW;rw [Y];exact acF Z _
  rw [e];exact⟨_,ah8 Z _,.inl rfl,rfl⟩
 | cons b q=>
  have e:takeW s i=setW { s with q:=q } i fun _=>{ x with ph:=2,blk:=b }:=by unfold takeW;rw [Y];exact acF (s:={ s with q:=q }) Z _
  rw [e];exact⟨_,ah8 (s:={ s with q:=q }) Z _,.inr rfl,rfl⟩
theorem ajn {s:PlM}{i:Nat}{x:WkM}(Z:s.wk[i]?=some x):stopW s i=if x.ph=1 then (if phW (takeW s i) i=4 then takeW s i else leaveW (takeW s i) i) else if x.ph=4 then s else leaveW s i:=by
 unfold stopW;rw [afU Z]
 by_cases h:x.ph=1
 · simp [h]
 · simp [h,afU Z]
theorem ama {A:PAd}{c:CfM}{s:PlM}{o:Nat->Nat}{i:Nat}{x:WkM}(w W:World)(h:aa3 A c o s w W)(X:s.wk[i]?=some x)(I:i<900)(B:s.fr.length<=100000) :
  Calls ZP 152 #[.pointer (some ⟨A.Wk i,0,none⟩)] W fun e w'=>e=.returned (.tuple #[])/\aa3 A c o (stopW s i) w w':=by
 obtain⟨p,hv,V,_⟩:=h.cW X I;obtain⟨T,U⟩:∃T,A.Wk i=T:=⟨_,rfl⟩;have j:W.cell? ⟨T,1,none⟩=some (.int .u8 (x.ph:Int)):=by rw [<-U];simp only [World.cell?,V];rfl
 by_cases h1:x.ph=1
 ·
  have HT:=ax3 (agH w W h X I h1);obtain⟨y,hy,a1,C⟩:=asr X;have N:=ax3 (And.intro X (And.intro I (And.intro B (And.intro U h1))));rw [h1] at j;rw [U] at HT ⊢;have v:=ax3 (And.intro hy C);clear h V U X I B h1 hy C;go_enter func152,ntmps152;go_upto_region 2 with (go_at_call 148;refine HT.out.mono ?_;rintro e w1 ⟨rfl,Z⟩)
  obtain⟨p1,a2,H,_⟩:=Z.cW v.out.1 N.out.2.1;rw [N.out.2.2.2.1] at H;have z:w1.cell? ⟨T,1,none⟩=some (.int .u8 (y.ph:Int)):=by simp only [World.cell?,H];rfl
  clear H j
  rcases a1 with h4 | h2
  ·
   rw [h4] at z;have HG:=ax3 Z;have H4:=ax3 h4;clear Z h4;go_wp2
   go_end0
   refine⟨rfl,?_⟩;rw [ajn N.out.1,if_pos N.out.2.2.2.2,if_pos (by rw [afU v.out.1];exact H4.out)];exact HG.out
  ·
   rw [h2] at z;have Y:=ax3 (adH w w1 Z v.out.1 N.out.2.1 (by rw [v.out.2];exact N.out.2.2.1));rw [N.out.2.2.2.1] at Y;have H4:=ax3 h2;clear Z h2
   go_wp2_with (go_at_call 202;refine Y.out.mono ?_;rintro e w2 ⟨rfl,Z⟩;have D:=ax3 Z;clear Z)
   go_end0
   refine⟨rfl,?_⟩;rw [ajn N.out.1,if_pos N.out.2.2.2.2,if_neg (by rw [afU v.out.1,H4.out];decide)];exact D.out
 ·
  have e1:((x.ph:Int)==1)=false:=by simp;omega
  have e2:decide ((x.ph:Int)=1)=false:=by simp;omega
  have J:stopW s i=if x.ph=4 then s else leaveW s i:=by
   rw [ajn X,if_neg h1]
  obtain⟨m,hm⟩:∃m,x.ph=m:=⟨_,rfl⟩;rw [hm] at e1 e2 j J
  by_cases h4:m=4
  ·
   subst h4;rw [if_pos rfl] at J;have HG:=ax3 h;have HS:=ax3 J;rw [U];clear h V U X I B h1 J hm;go_enter func152,ntmps152;go_wp2
   go_end0
   refine⟨rfl,?_⟩;rw [HS.out];exact HG.out
  ·
   rw [if_neg h4] at J;have e3:((m:Int) != 4)=true:=by simp;omega
   have e4:decide ((m:Int)≠4)=true:=by simp;omega
   have e5:((m:Int)==4)=false:=by simp;omega
   have e6:decide ((m:Int)=4)=false:=by simp;omega
   have Y:=ax3 (adH w W h X I B);rw [U] at Y;have HS:=ax3 J;rw [U];clear h V U X I B h1 J hm h4;go_enter func152,ntmps152
   go_wp2_with (go_at_call 202;refine Y.out.mono ?_;rintro e w2 ⟨rfl,Z⟩;have D:=ax3 Z;clear Z)
   go_end0
   refine⟨rfl,?_⟩;rw [HS.out];exact D.out
end Go.Proofs.YtaamacoicojhnaaGreat
