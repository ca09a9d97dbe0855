/- Proofs over the given program, part 15. -/
import Derived.Test.YtaamacoicojhnaaGreatZB14
set_option linter.unusedVariables false
set_option linter.unusedSimpArgs false
set_option maxRecDepth 100000
set_option maxHeartbeats 16000000
open Go.Proofs.Tryz
open Go.Proofs.Tryz renaming prog→ZP
namespace Go.Proofs.YtaamacoicojhnaaGreat
open Go.RowKit Go.Sort
theorem avy:∀m:Nat,m<=16->(Builtin.zeroCells #[.slice none 0 0,.bool false] m).toList=plC (List.replicate m ((none,0,0),false))
 | 0,_=>by kernel_rfl
 | 1,_=>by kernel_rfl
 | 2,_=>by kernel_rfl
 | 3,_=>by kernel_rfl
 | 4,_=>by kernel_rfl
 | 5,_=>by kernel_rfl
 | 6,_=>by kernel_rfl
 | 7,_=>by kernel_rfl
 | 8,_=>by kernel_rfl
 | 9,_=>by kernel_rfl
 | 10,_=>by kernel_rfl
 | 11,_=>by kernel_rfl
 | 12,_=>by kernel_rfl
 | 13,_=>by kernel_rfl
 | 14,_=>by kernel_rfl
 | 15,_=>by kernel_rfl
 | 16,_=>by kernel_rfl
 | m+17,h=>absurd h (by omega)
theorem alb (W:World)(B L:Nat)(X:List PlW)(h:W.heap[B]?=some (.cells (plC X).toArray 264 (0,0)))(hL:X.length=L)(h1:1<=L)(h2:L<=16) :
  ∃D,(∀C,(Builtin.clear_ #[195] C #[.slice (some ⟨B,0,none⟩) L L]).run ZP W=.ok (.tuple #[]) D)/\D.heap[B]?=some (.cells (plC (List.replicate L ((none,0,0),false))).toArray 264 (0,0))/\W.grownBy D (some B):=by
 obtain⟨i0,H,N,y,z⟩:=arg;have x:ZP.underlying 195=some (.slice 264):=underlying195;have A:=avy L h2;have V:(plC (List.replicate L ((none,0,0),false))).length=L*2:=by rw [are,axC]
 have U:(plC X).length=L*2:=by rw [are,hL]
 have Z:=run_storeCells_at (P:=ZP) B 0 264 (plC (List.replicate L ((none,0,0),false))) 0 (plC X).toArray W h (by simp [V,U]) (fun v Y=>by
  unfold plC at Y;obtain⟨p,s,Y⟩:=ayo.1 Y;rw [(List.mem_replicate.1 s).2] at Y;simp [plE] at Y
  rcases Y with rfl | rfl<;>simp [Value.oneCell'])
 have e:((plC X).toArray.toList.take (0+0)++plC (List.replicate L ((none,0,0),false))++(plC X).toArray.toList.drop (0+0+(plC (List.replicate L ((none,0,0),false))).length)).toArray=(plC (List.replicate L ((none,0,0),false))).toArray:=by
  congr 1;rw [V,ayc,axz,List.take_zero,ay0,List.drop_of_length_le (by simp [U]),ayj]
 rw [e] at Z;refine⟨W.setRow B (plC (List.replicate L ((none,0,0),false))).toArray,fun C=>?_,?_,?_⟩
 ·
  obtain⟨m,o⟩:∃m,L=m+1:=⟨L-1,by omega⟩;rw [<-A] at Z;rw [<-A];rw [o] at Z ⊢;have Y:∀w,(zeroValue 264).run ZP w=.ok (.agg #[.slice none 0 0,.bool false]) w:=fun w=>by simp [zeroValue,typeInfo,H,N]
  have J:(Value.agg #[.slice none 0 0,.bool false]).cells=#[.slice none 0 0,.bool false]:=rfl;simp [Builtin.clear_,run_underlying x,Y,J,Z]
 · simp [World.setRow,axy,h]
 · refine⟨rfl,rfl,rfl,by simp [World.setRow],fun k _ I=>?_⟩;have j:¬B=k:=fun e=>I (by rw [e]);simp [World.setRow,axy,j]
theorem ajS {X:Nat->Prop}{Q B next:Nat}{H:List PlW}(w:World)(h:adQ X Q B next H w)(j:next<=1000000000) :
  Calls ZP 207 #[.pointer (some ⟨Q,0,none⟩)] w fun e w'=>(∃v,e=.returned v)/\adQ X Q B next (List.replicate H.length ((none,0,0),false)) w'/\Chg X w w':=by
 have o:=ax3 (aeH w h j);have HH:=ax3 h;obtain⟨L,C⟩:∃L,H.length=L:=⟨_,rfl⟩;obtain⟨z,A⟩:=h.room;have HL:=ax3 C;rw [C] at z A;rw [C] at o ⊢;clear h C;go_enter func207,ntmps207
 go_wp2_with fail
 refine o.out.mono ?_;rintro e s ⟨v,rfl,ho,y⟩;obtain⟨a1,c1,rfl,_,_⟩:=SlK.own ho;have Z:=HH.out.keep (Y:=fun _=>False) (.of_same y) fun _ _ _ h=>h;have D:=HL.out;have c0:s.cell? ⟨Q,0,none⟩=some (.slice (some ⟨B,0,none⟩) L L):=by simp [World.cell?,Z.box,D]
 obtain⟨x,a2,N,U⟩:=alb s B L H Z.places D z A;have I:=(awU.1 Z.box).1;have J:x.heap[Q]?=some (.cells #[.slice (some ⟨B,0,none⟩) L L,.int .i64 (next:Int)] 199 (0,0)):=by rw [U.block Q I (fun e=>Z.ne (awV e)),<-D];exact Z.box
 have V:(List.replicate L ((((none:Option Addr),(0:Nat),(0:Nat)),false):PlW)).length=L:=axC;have K1:Hid (adQ X Q B next (List.replicate L ((none,0,0),false)) x):=⟨by rw [V];exact J,N,Z.inX,Z.ne,by rw [V];exact⟨z,A⟩⟩;have K2:Hid (Chg X w x):=(Chg.of_same y).grown U fun g e _=>by cases e;exact Z.inX.2
 clear ho y Z D N U I J V;go_wp2;go_ret;exact⟨⟨_,rfl⟩,K1.out,K2.out⟩
theorem ahY {a n i j:Nat}(h:i<n)(X:j<n)(Y:i≠j):(a+i) % n≠(a+j) % n:=fun e=>by
 have h1:=Nat.div_add_mod (a+i) n;have h2:=Nat.div_add_mod (a+j) n;rw [e] at h1;have h3:n*((a+i) / n)+j=n*((a+j) / n)+i:=by omega
 rcases Nat.lt_trichotomy ((a+i) / n) ((a+j) / n) with Z | Z | Z
 · have:=Nat.mul_le_mul_left n (Nat.succ_le_of_lt Z);rw [Nat.mul_succ] at this;omega
 · rw [Z] at h3;omega
 · have:=Nat.mul_le_mul_left n (Nat.succ_le_of_lt Z);rw [Nat.mul_succ] at this;omega
theorem an9 (a i n:Nat):((a+1) % n+i) % n=(a+(i+1)) % n:=by rw [Nat.mod_add_mod];congr 1;omega
section
variable {A:PAd}{c:CfM}{s s' s'':PlM}{o:Nat->Nat}{w w' w'':World}
theorem aa3.weak (h:aa3 A c o s' w w'):∀k,k<w.heap.size->o k=0->w'.heap[k]?=w.heap[k]?:=fun k Z h0=>by
 obtain⟨o',_,_,h3⟩:=h;exact h3.block k Z fun e=>e h0
theorem aa3.lift (h:aa3 A c o s w w'){f:FuncId}{args:Array Value}{R:Ending->World->Prop}(k:∀o',aa8 A c o' s w'->(∀k,o k=0->o' k=0)->Calls ZP f args w' fun e w''=>R e w''/\aa3 A c o' s' w' w'') :
  Calls ZP f args w' fun e w''=>R e w''/\aa3 A c o s' w w'':=by
 obtain⟨Y,h1,h2,h3⟩:=h;refine (k Y h1 h2).mono ?_;rintro e H ⟨X,Z,I,J,N⟩;exact⟨X,Z,I,fun k V=>J k (h2 k V),h3.trans N fun i _ U e=>U (h2 i e)⟩
theorem aa3.bel (h:aa3 A c o s w w')(Z:Below w'.heap.size w' w''):aa3 A c o s w w'':=h.then fun Y h1 _=>h1.gr Z
theorem aa3.low (h:aa3 A c o s w w'){R:Prop}(k:∀o',aa8 A c o' s w'->R):R:=let ⟨o1,h1,_⟩:=h;k o1 h1
theorem aa3.setR (h:aa3 A c o s w w')(i:Nat)(v:Value)(Z:RdM)(X:∀Y,(rdV A s.rd Y).setIfInBounds i v=rdV A Z Y)(V:Z.tail=s.rd.tail) :
  aa3 A c o { s with rd:=Z } w (w'.setCell ⟨A.R,i,none⟩ v):=h.then fun U h1 _=>.of_same (h1.chgR i v) (h1.setR i v Z X V).1
theorem aa3.setP (h:aa3 A c o s w w')(i:Nat)(v:Value)(s':PlM)(U:∀Y,(adz A c s Y).setIfInBounds i v=adz A c s' Y)(N:s'.took=s.took)(J:∀u X Z V,u≠1->aar A c s X Z V u->aar A c s' X Z V u) :
  aa3 A c o s' w (w'.setCell ⟨A.P,i,none⟩ v):=h.then fun I h1 _=>.of_same (h1.chgP i v) (h1.setP i v s' U N J).1
theorem aa3.setM (h:aa3 A c o s w w')(ph:Nat):aa3 A c o { s with mph:=ph } w (w'.setCell ⟨A.M,1,none⟩ (.int .u8 (ph:Int))):=h.then fun Z h1 _=>.of_same (h1.chgM 1 _) (h1.setM ph).1
theorem aa3.setE (h:aa3 A c o s w w')(ph:Nat):aa3 A c o { s with eph:=ph } w (w'.setCell ⟨A.E,1,none⟩ (.int .u8 (ph:Int))):=h.then fun Z h1 _=>.of_same (h1.chgE 1 _) (h1.setE ph).1
theorem aa3.frR (h:aa3 A c o s w w')(i:Nat):w'.frozen? ⟨A.R,i,none⟩=false:=h.low fun Y h1=>by obtain⟨Z,h2,_⟩:=h1.cR;simp [World.frozen?,h2]
theorem aa3.frP (h:aa3 A c o s w w')(i:Nat):w'.frozen? ⟨A.P,i,none⟩=false:=h.low fun Y h1=>by obtain⟨Z,h2⟩:=h1.cP;simp [World.frozen?,h2]
theorem aa3.ceP (h:aa3 A c o s w w')(i:Nat)(v:Value)(Y:∀Z,(adz A c s Z)[i]?=some v):w'.cell? ⟨A.P,i,none⟩=some v:=h.low fun X h1=>by obtain⟨Z,h2⟩:=h1.cP;simp only [World.cell?,h2];exact Y Z
theorem aa3.ceR (h:aa3 A c o s w w')(i:Nat)(v:Value)(Y:∀Z,(rdV A s.rd Z)[i]?=some v):w'.cell? ⟨A.R,i,none⟩=some v:=h.low fun X h1=>by obtain⟨Z,h2,_⟩:=h1.cR;simp only [World.cell?,h2];exact Y Z
theorem aa3.tail (h:aa3 A c o s w w'):∃a Z,w'.cell? ⟨A.R,11,none⟩=some (.slice a s.rd.tail.length Z)/\Bys w' a s.rd.tail.length s.rd.tail/\s.rd.tail.length<=Z:=h.low fun X h1=>by
 obtain⟨Y,h2,h3⟩:=h1.cR;obtain⟨a,Z,rfl,h4,h5⟩:=h3.shape;exact⟨a,Z,by simp only [World.cell?,h2];rfl,h5,h4⟩
theorem aa3.neRP (h:aa3 A c o s w w'):A.R≠A.P:=h.low fun Z h1 e=>by
 obtain⟨Y,_,h2,_⟩:=h1.part 8 (by omega);obtain⟨Y,_,h3,_⟩:=h1.part 1 (by omega);have h2:Z A.R=8:=h2;have h3:Z A.P=1:=h3;rw [e,h3] at h2;exact absurd h2 (by decide)
theorem aa3.belZ (h:aa3 A c o s w w')(X:Below w'.heap.size w' w''):∃o',aa8 A c o' s w''/\(∀k,o k=0->o' k=0)/\Chg (fun k=>o k≠0) w w''/\∀k,w'.heap.size<=k->k<w''.heap.size->o' k=0:=by
 obtain⟨U,h1,h2,h3⟩:=h;refine⟨_,h1.grow 0 (by omega) X,fun k Z=>?_,h3.same X,fun k Z Y=>ajw Z Y⟩
 by_cases V:k<w'.heap.size
 · rw [abK V];exact h2 k Z
 · have:=h1.out k (by omega);have:=h2 k Z;omega
theorem aa3.comp {Z:Nat->Nat}(Y:∀k,o k=0->Z k=0)(N:Chg (fun k=>o k≠0) w w')(h:aa3 A c Z s' w' w''):aa3 A c o s' w w'':=by
 obtain⟨X,h1,h2,h3⟩:=h;exact⟨X,h1,fun k V=>h2 k (Y k V),N.trans h3 fun i _ U e=>U (Y i e)⟩
/- The queue of blocks. -/
theorem avL (h:aa8 A c o s w):Calls ZP 194 #[.pointer (some ⟨A.Q,0,none⟩)] w fun e w'=>e=.returned (.int .i64 ((c.Q-s.q.length:Nat):Int))/\Below w.heap.size w w':=by
 obtain⟨first,Z,h1,h2,h3⟩:ahl A c s (fun k=>o k=5) (fun k=>o k=0) w:=h.part 5 (by omega);have:=apC w h1
 rwa [h2] at this
theorem awn (h:aa8 A c o s w):Calls ZP 198 #[.pointer (some ⟨A.Q,0,none⟩)] w fun e w'=>e=.returned (.int .i64 (s.q.length:Int))/\Below w.heap.size w w':=by
 obtain⟨first,Z,h1,h2,h3⟩:ahl A c s (fun k=>o k=5) (fun k=>o k=0) w:=h.part 5 (by omega);exact at6 w h1
theorem atx (h:aa8 A c o s w):Calls ZP 71 #[.pointer (some ⟨A.Q,0,none⟩)] w fun e w'=>e=.returned (.bool s.shut)/\Below w.heap.size w w':=by
 obtain⟨first,Z,h1,h2,h3⟩:ahl A c s (fun k=>o k=5) (fun k=>o k=0) w:=h.part 5 (by omega);exact am6 w h1
theorem auJ (h:aa8 A c o s w):Calls ZP 197 #[.pointer (some ⟨A.Q,0,none⟩)] w fun e w'=>(∃v,e=.returned v)/\aa3 A c o { s with shut:=true } w w':=by
 obtain⟨first,X,h1,h2,h3⟩:ahl A c s (fun k=>o k=5) (fun k=>o k=0) w:=h.part 5 (by omega);refine (aow w h1).mono ?_;rintro e w' ⟨rfl,I,Z⟩;refine⟨⟨_,rfl⟩,h.upG 5 (by omega) (by omega) Z ⟨first,X,I.wide fun _ _ N=>.inl N,h2,fun i b J=>?_⟩ (aar.congr 5)⟩;obtain⟨p,U,V⟩:=h3 i b J;exact⟨p,U,V.keep Z fun k _ H Y=>by rw [H] at Y;exact absurd Y (by decide)⟩
theorem aoE (h:aa8 A c o s w)(J:s.q=[]):Calls ZP 199 #[.pointer (some ⟨A.Q,0,none⟩)] w fun e w'=>e=.returned (.tuple #[.agg #[.int .i64 0,.int .i64 0,.int .i64 0,.slice none 0 0,.int .i64 0],.bool false])/\aa3 A c o s w w':=by
 obtain⟨first,X,h1,h2,h3⟩:ahl A c s (fun k=>o k=5) (fun k=>o k=0) w:=h.part 5 (by omega);refine (apd w h1 (by rw [J];rfl)).mono ?_;rintro e w' ⟨rfl,H,Z⟩;refine⟨rfl,h.upG 5 (by omega) (by omega) Z ⟨first,X,H.wide fun _ _ N=>.inl N,h2,fun i b I=>?_⟩ (aar.congr 5)⟩;obtain⟨p,U,V⟩:=h3 i b I;exact⟨p,U,V.keep Z fun k _ D Y=>by rw [D] at Y;exact absurd Y (by decide)⟩
theorem aoj (h:aa8 A c o s w)(b:aeG)(q:List aeG)(Y:s.q=b :: q):Calls ZP 199 #[.pointer (some ⟨A.Q,0,none⟩)] w fun e w'=>∃p:PcW,e=.returned (.tuple #[.agg #[.int .i64 p.num,.int .i64 p.start,.int .i64 p.warm,.slice p.a p.m p.c,.int .i64 p.buf],.bool true])/\PcD (fun k=>o k=0) w' p b/\aa3 A c o { s with q:=q } w w':=by
 obtain⟨first,v,h1,h2,h3⟩:ahl A c s (fun k=>o k=5) (fun k=>o k=0) w:=h.part 5 (by omega);have hr:=h1.room;have Z:s.q.length=q.length+1:=by rw [Y];rfl
 obtain⟨p,N,X⟩:=h3 0 b (by rw [Y];rfl);rw [ayc,Nat.mod_eq_of_lt (by omega)] at N;refine (aqB p w h1 (by omega) N).mono ?_;rintro e w' ⟨rfl,I,V⟩;have U:∀k,k<w.heap.size->o k=0->¬o k=5:=fun k _ x H=>by rw [x] at H;exact absurd H (by decide)
 refine⟨p,rfl,X.keep V U,h.upG 5 (by omega) (by omega) V ?_ (aar.congr 5)⟩;rw [Z,ayR,h2] at I;refine⟨_,_,I.wide fun _ _ z=>.inl z,by rw [axb];exact h2,fun i b' J=>?_⟩;have y:i<q.length:=(awR.1 J).1;obtain⟨D,B,C⟩:=h3 (i+1) b' (by rw [Y];exact J);refine⟨D,?_,C.keep V U⟩;rw [an9,ayF]
 · exact B
 ·
  have:=ahY (a:=first) (n:=c.Q) (i:=0) (j:=i+1) (by omega) (by omega) (by omega)
  rwa [ayc,Nat.mod_eq_of_lt (by omega)] at this
theorem awd (h:aa8 A c o s w)(b:aeG)(p:PcW)(a:Option Addr)(D:Nat)(hq:s.q.length<c.Q)(I:s.shut=false)(X:PcD (fun k=>o k=0) w p b)(x:SlK 5 w a 1 [.int .i64 p.num,.int .i64 p.start,.int .i64 p.warm,.slice p.a p.m p.c,.int .i64 p.buf]) :
  Calls ZP 196 #[.pointer (some ⟨A.Q,0,none⟩),.slice a 1 D] w fun e w'=>(∃v,e=.returned v)/\aa3 A c o { s with q:=s.q++[b] } w w':=by
 obtain⟨first,N,h1,h2,h3⟩:ahl A c s (fun k=>o k=5) (fun k=>o k=0) w:=h.part 5 (by omega);rw [I] at h1;refine (asz p a D w h1 (by omega) x).mono ?_;rintro e w' ⟨rfl,g1,U⟩;have J:∀k,k<w.heap.size->o k=0->¬o k=5:=fun k _ Y H=>by rw [Y] at H;exact absurd H (by decide)
 refine⟨⟨_,rfl⟩,h.upG 5 (by omega) (by omega) U ?_ (aar.congr 5)⟩;have Y:(s.q++[b]).length=s.q.length+1:=by simp
 refine⟨first,N.set ((first+s.q.length) % N.length) p,?_,by rw [axb];exact h2,fun i b' Z=>?_⟩
 · show abd _ _ _ _ (s.q++[b]).length s.shut _ _;rw [Y,I];exact g1.wide fun _ _ y=>.inl y
 ·
  have V:i<(s.q++[b]).length:=(awR.1 Z).1;have hr:=h1.room;rw [Y] at V;have Z:(s.q++[b])[i]?=some b':=Z
  by_cases j:i<s.q.length
  · rw [ax8 j] at Z;obtain⟨C,z,B⟩:=h3 i b' Z;refine⟨C,?_,B.keep U J⟩;rw [h2,ayF (fun e=>ahY (a:=first) (n:=c.Q) (by omega) (by omega) (by omega) e)];exact z
  ·
   have:i=s.q.length:=by omega
   subst this;rw [ayK] at Z
   cases awV Z
   refine⟨p,?_,X.keep U J⟩;rw [h2,ayE (by rw [h2];exact ay3 _ (by omega))]
/- The queue of hits. -/
theorem avw (h:aa8 A c o s w):Calls ZP 205 #[.pointer (some ⟨A.O,0,none⟩)] w fun e w'=>e=.returned (.int .i64 ((c.O-s.out.length:Nat):Int))/\Below w.heap.size w w':=by
 obtain⟨first,Z,h1,h2,h3⟩:ag2 A c s (fun k=>o k=7) w:=h.part 7 (by omega);have:=apD w h1
 rwa [h2] at this
theorem awe (h:aa8 A c o s w):Calls ZP 68 #[.pointer (some ⟨A.O,0,none⟩)] w fun e w'=>e=.returned (.int .i64 (s.out.length:Int))/\Below w.heap.size w w':=by
 obtain⟨first,Z,h1,h2,h3⟩:ag2 A c s (fun k=>o k=7) w:=h.part 7 (by omega);exact as8 w h1
theorem arA (h:aa8 A c o s w):Calls ZP 72 #[.pointer (some ⟨A.O,0,none⟩)] w fun e w'=>e=.returned (.bool s.ended)/\Below w.heap.size w w':=by
 obtain⟨first,Z,h1,h2,h3⟩:ag2 A c s (fun k=>o k=7) w:=h.part 7 (by omega);exact alT w h1
theorem au4 (h:aa8 A c o s w):Calls ZP 245 #[.pointer (some ⟨A.O,0,none⟩)] w fun e w'=>(∃v,e=.returned v)/\aa3 A c o { s with ended:=true } w w':=by
 obtain⟨first,Z,h1,h2,h3⟩:ag2 A c s (fun k=>o k=7) w:=h.part 7 (by omega);refine (anZ w h1).mono ?_;rintro e w' ⟨rfl,V,X⟩;exact⟨⟨_,rfl⟩,h.upG 7 (by omega) (by omega) X ⟨first,Z,V.wide fun _ _ Y=>.inl Y,h2,h3⟩ (aar.congr 7)⟩
theorem auI (h:aa8 A c o s w):Calls ZP 211 #[.pointer (some ⟨A.O,0,none⟩)] w fun e w'=>e=.returned (.int .i64 (s.out.length:Int))/\aa3 A c o { s with out:=[] } w w':=by
 obtain⟨first,U,h1,h2,h3⟩:ag2 A c s (fun k=>o k=7) w:=h.part 7 (by omega);refine (akb w h1).mono ?_;rintro e w' ⟨rfl,V,X⟩;exact⟨rfl,h.upG 7 (by omega) (by omega) X ⟨0,_,V.wide fun _ _ Z=>.inl Z,by rw [axC];exact h2,fun i b Y=>by cases Y⟩ (aar.congr 7)⟩
theorem avs (h:aa8 A c o s w):Calls ZP 208 #[.pointer (some ⟨A.O,0,none⟩)] w fun e w'=>∃v,e=.returned v/\adV w' w.heap.size v s.out/\Below w.heap.size w w':=by
 obtain⟨first,Y,h1,h2,h3⟩:ag2 A c s (fun k=>o k=7) w:=h.part 7 (by omega);have X:qlH Y first s.out.length=s.out:=by
  refine ayX fun i=>?_;unfold qlH;rw [axa]
  by_cases Z:i<s.out.length
  ·
   rw [axS Z,awW,h2,ay5,h3 i _ (ay4 Z),ay4 Z]
   rfl
  ·
   rw [az0 (by simp;omega),az0 (by omega)]
   rfl
 have:=ap0 w h1
 rwa [X] at this
theorem anF (h:aa8 A c o s w)(b:aam)(q:List aam)(Y:s.out=b :: q):Calls ZP 210 #[.pointer (some ⟨A.O,0,none⟩)] w fun e w'=>(∃v,e=.returned v)/\aa3 A c o { s with out:=q } w w':=by
 obtain⟨first,D,h1,h2,h3⟩:ag2 A c s (fun k=>o k=7) w:=h.part 7 (by omega);have C:=h1.room;have Z:s.out.length=q.length+1:=by rw [Y];rfl
 have X:=h3 0 b (by rw [Y];rfl);rw [ayc,Nat.mod_eq_of_lt (by omega)] at X;refine (aqR b w h1 (by omega) X).mono ?_;rintro e w' ⟨rfl,U,H⟩;refine⟨⟨_,rfl⟩,h.upG 7 (by omega) (by omega) H ?_ (aar.congr 7)⟩;rw [Z,ayR,h2] at U;refine⟨_,_,U.wide fun _ _ J=>.inl J,by rw [axb];exact h2,fun i b' V=>?_⟩;have I:i<q.length:=(awR.1 V).1;have N:=h3 (i+1) b' (by rw [Y];exact V);rw [an9,ayF]
 · exact N
 ·
  have:=ahY (a:=first) (n:=c.O) (i:=0) (j:=i+1) (by omega) (by omega) (by omega)
  rwa [ayc,Nat.mod_eq_of_lt (by omega)] at this
theorem aws (h:aa8 A c o s w)(b:aam)(a:Option Addr)(J:Nat)(y:s.out.length<c.O)(V:s.ended=false)(D:SlK 2 w a 1 [.int .i64 b.1,.int .i64 b.2]) :
  Calls ZP 206 #[.pointer (some ⟨A.O,0,none⟩),.slice a 1 J] w fun e w'=>(∃v,e=.returned v)/\aa3 A c o { s with out:=s.out++[b] } w w'/\Chg (fun k=>o k=7) w w':=by
 obtain⟨first,X,h1,h2,h3⟩:ag2 A c s (fun k=>o k=7) w:=h.part 7 (by omega);rw [V] at h1;refine (asc b a J w h1 (by omega) D).mono ?_;rintro e w' ⟨rfl,B,U⟩;refine⟨⟨_,rfl⟩,h.upG 7 (by omega) (by omega) U ?_ (aar.congr 7),U⟩;have N:(s.out++[b]).length=s.out.length+1:=by simp
 refine⟨first,X.set ((first+s.out.length) % X.length) b,?_,by rw [axb];exact h2,fun i b' Z=>?_⟩
 · show ab9 _ _ _ _ (s.out++[b]).length s.ended _ _;rw [N,V];exact B.wide fun _ _ H=>.inl H
 ·
  have Y:i<(s.out++[b]).length:=(awR.1 Z).1;have z:=h1.room;rw [N] at Y;have Z:(s.out++[b])[i]?=some b':=Z
  by_cases C:i<s.out.length
  · rw [ax8 C] at Z;have I:=h3 i b' Z;rw [h2,ayF (fun e=>ahY (a:=first) (n:=c.O) (by omega) (by omega) (by omega) e)];exact I
  ·
   have:i=s.out.length:=by omega
   subst this;rw [ayK] at Z
   cases awV Z
   rw [h2,ayE (by rw [h2];exact ay3 _ (by omega))]
/- The sink. -/
theorem avh (h:aa8 A c o s w)(b:aam)(ho:s.off<=1000000)(Y:s.tk.length<=1000000) :
  Calls ZP 209 #[.pointer (some ⟨A.Kk,0,none⟩),.agg #[.int .i64 b.1,.int .i64 b.2]] w fun e w'=>e=.returned (.bool (ag9 c.ans s.off))/\aa3 A c o { s with off:=s.off+1,tk:=if ag9 c.ans s.off then s.tk++[b] else s.tk } w w':=by
 obtain⟨a,n,U,N,h1⟩:aq2 A c s (fun k=>o k=3) w:=h.part 3 (by omega);refine (akZ b w h1 ho Y).mono ?_;rintro e w' ⟨rfl,⟨Z,V⟩,X⟩;exact⟨rfl,h.upG 3 (by omega) (by omega) X ⟨a,n,U,Z,V⟩ (aar.congr 3)⟩
/- The ring. -/
theorem avg (h:aa8 A c o s w):Calls ZP 66 #[.pointer (some ⟨A.G,0,none⟩)] w fun e w'=>e=.returned (.int .i64 (s.next:Int))/\w'=w:=by
 obtain⟨Z,h1,h2,_⟩:agp A c s (fun k=>o k=6) (fun k=>o k=0) w:=h.part 6 (by omega);exact aoY w h1
def apr (next:Nat)(rg:List (Option (List aam))):Nat->List Nat
 | 0=>[]
 | j+1=>apr next rg j++(match rg[j]? with | some (some _)=>[next+j] | _=>[])
theorem apT {Z:Nat->Prop}{V:World}{X:List PlW}{next n:Nat}{rg:List (Option (List aam))}(J:X.length=n)(U:rg.length=n)(h3:∀i x,rg[i]?=some x->∃p,X[(next+i) % n]?=some p/\RgD Z V p x):∀j,j<=n->aqW X next j=(apr next rg j).map fun x:Nat=>(x:Int)
 | 0,_=>rfl
 | j+1,hj=>by
  have I:=apT J U h3 j (by omega);unfold aqW apr;rw [ay7,I];congr 1;obtain⟨x,N⟩:∃x,rg[j]?=some x:=⟨_,ay4 (by omega)⟩;obtain⟨p,H,Y⟩:=h3 j x N;rw [J,ay5,H,N]
  cases x with
  | none=>
   have Y:p.2=false:=Y;simp [Y]
  | some l=>
   have Y:p.2=true:=Y.1;simp [Y]
theorem awh (h:aa8 A c o s w)(Z:s.next<=1000000000):Calls ZP 67 #[.pointer (some ⟨A.G,0,none⟩)] w fun e w'=>∃v,e=.returned v/\amY w' w.heap.size v ((apr s.next s.rg c.R).map fun x:Nat=>(x:Int))/\Below w.heap.size w w':=by
 obtain⟨Y,h1,h2,h0,h3⟩:agp A c s (fun k=>o k=6) (fun k=>o k=0) w:=h.part 6 (by omega);have:=aeH w h1 Z
 rwa [h2,apT h2 h0 h3 c.R (axe _)] at this
theorem aub (h:aa8 A c o s w)(Y:s.next<=1000000000):Calls ZP 207 #[.pointer (some ⟨A.G,0,none⟩)] w fun e w'=>(∃v,e=.returned v)/\aa3 A c o { s with rg:=List.replicate s.rg.length none } w w':=by
 obtain⟨N,h1,h2,h0,h3⟩:agp A c s (fun k=>o k=6) (fun k=>o k=0) w:=h.part 6 (by omega);refine (ajS w h1 Y).mono ?_;rintro e w' ⟨X,U,V⟩;refine⟨X,h.upG 6 (by omega) (by omega) V ⟨_,U.wide fun _ _ Y=>.inl Y,by rw [axC];exact h2,by show (List.replicate _ _).length=_;rw [axC];exact h0,fun i x Z=>?_⟩ (aar.congr 6)⟩;have Z:(List.replicate s.rg.length (none:Option (List aam)))[i]?=some x:=Z;rw [ayJ] at Z
 split at Z
 ·
  cases awV Z
  have J:=h1.room;refine⟨((none,0,0),false),?_,rfl⟩;rw [ayJ,if_pos (by rw [h2];exact ay3 _ (by omega))]
 · cases Z
theorem awj (h:aa8 A c o s w)(n m U:Nat)(a:Option Addr)(l:List aam)(hn:n<=1000000000)(N:s.next<=1000000000)(h1:s.next<=n)(h2:n-s.next<c.R)(hg:s.rg[n-s.next]?=some none)(hs:SlD (fun k=>o k=0) w a m l)(I:m<=U) :
  Calls ZP 201 #[.pointer (some ⟨A.G,0,none⟩),.int .i64 (n:Int),.slice a m U] w fun e w'=>(∃v,e=.returned v)/\aa3 A c o { s with rg:=s.rg.set (n-s.next) (some l) } w w':=by
 obtain⟨V,k1,X,k0,C⟩:agp A c s (fun k=>o k=6) (fun k=>o k=0) w:=h.part 6 (by omega);obtain⟨p,z,H⟩:=C _ _ hg;obtain⟨q0,b0⟩:=p;have H:b0=false:=H;subst H;rw [show s.next+(n-s.next)=n by omega] at z;refine (anM n m U a q0 w k1 hn N (by unfold al8;rw [X];simp;omega) (by rw [X];exact z)).mono ?_;rintro e w' ⟨rfl,f1,D⟩;have B:∀k,k<w.heap.size->o k=0->¬o k=6:=fun k _ e1 y=>by rw [e1] at y;exact absurd y (by decide)
 refine⟨⟨_,rfl⟩,h.upG 6 (by omega) (by omega) D ⟨_,f1.wide fun _ _ N=>.inl N,by rw [axb];exact X,by show (s.rg.set _ _).length=_;rw [axb];exact k0,fun i x Y=>?_⟩ (aar.congr 6)⟩;have Y:(s.rg.set (n-s.next) (some l))[i]?=some x:=Y;have J:i<s.rg.length:=by have:=(awR.1 Y).1;rwa [axb] at this
 by_cases Z:i=n-s.next
 ·
  subst Z;rw [ayE J] at Y
  cases awV Y
  refine⟨((a,m,U),true),?_,rfl,hs.keep D B,I⟩;show (V.set (n % V.length) _)[(s.next+(n-s.next)) % c.R]?=_;rw [show s.next+(n-s.next)=n by omega,X,ayE (by rw [X];exact ay3 _ (by omega))]
 ·
  rw [ayF (fun e=>Z e.symm)] at Y;obtain⟨p',j1,j2⟩:=C i x Y;refine⟨p',?_,j2.keep D B⟩;show (V.set (n % V.length) _)[(s.next+i) % c.R]?=_;rw [X,ayF]
  · exact j1
  ·
   have:=ahY (a:=s.next) (n:=c.R) (i:=n-s.next) (j:=i) (by omega) (by omega) (fun e=>Z e.symm)
   rwa [show s.next+(n-s.next)=n by omega] at this
theorem amp (h:aa8 A c o s w)(Z:s.next<=1000000000)(j:s.rg[0]?=some none) :
  Calls ZP 203 #[.pointer (some ⟨A.G,0,none⟩)] w fun e w'=>e=.returned (.tuple #[.slice none 0 0,.bool false])/\aa3 A c o s w w':=by
 obtain⟨H,C,V,k0,X⟩:agp A c s (fun k=>o k=6) (fun k=>o k=0) w:=h.part 6 (by omega);obtain⟨p,U,Y⟩:=X _ _ j;obtain⟨I,b0⟩:=p;have Y:b0=false:=Y;subst Y;rw [ayc] at U;refine (agO I false w C Z (by rw [V];exact U)).mono ?_;rintro e w' ⟨rfl,f1,N⟩;have y:∀k,k<w.heap.size->o k=0->¬o k=6:=fun k _ e1 J=>by rw [e1] at J;exact absurd J (by decide)
 refine⟨rfl,h.upG 6 (by omega) (by omega) N ⟨H,f1.wide fun _ _ Z=>.inl Z,V,k0,fun i x v=>?_⟩ (aar.congr 6)⟩;obtain⟨D,z,B⟩:=X i x v;exact⟨D,z,B.keep N y⟩
theorem alv (h:aa8 A c o s w)(N:s.next<=1000000000)(l:List aam)(r:List (Option (List aam)))(I:s.rg=some l :: r) :
  Calls ZP 203 #[.pointer (some ⟨A.G,0,none⟩)] w fun e w'=>∃a Y,e=.returned (.tuple #[.slice a l.length Y,.bool true])/\SlD (fun k=>o k=0) w' a l.length l/\l.length<=Y/\aa3 A c o { s with rg:=r++[none],next:=s.next+1 } w w':=by
 obtain⟨U,B,V,k0,C⟩:agp A c s (fun k=>o k=6) (fun k=>o k=0) w:=h.part 6 (by omega);obtain⟨p,v,X⟩:=C 0 (some l) (by rw [I];rfl);obtain⟨⟨a,m,Y⟩,b0⟩:=p;obtain⟨X,y,H⟩:=X;have H:m<=Y:=H;have X:b0=true:=X;subst X;have hm:l.length=m:=by
  have:=y.1.1;rw [abG] at this;have h2:l.length*2=m*2:=this;omega
 have hr:=B.room;have J:r.length+1=c.R:=by rw [I] at k0;exact k0
 rw [ayc] at v;refine (agO (a,m,Y) true w B N (by rw [V];exact v)).mono ?_;rintro e w' ⟨rfl,f1,D⟩;have z:∀k,k<w.heap.size->o k=0->¬o k=6:=fun k _ e1 e2=>by rw [e1] at e2;exact absurd e2 (by decide)
 rw [hm];refine⟨a,Y,rfl,y.keep D z,H,h.upG 6 (by omega) (by omega) D ⟨_,f1.wide fun _ _ N=>.inl N,by rw [if_pos rfl,axb];exact V,by show (r++[none]).length=_;rw [List.length_append];exact J,fun i x Z=>?_⟩ (aar.congr 6)⟩;have Z:(r++[none])[i]?=some x:=Z;have a1:i<r.length+1:=by have:=(awR.1 Z).1;simpa using this
 show ∃p,(if true=true then U.set (s.next % U.length) ((none,0,0),false) else U)[(s.next+1+i) % c.R]?=some p/\_;rw [if_pos rfl,V]
 by_cases hl:i<r.length
 ·
  rw [ax8 hl] at Z;obtain⟨p',j1,j2⟩:=C (i+1) x (by rw [I];exact Z);refine⟨p',?_,j2.keep D z⟩;rw [show s.next+1+i=s.next+(i+1) by omega,ayF]
  · exact j1
  ·
   have:=ahY (a:=s.next) (n:=c.R) (i:=0) (j:=i+1) (by omega) (by omega) (by omega)
   rwa [ayc] at this
 ·
  have:i=r.length:=by omega
  subst this;rw [ayK] at Z
  cases awV Z
  refine⟨((none,0,0),false),?_,rfl⟩;rw [show s.next+1+r.length=s.next+c.R by omega,Nat.add_mod_right,ayE (by rw [V];exact ay3 _ (by omega))]
end
theorem acU (T:Nat)(a l:Int)(w:World)(h:w.cell? ⟨T,1,none⟩=some (.int .u8 a))(h2:w.cell? ⟨T,2,none⟩=some (.int .u8 l)) :
  Calls ZP 319 #[.pointer (some ⟨T,0,none⟩)] w fun e w'=>e=.returned (.bool (decide (a=l)))/\Below w.heap.size w w':=by
 have Z:=ax3 (fun q=>aa2 w q);have Y:(a==l)=decide (a=l):=by rw [axq];simp
 go_enter func319,ntmps319;go_upto_region 1 with fail
 go_big_quiet (fail)
 go_wp2;go_ret;refine⟨?_,Z.out _⟩
 first | rfl | simp
theorem aiL (w:World):Calls ZP 141 #[] w fun e w'=>e=.returned (.bool true)/\w'=w:=by
 go_enter func141,ntmps141;go_wp2;go_ret;exact⟨rfl,rfl⟩
section
attribute [local go_sem] aaT
theorem anh {w:World}{r:Nat}{f:Nat->Option Value}(h:akJ w r f)(k:Nat)(v:Value)(Z:f k=some v) :
  Sem.run ZP (Instr.lookup 239 (.map (some r)) (.int .u8 (k:Int)) true) w=.ok (.tuple #[v,.bool true]) w:=by
 obtain⟨es,X,h1,h2⟩:=h;obtain⟨i,Y⟩:=h2 k v Z;simp [Instr.lookup,run_underlying underlying239,MapKept.run_getObj_map h1,MapKept.run_checkKey (k:=.int .u8 (k:Int)) underlying5 (by simp [MapKept.IsKey]),MapKept.run_findKey underlying5 Y,Result.andThen]
structure ag3 (P T:Nat)(at_ last mp:Nat)(cc cd:Value)(w:World):Prop where
 c0:w.cell? ⟨T,0,none⟩=some (.pointer (some ⟨P,0,none⟩))
 c1:w.cell? ⟨T,1,none⟩=some (.int .u8 (at_:Int))
 c2:w.cell? ⟨T,2,none⟩=some (.int .u8 (last:Int))
 c3:w.cell? ⟨T,3,none⟩=some (.map (some mp))
 c4:w.cell? ⟨T,4,none⟩=some cc
 c5:w.cell? ⟨T,5,none⟩=some cd
theorem ag3.below {P T at_ Z mp:Nat}{U V:Value}{w w':World}(h:ag3 P T at_ Z mp U V w)(N:Below w.heap.size w w'):ag3 P T at_ Z mp U V w':=by
 have Y:∀i v,w.cell? ⟨T,i,none⟩=some v->w'.cell? ⟨T,i,none⟩=some v:=fun i v X=>(N.cell (p:=⟨T,i,none⟩) (awQ w _ X)).trans X;exact⟨Y _ _ h.c0,Y _ _ h.c1,Y _ _ h.c2,Y _ _ h.c3,Y _ _ h.c4,Y _ _ h.c5⟩
theorem aen {fn:Func}{p u:Tmp}{tmps:Array Value}{W:World}{B:Nat}(h:fn.results=#[.cell p 241,.tmp u])(V:tmps.getD p undef=.pointer (some ⟨B,0,none⟩)){Y Z:Value}(N:W.heap[B]?=some (.cells #[Y,Z] 241 (0,0))) :
  (results fn tmps).run ZP W=.ok (.tuple #[.agg #[Y,Z],tmps.getD u undef]) W:=by
 have U:(loadVar 241 ⟨B,0,none⟩).run ZP W=.ok (.agg #[Y,Z]) W:=run_loadVar_row W B 241 241 #[Y,Z] (0,0) _ N underlying241 rfl (by kernel_rfl);have X:tmps[p]?.getD undef=.pointer (some ⟨B,0,none⟩):=by simpa using V
 simp [results,h,X,asAddr];rw [U];simp [Result.andThen]
def aox (n:Nat)(a b:Value)(w:World):Prop:=w.heap[n]?=some (.cells #[a,b] 241 (0,0))
theorem aox.cells {n:Nat}{a b:Value}{w:World}(h:aox n a b w):w.cell? ⟨n,0,none⟩=some a/\w.cell? ⟨n,1,none⟩=some b/\w.frozen? ⟨n,0,none⟩=false/\w.frozen? ⟨n,1,none⟩=false:=by
 have h:w.heap[n]?=some (.cells #[a,b] 241 (0,0)):=h;exact⟨by simp [World.cell?,h],by simp [World.cell?,h],by simp [World.frozen?,h],by simp [World.frozen?,h]⟩
theorem aox.put {n:Nat}{a b:Value}{w:World}(h:aox n a b w)(x y:Value):aox n x y ((w.setCell ⟨n,0,none⟩ x).setCell ⟨n,1,none⟩ y):=aa4 (i:=1) (aa4 (i:=0) h x) y
theorem aox.below {n:Nat}{a b:Value}{w w':World}(h:aox n a b w)(Z:Below w.heap.size w w'):aox n a b w':=(Z.block n (awU.1 h).1).trans h
theorem adW (w:World)(a b:Value):aox w.heap.size a b (w.alloc (.cells #[a,b] 241)):=axg _ _
theorem agy {P T at_ X mp:Nat}{sc sd:Value}{cn:Bool}{f:Nat->Option Value}{N U:Nat}{bc J:Array Value}(w:World)(hT:ag3 P T at_ X mp sc sd w)(hP:w.cell? ⟨P,19,none⟩=some (.bool cn))(hl:at_≠X)(hm:akJ w mp f)(hf:cn=false->f at_=some (.agg #[(.func (.func N) bc #[]),(.func (.func U) J #[])]))(hs:cn=true->sc=(.func (.func N) bc #[])/\sd=(.func (.func U) J #[])) :
  Calls ZP 323 #[.pointer (some ⟨T,0,none⟩)] w fun e w'=>e=.returned (.tuple #[.agg #[(.func (.func N) bc #[]),(.func (.func U) J #[])],.bool true])/\Below w.heap.size w w':=by
 obtain⟨W,hW⟩:∃W,W=w.alloc (.cells #[Value.nilFunc,Value.nilFunc] 241):=⟨_,rfl⟩;have hB:Below w.heap.size w W:=by rw [hW];exact aa1 _ _
 have hx:aox w.heap.size .nilFunc .nilFunc W:=by rw [hW];exact adW _ _ _
 have a2:=acU T at_ X W (hT.below hB).c1 (hT.below hB).c2;have e0:decide ((at_:Int)=(X:Int))=false:=by simp;omega
 rw [e0] at a2;have HO:=ax3 a2;have HB:=ax3 hB;have HX:=ax3 hx;have HT:=ax3 hT;have HP:=ax3 hP;have HM:=ax3 hm;have HF:=ax3 hf;have HS:=ax3 hs;clear hm hT hP hB hx a2 e0 hl hf hs;go_enter func323,ntmps323;go_upto_region 1 with fail
 rw [<-hW];clear hW;go_upto_region 3 with (go_at_call 319;refine HO.out.mono ?_;rintro e Z ⟨rfl,a1⟩)
 have z:Below w.heap.size w Z:=HB.out.trans (a1.mono HB.out.size);have ab:=HT.out.below z;obtain⟨c0,c1,c2,c3,c4,c5⟩:=ab;have j:=HX.out.below a1;obtain⟨x0,x1,u0,u1⟩:=j.cells;have cP:Z.cell? ⟨P,19,none⟩=some (.bool cn):=(z.cell (p:=⟨P,19,none⟩) (awQ w _ HP.out)).trans HP.out;have I:=ax3 z;have a8:=ax3 j;clear a1 z j
 cases cn with
 | true=>
  obtain⟨rfl,rfl⟩:=HS.out rfl;have HR:=ax3 (a8.out.put (.func (.func N) bc #[]) (.func (.func U) J #[]));have y:Hid (Below w.heap.size w ((Z.setCell ⟨w.heap.size,0,none⟩ (.func (.func N) bc #[])).setCell ⟨w.heap.size,1,none⟩ (.func (.func U) J #[]))):=(I.out.setCell (axe _) _).setCell (axe _) _;go_wp2;refine bodyPost_ret (aen (B:=w.heap.size) rfl rfl HR.out) rfl ?_;exact⟨rfl,y.out⟩
 | false=>
  have aa:=anh (HM.out) at_ _ (HF.out rfl);have ac:Hid (∀V,Below Z.heap.size Z V->akJ V mp f):=fun V H=>HM.out.keep (Y:=fun _=>False) (.of_same (I.out.trans (H.mono I.out.size))) fun h=>h;have ad:=ax3 (HF.out rfl);have hk:Hid (∀V,Below Z.heap.size Z V->V.cell? ⟨T,3,none⟩=some (.map (some mp))/\V.cell? ⟨T,1,none⟩=some (.int .u8 (at_:Int))):=fun V H=>⟨(H.cell (p:=⟨T,3,none⟩) (awQ Z _ c3)).trans c3,(H.cell (p:=⟨T,1,none⟩) (awQ Z _ c1)).trans c1⟩;clear aa;go_upto_region 5 with fail
  obtain⟨D,hD⟩:∃D,D=Z.drew:=⟨_,rfl⟩;have A:Below Z.heap.size Z D:=by rw [hD];exact aa2 Z 1
  have s:=adW D Value.nilFunc Value.nilFunc;obtain⟨y0,y1,z0,z1⟩:=s.cells;have x:=adW D (Value.func (.func N) bc #[]) (Value.func (.func U) J #[]);obtain⟨p0,p1,_,_⟩:=x.cells;have a6:Below Z.heap.size Z (D.alloc (.cells #[Value.nilFunc,Value.nilFunc] 241)):=A.alloc A.size _;have C:Below Z.heap.size Z (D.alloc (.cells #[Value.func (.func N) bc #[],Value.func (.func U) J #[]] 241)):=A.alloc A.size _;have o:=a8.out.below C;obtain⟨q0,q1,v0,v1⟩:=o.cells;have HR:=ax3 (o.put (.func (.func N) bc #[]) (.func (.func U) J #[]));have y:Hid (Below w.heap.size w ((D.alloc (.cells #[Value.func (.func N) bc #[],Value.func (.func U) J #[]] 241)).setCell ⟨w.heap.size,0,none⟩ (.func (.func N) bc #[]) |>.setCell ⟨w.heap.size,1,none⟩ (.func (.func U) J #[]))):=((I.out.trans (C.mono I.out.size)).setCell (axe _) _).setCell (axe _) _;have af:=ax3 a6;have ae:=ax3 C;clear s x a6 C o;refine wp_region_noPanic ?_;refine wp_region_held_drew (S:=fun V=>Below Z.heap.size Z V) (by kernel_rfl) (aa2 Z 1) (fun hHeld=>?_);rw [<-hD] at hHeld ⊢;clear hD;refine tkA 0 ?_;refine tkA 1 ?_;refine tkA 2 ?_;refine tkW 3 (v:=?_) ?_ ?_;rotate_left
  ·
   intro V H;have q9:=(hk.out V H).1
   first | (go_simp;done) | (go_simp;with_reducible rfl)
  try simp only [Act.put,pA,pB,pC]
  refine tkA 4 ?_;refine tkA 5 ?_;refine tkA 6 ?_;refine tkW 7 (v:=?_) ?_ ?_;rotate_left
  ·
   intro V H;have q9:=(hk.out V H).2
   first | (go_simp;done) | (go_simp;with_reducible rfl)
  try simp only [Act.put,pA,pB,pC]
  refine tkW 8 (v:=?_) ?_ ?_;rotate_left
  ·
   intro V H;have q9:=anh (ac.out V H) at_ _ ad.out
   first | (go_simp;done) | (go_simp;with_reducible rfl)
  try simp only [Act.put,pA,pB,pC]
  refine tkA 9 ?_;refine tkA 10 ?_;refine tkA 11 ?_;refine rdy 12 (fun K hK=>?_);go_simp;refine hK.out _ _ af.out (fun ah=>?_);clear hK K
  try simp only [Act.put,pA,pB,pC]
  refine rdy 13 (fun K hK=>?_);go_simp;refine hK.out _ _ ae.out (fun ag=>?_);clear hK K
  try simp only [Act.put,pA,pB,pC]
  refine tkA 14 ?_;refine wpAnyH_done (by kernel_rfl) ?_ _;refine ax4 ?_;obtain⟨V2,a7⟩:∃V,V=(D.alloc (.cells #[Value.func (.func N) bc #[],Value.func (.func U) J #[]] 241)):=⟨_,rfl⟩;rw [<-a7] at p0 p1 q0 q1 v0 v1 HR y ⊢;clear a7 y0 y1 z0 z1;go_wp2;refine bodyPost_ret (aen (B:=w.heap.size) rfl rfl HR.out) rfl ?_;exact⟨rfl,y.out⟩
end
section
attribute [local go_sem] aaT
theorem ak7 {T X J:Nat}{bc I:Array Value}{b:Bool}(w:World)(A:Calls ZP 323 #[.pointer (some ⟨T,0,none⟩)] w fun e w'=>e=.returned (.tuple #[.agg #[.func (.func X) bc #[],.func (.func J) I #[]],.bool true])/\Below w.heap.size w w')
  (j:∀args w,(callFunc X args).run ZP w=.ok (.enter X args) w) (z:∀V,Below w.heap.size w V->Calls ZP X bc V fun e w'=>e=.returned (.bool b)/\Below V.heap.size V w') :
  Calls ZP 321 #[.pointer (some ⟨T,0,none⟩)] w fun e w'=>e=.returned (.bool b)/\Below w.heap.size w w':=by
 have y:=ax3 A;have x:=ax3 z;clear A z;go_enter func321,ntmps321;go_upto_region 2 with (go_at_call 323;refine y.out.mono ?_;rintro e C ⟨rfl,Y⟩)
 obtain⟨W,hW⟩:∃W,W=C.alloc (.cells #[Value.func (.func X) bc #[],Value.func (.func J) I #[]] 241):=⟨_,rfl⟩;have Z:Below w.heap.size w W:=by rw [hW];exact Y.alloc Y.size _
 have B:aox C.heap.size (.func (.func X) bc #[]) (.func (.func J) I #[]) W:=by rw [hW];exact adW _ _ _
 obtain⟨s,v,_,_⟩:=B.cells;have H:=ax3 (x.out W Z);have N:=ax3 Z;rw [<-hW];clear hW Y Z B
 go_wp2_with fail
 refine H.out.mono ?_;rintro e o ⟨rfl,U⟩;have D:=ax3 (N.out.trans (U.mono N.out.size));clear U;go_wp2;go_ret;exact⟨rfl,D.out⟩
theorem amr {T N X:Nat}{bc U:Array Value}{Q:World->Prop}(w:World)(C:Calls ZP 323 #[.pointer (some ⟨T,0,none⟩)] w fun e w'=>e=.returned (.tuple #[.agg #[.func (.func N) bc #[],.func (.func X) U #[]],.bool true])/\Below w.heap.size w w')
  (j:∀args w,(callFunc X args).run ZP w=.ok (.enter X args) w) (B:∀V,Below w.heap.size w V->Calls ZP X U V fun e w'=>e=.returned (.tuple #[])/\Q w') :
  Calls ZP 322 #[.pointer (some ⟨T,0,none⟩)] w fun e w'=>e=.returned (.tuple #[])/\Q w':=by
 have z:=ax3 C;have y:=ax3 B;clear C B;go_enter func322,ntmps322;go_upto_region 2 with (go_at_call 323;refine z.out.mono ?_;rintro e I ⟨rfl,Y⟩)
 obtain⟨W,hW⟩:∃W,W=I.alloc (.cells #[Value.func (.func N) bc #[],Value.func (.func X) U #[]] 241):=⟨_,rfl⟩;have Z:Below w.heap.size w W:=by rw [hW];exact Y.alloc Y.size _
 have H:aox I.heap.size (.func (.func N) bc #[]) (.func (.func X) U #[]) W:=by rw [hW];exact adW _ _ _
 obtain⟨s,v,_,_⟩:=H.cells;have J:=ax3 (y.out W Z);have x:=ax3 Z;rw [<-hW];clear hW Y Z H
 go_wp2_with fail
 refine J.out.mono ?_;rintro e o ⟨rfl,D⟩;have A:=ax3 D;clear D;go_wp2
 go_end0
 exact⟨rfl,A.out⟩
end
section
variable {A:PAd}{c:CfM}{s:PlM}{o:Nat->Nat}{w:World}
theorem aa8.cW (h:aa8 A c o s w){i:Nat}{x:WkM}(Y:s.wk[i]?=some x)(X:i<900):∃p Z,w.heap[A.Wk i]?=some (.cells (wkV A i x p Z) 249 (0,0))/\PcD (fun k=>o k=0) w p x.blk/\afd (fun k=>o k=i+11∨o k=0) w 116 2 Z x.hits.length (aad x.hits):=by
 have h0:abH A s (fun k=>o k=i+11) (fun k=>o k=0) w i:=h.part (i+11) (by omega);unfold abH at h0;rw [Y] at h0;obtain⟨p,Z,h1,h2,h3,h4,h5,h6⟩:=h0;exact⟨p,Z,h1,h3,h4⟩
theorem aa8.cM (h:aa8 A c o s w):∃a m Z,w.heap[A.M]?=some (.cells (mgV A s.mph (.slice a m Z)) 251 (0,0))/\SlD (fun k=>o k=0) w a m s.left/\m<=Z:=let ⟨a,m,Z,h1,_,h3,h4⟩:=h.part 9 (by omega);⟨a,m,Z,h1,h3,h4⟩
theorem aa8.cE (h:aa8 A c o s w):w.heap[A.E]?=some (.cells (emV A s.eph) 253 (0,0)):=(h.part 10 (by omega)).1
theorem aa8.bel (h:aa8 A c o s w){w':World}(Z:Below w.heap.size w w'):aa8 A c (alp o w.heap.size w'.heap.size 0) s w':=h.grow 0 (by omega) Z
end
theorem ahA {A:PAd}{c:CfM}{s:PlM}{o:Nat->Nat}(w:World)(h:aa8 A c o s w)(U:s.number<=1000000000)(V:s.next<=1000000000) :
  Calls ZP 139 #[.pointer (some ⟨A.R,0,none⟩)] w fun e w'=>e=.returned (.bool (al8 s.next c.R s.number))/\Below w.heap.size w w':=by
 obtain⟨C,X⟩:=h.cP;obtain⟨B,N,_⟩:=h.cR;have D:∀d os,Calls ZP 189 #[.pointer (some ⟨A.G,0,none⟩),.int .i64 (s.number:Int)] (grow (redrawn w d) os) fun e w'=>e=.returned (.bool (al8 s.next c.R s.number))/\RowKit.Below (grow (redrawn w d) os).heap.size (grow (redrawn w d) os) w':=fun d os=>awL (h.bel (below_regrown w d os)) s.number U V;have k0:∀d os,(grow (redrawn w d) os).cell? ⟨A.R,0,none⟩=some (.pointer (some ⟨A.P,0,none⟩)):=cell_regrown (by simp [World.cell?,N,rdV,al9]);have I:∀d os,(grow (redrawn w d) os).cell? ⟨A.P,13,none⟩=some (.pointer (some ⟨A.G,0,none⟩)):=cell_regrown (by simp [World.cell?,X,adz]);have J:∀d os,(grow (redrawn w d) os).cell? ⟨A.P,16,none⟩=some (.int .i64 (s.number:Int)):=cell_regrown (by simp [World.cell?,X,adz]);clear h X N U V;go_enter func139,ntmps139;go_upto_region 1 with fail
 refine wp_region_quiet_below mixed (by kernel_rfl) ?_
 repeat (go_big_quiet_step (exact aax (D _ _)))
 refine wpQuiet_nil ?_;rintro _ ⟨⟨H,Z⟩,rfl⟩;have Y:=ax3 (below_regrown w H Z);go_wp2;go_ret;exact⟨rfl,Y.out⟩
theorem alD {A:PAd}{c:CfM}{s:PlM}{o:Nat->Nat}(w:World)(h:aa8 A c o s w) :
  Calls ZP 143 #[.pointer (some ⟨A.R,0,none⟩)] w fun e w'=>e=.returned (.bool (decide (s.q.length<c.Q)))/\Below w.heap.size w w':=by
 obtain⟨D,V⟩:=h.cP;obtain⟨C,X,_⟩:=h.cR;have N:=ax3 (avL h);have k0:w.cell? ⟨A.R,0,none⟩=some (.pointer (some ⟨A.P,0,none⟩)):=by simp [World.cell?,X,rdV,al9]
 have J:w.cell? ⟨A.P,12,none⟩=some (.pointer (some ⟨A.Q,0,none⟩)):=by simp [World.cell?,V,adz]
 have U:decide (s.q.length<c.Q)=decide (((c.Q-s.q.length:Nat):Int) > 0):=by rw [axq];simp;omega
 rw [U];obtain⟨m,Z⟩:∃m,c.Q-s.q.length=m:=⟨_,rfl⟩;rw [Z] at N ⊢;clear h V X U Z;go_enter func143,ntmps143
 go_wp2_with (go_at_call 194;refine N.out.mono ?_;rintro e H ⟨rfl,Y⟩;have I:=ax3 Y;clear Y)
 go_ret;refine⟨?_,I.out⟩
 first | rfl | (simp;done)
theorem aed {A:PAd}{c:CfM}{s:PlM}{o:Nat->Nat}{i:Nat}{x:WkM}(w:World)(h:aa8 A c o s w)(y:s.wk[i]?=some x)(hi:i<900) :
  Calls ZP 147 #[.pointer (some ⟨A.Wk i,0,none⟩)] w fun e w'=>e=.returned (.bool (acl s))/\Below w.heap.size w w':=by
 obtain⟨tv,D⟩:=h.cP;obtain⟨p,hv,hW,_⟩:=h.cW y hi;obtain⟨T,v⟩:∃T,A.Wk i=T:=⟨_,rfl⟩;rw [v] at hW ⊢;have C:=ax3 (awn h);have HC:Hid (∀V,Below w.heap.size w V->Calls ZP 71 #[.pointer (some ⟨A.Q,0,none⟩)] V fun e w'=>e=.returned (.bool s.shut)/\Below V.heap.size V w'):=fun V H=>atx (h.bel H);have I:∀V,Below w.heap.size w V->V.cell? ⟨T,0,none⟩=some (.pointer (some ⟨A.P,0,none⟩))/\V.cell? ⟨A.P,12,none⟩=some (.pointer (some ⟨A.Q,0,none⟩)):=fun V H=>by
  have X:=(H.block T (awU.1 hW).1).trans hW;have U:=(H.block A.P (awU.1 D).1).trans D;exact⟨by simp [World.cell?,X,wkV,al9],by simp [World.cell?,U,adz]⟩
 obtain⟨k0,a1⟩:=I w (axf _ _);have HK:=ax3 I
 cases Y:s.q with
 | nil=>
  have X:acl s=s.shut:=by unfold acl;rw [Y];rfl
  have U:s.q.length=0:=by rw [Y];rfl
  rw [X];rw [U] at C;obtain⟨b,Z⟩:∃b,s.shut=b:=⟨_,rfl⟩;rw [Z] at HC ⊢;clear h D hW X U Z Y I v y;go_enter func147,ntmps147
  go_wp2_with (first | (go_at_call 198;refine C.out.mono ?_;rintro e B ⟨rfl,Z⟩;have J:=ax3 Z;obtain⟨j0,z⟩:=HK.out B Z;clear Z) | (go_at_call 71;refine (HC.out _ J.out).mono ?_;rintro e w2 ⟨rfl,N⟩;have j:=ax3 N;clear N))
  go_ret;exact⟨rfl,J.out.trans (j.out.mono J.out.size)⟩
 | cons b q=>
  have X:acl s=true:=by unfold acl;rw [Y];rfl
  have U:decide ((s.q.length:Int) > 0)=true:=by rw [Y];simp
  have e3:decide (0<s.q.length)=true:=by rw [Y];simp
  rw [X];obtain⟨m,hm⟩:∃m,s.q.length=m:=⟨_,rfl⟩;rw [hm] at C U e3;clear h D hW X hm Y I v y;go_enter func147,ntmps147
  go_wp2_with (first | (go_at_call 198;refine C.out.mono ?_;rintro e B ⟨rfl,Z⟩;have J:=ax3 Z;obtain⟨j0,z⟩:=HK.out B Z;clear Z))
  go_ret;exact⟨rfl,J.out⟩
theorem al7 {A:PAd}{c:CfM}{s:PlM}{o:Nat->Nat}{i:Nat}{x:WkM}(w:World)(h:aa8 A c o s w)(Y:s.wk[i]?=some x)(J:i<900) :
  Calls ZP 151 #[.pointer (some ⟨A.Wk i,0,none⟩)] w fun e w'=>e=.returned (.bool (if x.ph=1 then acl s else true))/\Below w.heap.size w w':=by
 have V:=ax3 (aed w h Y J);obtain⟨p,y,hW,_⟩:=h.cW Y J;obtain⟨T,X⟩:∃T,A.Wk i=T:=⟨_,rfl⟩;rw [X] at hW V ⊢;have U:w.cell? ⟨T,1,none⟩=some (.int .u8 (x.ph:Int)):=by simp [World.cell?,hW,wkV,al9]
 by_cases h1:x.ph=1
 ·
  rw [if_pos h1];rw [h1] at U;obtain⟨b,Z⟩:∃b,acl s=b:=⟨_,rfl⟩;rw [Z] at V ⊢;clear h hW Z X Y h1;go_enter func151,ntmps151
  go_wp2_with (go_at_call 147;refine V.out.mono ?_;rintro e z ⟨rfl,Z⟩;have B:=ax3 Z;clear Z)
  go_ret;exact⟨rfl,B.out⟩
 ·
  rw [if_neg h1];have C:((x.ph:Int) != 1)=true:=by simp;omega
  have D:decide ((x.ph:Int)≠1)=true:=by simp;omega
  have H:((x.ph:Int)==1)=false:=by simp;omega
  have I:decide ((x.ph:Int)=1)=false:=by simp;omega
  obtain⟨m,N⟩:∃m,x.ph=m:=⟨_,rfl⟩;rw [N] at U C D H I;clear h hW X Y h1 N;go_enter func151,ntmps151;go_wp2;go_ret;exact⟨rfl,axf _ _⟩
theorem al2 {A:PAd}{c:CfM}{s:PlM}{o:Nat->Nat}(w:World)(h:aa8 A c o s w) :
  Calls ZP 155 #[.pointer (some ⟨A.M,0,none⟩)] w fun e w'=>e=.returned (.bool (decide (s.out.length<c.O)))/\Below w.heap.size w w':=by
 obtain⟨D,V⟩:=h.cP;obtain⟨a0,C,c0,X,_⟩:=h.cM;have N:=ax3 (avw h);have k0:w.cell? ⟨A.M,0,none⟩=some (.pointer (some ⟨A.P,0,none⟩)):=by simp [World.cell?,X,mgV,al9]
 have J:w.cell? ⟨A.P,14,none⟩=some (.pointer (some ⟨A.O,0,none⟩)):=by simp [World.cell?,V,adz]
 have U:decide (s.out.length<c.O)=decide (((c.O-s.out.length:Nat):Int) > 0):=by rw [axq];simp;omega
 rw [U];obtain⟨m,Z⟩:∃m,c.O-s.out.length=m:=⟨_,rfl⟩;rw [Z] at N ⊢;clear h V X U Z;go_enter func155,ntmps155
 go_wp2_with (go_at_call 205;refine N.out.mono ?_;rintro e H ⟨rfl,Y⟩;have I:=ax3 Y;clear Y)
 go_ret;refine⟨?_,I.out⟩
 first | rfl | (simp;done)
theorem aeg {A:PAd}{c:CfM}{s:PlM}{o:Nat->Nat}(w:World)(h:aa8 A c o s w) :
  Calls ZP 158 #[.pointer (some ⟨A.E,0,none⟩)] w fun e w'=>e=.returned (.bool (aex s))/\Below w.heap.size w w':=by
 obtain⟨tv,D⟩:=h.cP;have hW:=h.cE;obtain⟨T,y⟩:∃T,A.E=T:=⟨_,rfl⟩;rw [y] at hW ⊢;have C:=ax3 (awe h);have HC:Hid (∀V,Below w.heap.size w V->Calls ZP 72 #[.pointer (some ⟨A.O,0,none⟩)] V fun e w'=>e=.returned (.bool s.ended)/\Below V.heap.size V w'):=fun V H=>arA (h.bel H);have I:∀V,Below w.heap.size w V->V.cell? ⟨T,0,none⟩=some (.pointer (some ⟨A.P,0,none⟩))/\V.cell? ⟨A.P,14,none⟩=some (.pointer (some ⟨A.O,0,none⟩)):=fun V H=>by
  have X:=(H.block T (awU.1 hW).1).trans hW;have U:=(H.block A.P (awU.1 D).1).trans D;exact⟨by simp [World.cell?,X,emV,al9],by simp [World.cell?,U,adz]⟩
 obtain⟨k0,a1⟩:=I w (axf _ _);have j:=ax3 I
 cases Y:s.out with
 | nil=>
  have X:aex s=s.ended:=by unfold aex;rw [Y];rfl
  have U:s.out.length=0:=by rw [Y];rfl
  rw [X];rw [U] at C;obtain⟨b,Z⟩:∃b,s.ended=b:=⟨_,rfl⟩;rw [Z] at HC ⊢;clear h D hW X U Z Y I y;go_enter func158,ntmps158
  go_wp2_with (first | (go_at_call 68;refine C.out.mono ?_;rintro e B ⟨rfl,Z⟩;have J:=ax3 Z;obtain⟨j0,z⟩:=j.out B Z;clear Z) | (go_at_call 72;refine (HC.out _ J.out).mono ?_;rintro e w2 ⟨rfl,N⟩;have x:=ax3 N;clear N))
  go_ret;exact⟨rfl,J.out.trans (x.out.mono J.out.size)⟩
 | cons b q=>
  have X:aex s=true:=by unfold aex;rw [Y];rfl
  have U:decide ((s.out.length:Int) > 0)=true:=by rw [Y];simp
  have e3:decide (0<s.out.length)=true:=by rw [Y];simp
  rw [X];obtain⟨m,v⟩:∃m,s.out.length=m:=⟨_,rfl⟩;rw [v] at C U e3;clear h D hW X v Y I y;go_enter func158,ntmps158
  go_wp2_with (first | (go_at_call 68;refine C.out.mono ?_;rintro e B ⟨rfl,Z⟩;have J:=ax3 Z;obtain⟨j0,z⟩:=j.out B Z;clear Z))
  go_ret;exact⟨rfl,J.out⟩
theorem agP {A:PAd}{c:CfM}{s:PlM}{o:Nat->Nat}(w W:World)(h:aa3 A c o s w W)(J:s.fr.length<=100000) :
  Calls ZP 193 #[.pointer (some ⟨A.R,0,none⟩)] W fun e w'=>e=.returned (.tuple #[])/\aa3 A c o (backR s) w w':=by
 obtain⟨I,Z⟩:∃b,s.rd.buf=b:=⟨_,rfl⟩;have k0:=h.ceR 0 (.pointer (some ⟨A.P,0,none⟩)) fun _=>rfl;have H:=h.ceR 7 (.int .i64 (I:Int)) fun _=>by rw [<-Z];rfl
 have X:=h.ceP 11 (.pointer (some ⟨A.Bb,0,none⟩)) fun _=>rfl;have N:=ax3 Z;have C:=ax3 h;have D:=ax3 J;clear h Z J;go_enter func193,ntmps193;go_upto_region 0 with fail
 refine aak 12 mixed (by kernel_rfl) ?_;dsimp only [List.take_succ_cons,List.take_zero,List.drop_succ_cons,List.drop_zero]
 repeat (go_big_quiet_step (fail))
 refine wpQuiet_nil ?_;rintro _ ⟨nq,rfl⟩;have U:=ax3 (C.out.bel (aa2 W nq));clear k0 H X
 go_wp2_with fail
 refine (U.out.lift fun y h1 B=>avo h1 I D.out).mono ?_;rintro e z ⟨⟨v,rfl⟩,Y⟩;have k0:=Y.frR 6;have x:=Y.ceR 6 (.bool s.rd.holds) fun _=>rfl;have V:=ax3 (Y.setR 6 (.bool false) { s.rd with holds:=false } (fun _=>rfl) rfl);clear Y;go_wp2
 go_end0
 refine⟨rfl,?_⟩;have:=V.out;rw [<-N.out] at this;exact this
theorem aep {A:PAd}{c:CfM}{s:PlM}{o:Nat->Nat}(w W:World)(h:aa3 A c o s w W) :
  Calls ZP 145 #[.pointer (some ⟨A.R,0,none⟩)] W fun e w'=>e=.returned (.tuple #[])/\aa3 A c o (shutR s) w w':=by
 have k0:=h.ceR 0 (.pointer (some ⟨A.P,0,none⟩)) fun _=>rfl;have Y:=h.ceP 12 (.pointer (some ⟨A.Q,0,none⟩)) fun _=>rfl;have V:=ax3 h;clear h;go_enter func145,ntmps145;go_upto_region 1 with (go_at_call 197;refine (V.out.lift fun J h1 U=>auJ h1).mono ?_;rintro e N ⟨⟨v,rfl⟩,Z⟩)
 have H:=Z.frR 1;have I:=Z.ceR 1 (.int .u8 (s.rd.ph:Int)) fun _=>rfl;have X:=ax3 (Z.setR 1 (.int .u8 5) { s.rd with ph:=5 } (fun _=>rfl) rfl);clear Z k0 Y;go_wp2
 go_end0
 exact⟨rfl,X.out⟩
theorem am9 {A:PAd}{c:CfM}{s:PlM}{o:Nat->Nat}(w W:World)(h:aa3 A c o s w W)(U:s.fr.length<=100000) :
  Calls ZP 146 #[.pointer (some ⟨A.R,0,none⟩)] W fun e w'=>e=.returned (.tuple #[])/\aa3 A c o (stopR s) w w':=by
 have N:=ax3 h;have H:=ax3 U;unfold stopR
 cases V:s.rd.holds with
 | true=>
  have k0:=h.ceR 6 (.bool true) fun _=>by rw [<-V];rfl
  rw [if_pos rfl];clear h U V;go_enter func146,ntmps146;go_upto_region 2 with (go_at_call 193;refine (agP w W N.out H.out).mono ?_;rintro e I ⟨rfl,Z⟩)
  have X:=ax3 (aep w I Z);clear Z k0
  go_wp2_with (go_at_call 145;refine X.out.mono ?_;rintro e J ⟨rfl,Z⟩;have Y:=ax3 Z;clear Z)
  go_end0
  exact⟨rfl,Y.out⟩
 | false=>
  have k0:=h.ceR 6 (.bool false) fun _=>by rw [<-V];rfl
  rw [if_neg (by simp)];clear h U V;have X:=ax3 (aep w W N.out);go_enter func146,ntmps146
  go_wp2_with (go_at_call 145;refine X.out.mono ?_;rintro e J ⟨rfl,Z⟩;have Y:=ax3 Z;clear Z)
  go_end0
  exact⟨rfl,Y.out⟩
theorem amo {A:PAd}{c:CfM}{s:PlM}{o:Nat->Nat}(w W:World)(h:aa3 A c o s w W)(n:Nat)(l:List Nat)(hf:s.fr=l++[n])(hl:s.fr.length<=100000)(hr:∀x∈s.fr,x<s.us.length)(hd:s.ds.length=s.us.length)(ht:s.rd.tail.length<=c.K+c.wm)(a6:c.K+c.wm<=100000) :
  Calls ZP 140 #[.pointer (some ⟨A.R,0,none⟩)] W fun e w'=>e=.returned (.tuple #[])/\aa3 A c o (takeR s) w w':=by
 have k0:=h.ceR 0 (.pointer (some ⟨A.P,0,none⟩)) fun _=>rfl;have ag:=h.ceP 11 (.pointer (some ⟨A.Bb,0,none⟩)) fun _=>rfl;have a7:n<s.us.length:=hr n (by rw [hf];simp);have e1:s.fr.getLast?.getD 0=n:=by rw [hf];simp
 have e2:s.fr.dropLast=l:=by rw [hf];simp
 have e3:(s.us.set n true)[n]?=some true:=by rw [ayE a7]
 have e4:(s.ds.set n [])[n]?=some []:=by rw [ayE (by omega)]
 have ah:=h.neRP;have HE:=ax3 (And.intro (And.intro e1 e2) (And.intro e3 e4));have HH:=ax3 (And.intro hf (And.intro hl hr));have HG:=ax3 h;have HL:=ax3 (And.intro ht a6);clear h hf hl hr hd ht a6 a7 e1 e2 e3 e4;go_enter func140,ntmps140;go_upto_region 2 with (go_at_call 190;refine (HG.out.lift fun o1 h1 z1=>awq h1 n l HH.out.1 HH.out.2.1 HH.out.2.2).mono ?_;rintro e w1 ⟨rfl,C⟩;have j0:=C.frR 7;have j1:=C.ceR 7 (.int .i64 (s.rd.buf:Int)) fun _=>rfl;have j2:=C.frR 6;have j3:=C.ceR 6 (.bool s.rd.holds) fun _=>rfl;have J:=ax3 ((C.setR 7 (.int .i64 (n:Int)) { s.rd with buf:=n } (fun _=>rfl) rfl).setR 6 (.bool true) { s.rd with buf:=n,holds:=true } (fun _=>rfl) rfl);clear C)
 obtain⟨W2,aa⟩:∃V,V=(w1.setCell ⟨A.R,7,none⟩ (.int .i64 (n:Int))).setCell ⟨A.R,6,none⟩ (.bool true):=⟨_,rfl⟩;rw [<-aa] at J ⊢;clear aa j0 j1 j2 j3 k0 ag;obtain⟨at_,ct,Y,a8,ai⟩:=J.out.tail;have m7:=J.out.ceR 7 (.int .i64 (n:Int)) fun _=>rfl;have af:=J.out.ceP 11 (.pointer (some ⟨A.Bb,0,none⟩)) fun _=>rfl;obtain⟨X,H⟩:∃m,s.rd.tail.length=m:=⟨_,rfl⟩;rw [show (({ s with fr:=l,us:=s.us.set n true,ds:=s.ds.set n [],rd:={ s.rd with buf:=n,holds:=true } }:PlM).rd.tail.length)=X from H] at Y;have aq:Hid (Bys W2 at_ X s.rd.tail):=by
  have h9:Bys W2 at_ s.rd.tail.length s.rd.tail:=a8;rw [H] at h9;exact h9
 have a2:=ax3 H;clear a8 ai H;refine aak 12 mixed (by kernel_rfl) ?_;dsimp only [List.take_succ_cons,List.take_zero,List.drop_succ_cons,List.drop_zero]
 repeat (go_big_quiet_step (fail))
 refine wpQuiet_nil ?_;rintro _ ⟨nq,rfl⟩;have ap:=ax3 (J.out.bel (aa2 W2 nq));have ae:=ax3 (aq.out.below (aa2 W2 nq));have z:([]:List Int).length+X<=c.K+c.wm:=by have h1:=HL.out.1;have h2:=a2.out;simp only [axV];omega
 have HC:=ax3 (ap.out.lift fun o1 h1 z1=>avA h1 n X ct at_ s.rd.tail [] ae.out HE.out.2.1 HE.out.2.2 z HL.out.2);clear m7 Y af z
 go_wp2_with fail
 refine HC.out.mono ?_;rintro e w3 ⟨rfl,C⟩;have N:=ax3 (C.bel (aa2 w3 1));obtain⟨a1,j,Y,_,_⟩:=N.out.tail;rw [show (({ s with fr:=l,us:=s.us.set n true,ds:=(s.ds.set n []).set n ([]++s.rd.tail),rd:={ s.rd with buf:=n,holds:=true } }:PlM).rd.tail.length)=X from a2.out] at Y;have I:=N.out.ceP 17 (.int .i64 (s.read:Int)) fun _=>rfl;obtain⟨Z,U⟩:∃m,s.read=m:=⟨_,rfl⟩;rw [U] at I;have f8:=N.out.frR 8;have c8:=N.out.ceR 8 (.int .i64 (s.rd.warm:Int)) fun _=>rfl;have H8:=N.out.setR 8 (.int .i64 (X:Int)) { s.rd with buf:=n,holds:=true,warm:=X } (fun _=>rfl) rfl;have f9:=H8.frR 9;have c9:=H8.ceR 9 (.int .i64 (s.rd.own:Int)) fun _=>rfl;have H9:=H8.setR 9 (.int .i64 0) { s.rd with buf:=n,holds:=true,warm:=X,own:=0 } (fun _=>rfl) rfl;have ak:=H9.frR 10;have al:=H9.ceR 10 (.int .i64 (s.rd.ahead:Int)) fun _=>rfl;have B:=H9.setR 10 (.int .i64 (Z:Int)) { s.rd with buf:=n,holds:=true,warm:=X,own:=0,ahead:=Z } (fun _=>rfl) rfl;have f1:=B.frR 1;have c1:=B.ceR 1 (.int .u8 (s.rd.ph:Int)) fun _=>rfl;have H1:=B.setR 1 (.int .u8 2) { s.rd with buf:=n,holds:=true,warm:=X,own:=0,ahead:=Z,ph:=2 } (fun _=>rfl) rfl;obtain⟨D,hD⟩:∃D,D=w3.drew:=⟨_,rfl⟩;have ab:w3.drewN 1=D:=by rw [hD];rfl
 rw [ab] at Y I f8 c8 f9 c9 ak al f1 c1 H1;have hS:∀(i:Nat) (v:Value),i≠11->∀V:World,(V.cell? ⟨A.R,11,none⟩=some (.slice a1 X j)/\V.cell? ⟨A.P,17,none⟩=some (.int .i64 (Z:Int)))->((V.setCell ⟨A.R,i,none⟩ v).cell? ⟨A.R,11,none⟩=some (.slice a1 X j)/\(V.setCell ⟨A.R,i,none⟩ v).cell? ⟨A.P,17,none⟩=some (.int .i64 (Z:Int))):=fun i v hi V hV=>by
  refine⟨?_,?_⟩
  · rw [World.cell?_setCell_other V _ _ _ (fun e=>hi (Addr.mk.inj e).2.1)];exact hV.1
  · rw [azi V _ _ _ ah];exact hV.2
 have HS:=ax3 hS;have ao:=ax3 H1;have am:=ax3 U;clear C H8 H9 B H1 hS ab U;go_upto_region 3 with fail
 refine wp_region_noPanic ?_;refine wp_region_held_drew (S:=fun V=>V.cell? ⟨A.R,11,none⟩=some (.slice a1 X j)/\V.cell? ⟨A.P,17,none⟩=some (.int .i64 (Z:Int))) (by kernel_rfl) (by rw [<-hD];exact⟨Y,I⟩) (fun hHeld=>?_);rw [<-hD] at hHeld ⊢;clear hD;refine tkA 0 ?_;refine tkA 1 ?_;refine tkA 2 ?_;refine tkA 3 ?_;refine tkA 4 ?_;refine tkA 5 ?_;refine tkW 6 (v:=?_) ?_ ?_;rotate_left
 ·
  intro V hV;obtain⟨q1,q2⟩:=hV
  first | (go_simp;done) | (go_simp;with_reducible rfl)
 try simp only [Act.put,pA,pB,pC]
 refine tkA 7 ?_;refine tkA 8 ?_;refine tkA 9 ?_;refine tkA 10 ?_;refine tkW 11 (v:=?_) ?_ ?_;rotate_left
 ·
  intro V hV;obtain⟨q1,q2⟩:=hV
  first | (go_simp;done) | (go_simp;with_reducible rfl)
 try simp only [Act.put,pA,pB,pC]
 refine tkA 12 ?_;refine tkA 13 ?_;refine rdy 14 (fun K y=>?_);go_simp;refine y.out _ _ (HS.out 8 _ (by decide) _ hHeld) (fun ad=>?_);clear y K
 try simp only [Act.put,pA,pB,pC]
 refine tkA 15 ?_;refine tkA 16 ?_;refine rdy 17 (fun K y=>?_);go_simp;refine y.out _ _ (HS.out 9 _ (by decide) _ ad) (fun ac=>?_);clear y K
 try simp only [Act.put,pA,pB,pC]
 refine tkA 18 ?_;refine tkA 19 ?_;refine rdy 20 (fun K y=>?_);go_simp;refine y.out _ _ (HS.out 10 _ (by decide) _ ac) (fun aj=>?_);clear y K
 try simp only [Act.put,pA,pB,pC]
 refine wpAnyH_done (by kernel_rfl) ?_ _;refine ax4 ?_;clear ad ac aj hHeld Y I;go_wp2
 go_end0
 refine⟨rfl,?_⟩;have e1:=HE.out.1.1;have e2:=HE.out.1.2;have e3:takeR s={ s with fr:=l,us:=s.us.set n true,ds:=(s.ds.set n []).set n ([]++s.rd.tail),rd:={ s.rd with buf:=n,holds:=true,warm:=X,own:=0,ahead:=Z,ph:=2 } }:=by
  unfold takeR;rw [<-a2.out,<-am.out];simp only [e1,e2,ay0]
 rw [e3];exact ao.out
section
variable {P:Program}{md:Region.Mode}{ops:Array Oper}{Q:Exit->Act->World->Prop}{S:World->Prop}
theorem aiN (i j k:Nat)(y Rj e:Value->World->Prop){D x ok:Oper}{J:Nat}{Z:Array Bool}{a:Act}{w:World}(hi:ops[i]?=some D)(hj:ops[j]?=some x)(hk:ops[k]?=some ok)
  (hr:Region.ready md ops Z=[i,k]) (ac:Region.ready md ops (Z.setIfInBounds i true)=[j,k]) (ab:Region.ready md ops (Z.setIfInBounds k true)=[i])
  (a1:Region.ready md ops ((Z.setIfInBounds i true).setIfInBounds k true)=[j])
  (ae:i≠k) (ad:j≠k) (a6:D.dst≠ok.dst) (a2:x.dst≠ok.dst) (hS:S w)
  (mi:∀v (w w':World),y v w->RowKit.Below w.heap.size w w'->y v w') (mj:∀v (w w':World),Rj v w->RowKit.Below w.heap.size w w'->Rj v w') (mk:∀v (w w':World),e v w->RowKit.Below w.heap.size w w'->e v w')
  (yi:aiu P ops Q S D y a) (yk:aiu P ops Q S ok e a) (aa:∀V,aiu P ops Q S D y (a.put ok.dst V))
  (yj:∀Y,aiu P ops Q (fun w=>S w/\y Y w) x Rj (a.put D.dst Y)) (a7:∀Y,aiu P ops Q S ok e (a.put D.dst Y))
  (a8:∀Y V,aiu P ops Q (fun w=>S w/\y Y w) x Rj ((a.put D.dst Y).put ok.dst V))
  (H2:∀Y A w',S w'->y Y w'->Rj A w'->RowKit.Below w.heap.size w w'->wpAnyH P md ops Q S (J+1) ((Z.setIfInBounds i true).setIfInBounds j true) ((a.put D.dst Y).put x.dst A) w')
  (H:∀Y A V w',S w'->y Y w'->Rj A w'->e V w'->RowKit.Below w.heap.size w w'->wpAnyH P md ops Q S J (((Z.setIfInBounds i true).setIfInBounds j true).setIfInBounds k true) (((a.put D.dst Y).put x.dst A).put ok.dst V) w'):wpAnyH P md ops Q S (J+3) Z a w:=by
 have ag:∀d,ok.dst=some d->D.dst≠some d:=fun d h1 h2=>a6 (h2.trans h1.symm);have af:∀d,ok.dst=some d->x.dst≠some d:=fun d h1 h2=>a2 (h2.trans h1.symm);have tail:∀Y V (u:World),S u->y Y u->e V u->RowKit.Below w.heap.size w u->wpAnyH P md ops Q S (J+1) ((Z.setIfInBounds i true).setIfInBounds k true) ((a.put D.dst Y).put ok.dst V) u:=fun Y V u N I C z=>by
  refine wpAnyH_ready a1 (by simp) (axv hj (fun K B=>a8 Y V u ⟨N,I⟩ K (fun A u' s o X=>B.out _ _ s.1 (fun _=>?_))) axw);have h:=H Y A V u' s.1 s.2 o (mk _ _ _ C X) (z.trans (X.mono z.size));rw [axx _ _ ad,<-Act.put_comm (a.put D.dst Y) V A af] at h;exact h
 refine wpAnyH_ready hr (by simp) (axv hi (fun K B=>yi w hS K (fun Y u N I z=>B.out _ _ N (fun _=>?_))) (axv hk (fun K B=>yk w hS K (fun V u N C z=>B.out _ _ N (fun _=>?_))) axw))
 · refine wpAnyH_ready ac (by simp) (axv hj (fun K B=>yj Y u ⟨N,I⟩ K (fun A u2 U o X=>B.out _ _ U.1 (fun _=>?_))) (axv hk (fun K B=>a7 Y u N K (fun V u2 U C X=>B.out _ _ U (fun _=>tail Y V u2 U (mi _ _ _ I X) C (z.trans (X.mono z.size))))) axw));exact H2 Y A u2 U.1 U.2 o (z.trans (X.mono z.size))
 · refine wpAnyH_ready ab (by simp) (axv hi (fun K B=>aa V u N K (fun Y u2 U I X=>B.out _ _ U (fun _=>?_))) axw);have h:=tail Y V u2 U I (mk _ _ _ C X) (z.trans (X.mono z.size));rw [axx _ _ ae,<-Act.put_comm a V Y ag] at h;exact h
end
theorem abl {w:World}{base n size:Nat}{e:TypeId}{v:Value}{xs:List Value}(h:w.ownsRow base e size v n xs):∃a c,v=.slice a n c/\n<=c/\SlK size w a n xs/\∀q,a=some q->base<=q.block/\q.block<w.heap.size:=by
 obtain⟨a,c,rfl,h1,h2⟩:=SlK.own h;exact⟨a,c,rfl,h1,h2,fun q Z=>acx h q.block (by rw [Z];rfl)⟩
def aue (B N:Nat)(Z:List Int)(v:Value)(X:World):Prop:=∃a Y,v=.slice a N Y/\ByD (fun k=>B<=k/\k<X.heap.size) X a N Z
def aud (B N:Nat)(Z:List Int)(V Y wm:Nat)(v:Value)(X:World):Prop:=∃a U,v=.agg #[.int .i64 (V:Int),.int .i64 (Y:Int),.int .i64 (wm:Int),.slice a N U]/\ByD (fun k=>B<=k/\k<X.heap.size) X a N Z
def aur (B:Nat)(v:Value)(X:World):Prop:=∃b,v=.pointer (some ⟨b,0,none⟩)/\B<=b/\X.heap[b]?=some (.cells #[.int .i64 0,.int .i64 0,.int .i64 0,.slice none 0 0] 120 (0,0))
theorem amH {B N:Nat}{Z:List Int}{a:Option Addr}{X Y:World}(h:ByD (fun k=>B<=k/\k<X.heap.size) X a N Z)(U:Below X.heap.size X Y):ByD (fun k=>B<=k/\k<Y.heap.size) Y a N Z:=
 (h.keep (Y:=fun _=>False) (.of_same U) fun _ _ _ h=>h).wide fun k _ V=>⟨V.1,ax6 V.2 U.size⟩
theorem ari (B N:Nat)(Z:List Int)(v:Value)(X Y:World)(h:aue B N Z v X)(V:Below X.heap.size X Y):aue B N Z v Y:=let ⟨a,cc,h1,h2⟩:=h;⟨a,cc,h1,amH h2 V⟩
theorem ar9 (B N:Nat)(Z:List Int)(U V wm:Nat)(v:Value)(X Y:World)(h:aud B N Z U V wm v X)(J:Below X.heap.size X Y):aud B N Z U V wm v Y:=let ⟨a,cc,h1,h2⟩:=h;⟨a,cc,h1,amH h2 J⟩
theorem auw (B:Nat)(v:Value)(X Y:World)(h:aur B v X)(Z:Below X.heap.size X Y):aur B v Y:=let ⟨b,h1,h2,h3⟩:=h;⟨b,h1,h2,(Z.block b (awU.1 h3).1).trans h3⟩
theorem anN {A:PAd}{c:CfM}{s:PlM}{o:Nat->Nat}(w W:World)(h:aa3 A c o s w W)(z:List Int)(hu:s.us[s.rd.buf]?=some true)(hd:s.ds[s.rd.buf]?=some z)(hl:z.length<=100000)(ap:∀x∈z,0<=x/\x<=255)(hq:s.q.length<c.Q)(aG:s.shut=false)(hF:c.F+s.rd.ahead<=4611686018428387904)(aq:s.number<=1000000000) :
  Calls ZP 144 #[.pointer (some ⟨A.R,0,none⟩)] W fun e w'=>e=.returned (.tuple #[])/\aa3 A c o (putR c s) w w':=by
 have k0:=h.ceR 0 (.pointer (some ⟨A.P,0,none⟩)) fun _=>rfl;obtain⟨I,aA⟩:∃m,s.number=m:=⟨_,rfl⟩;obtain⟨bf,af⟩:∃m,s.rd.buf=m:=⟨_,rfl⟩;obtain⟨ah,aC⟩:∃m,s.rd.ahead=m:=⟨_,rfl⟩;obtain⟨wm,ax⟩:∃m,s.rd.warm=m:=⟨_,rfl⟩;obtain⟨N,hN⟩:∃m,z.length=m:=⟨_,rfl⟩;have X:Hid (∀V,Below W.heap.size W V->V.cell? ⟨A.P,16,none⟩=some (.int .i64 (I:Int))/\V.cell? ⟨A.P,7,none⟩=some (.int .i64 (c.F:Int))/\V.cell? ⟨A.R,10,none⟩=some (.int .i64 (ah:Int))/\V.cell? ⟨A.R,8,none⟩=some (.int .i64 (wm:Int))/\V.cell? ⟨A.P,11,none⟩=some (.pointer (some ⟨A.Bb,0,none⟩))/\V.cell? ⟨A.R,7,none⟩=some (.int .i64 (bf:Int))):=fun V Z=>by
  have hg:=h.bel Z;exact⟨hg.ceP 16 _ fun _=>by rw [<-aA];rfl,hg.ceP 7 _ fun _=>rfl,hg.ceR 10 _ fun _=>by rw [<-aC];rfl,hg.ceR 8 _ fun _=>by rw [<-ax];rfl,hg.ceP 11 _ fun _=>rfl,hg.ceR 7 _ fun _=>by rw [<-af];rfl⟩
 have HD:Hid (∀V,Below W.heap.size W V->Calls ZP 195 #[.pointer (some ⟨A.Bb,0,none⟩),.int .i64 (bf:Int)] V fun e w'=>∃a cc,e=.returned (.slice a N cc)/\ByD (fun k=>W.heap.size<=k/\k<w'.heap.size) w' a N z/\Below V.heap.size V w'):=fun V Z=>(h.bel Z).low fun o1 h1=>by
  rw [<-af,<-hN];refine (awa h1 s.rd.buf z hu hd (by omega)).mono ?_;rintro e w' ⟨v,rfl,ho,hb⟩;obtain⟨a,cc,rfl,_,hs⟩:=aaC (enc:=Value.int .u8) ho;refine⟨a,cc,rfl,⟨⟨hs,ap⟩,fun _ q e=>?_⟩,hb⟩;have:=acx ho q.block (by rw [e];rfl);exact⟨awT Z.size this.1,this.2⟩
 obtain⟨B,aE⟩:∃m,c.F+ah=m:=⟨_,rfl⟩;have b5:IntKind.i64.wrap ((c.F:Int)+(ah:Int))=(B:Int):=by rw [ax2];omega
 have aZ:=ax3 aE;have HG:=ax3 h;have HN:=ax3 (And.intro aA (And.intro af (And.intro aC (And.intro ax hN))));have HQ:=ax3 (And.intro hq (And.intro aG aq));have b3:=ax3 hd;clear h hu hd hl ap hq aG hF aq aA af aC ax hN aE;go_enter func144,ntmps144;go_upto_region 1 with fail
 clear k0;refine wp_region_noPanic ?_;refine wp_region_held_drew (S:=fun V=>RowKit.Below W.heap.size W V) (by kernel_rfl) (aa2 W 1) (fun hHeld=>?_);refine tkA 0 ?_;refine tkA 1 ?_;refine tkA 2 ?_;refine tkB 3 X.out ?_;refine tkA 4 ?_;refine tkA 5 ?_;refine tkA 6 ?_;refine tkA 7 ?_;refine tkB 8 X.out ?_;refine tkA 9 ?_;refine tkA 10 ?_;refine tkA 11 ?_;refine tkB 12 X.out ?_;refine tkA 13 ?_;refine tkA 14 ?_;refine tkA 15 ?_;refine tkA 16 ?_;refine tkB 17 X.out ?_;refine tkA 18 ?_;refine tkA 19 ?_;refine tkA 20 ?_;refine tkB 21 X.out ?_;refine tkA 22 ?_;refine tkA 23 ?_;refine tkA 24 ?_;refine tkB 25 X.out ?_;refine (fun H=>aiN 26 27 28 (aue W.heap.size N z) (aud W.heap.size N z I B wm) (aur W.heap.size) (by simp only [pD,pE,pF];rfl) (by simp only [pD,pE,pF];rfl) (by simp only [pD,pE,pF];rfl) (by as_aux_lemma=>kernel_rfl) (by as_aux_lemma=>kernel_rfl) (by as_aux_lemma=>kernel_rfl) (by as_aux_lemma=>kernel_rfl) (by decide) (by decide) (by decide) (by decide) (by assumption) (ari W.heap.size N z) (ar9 W.heap.size N z I B wm) (auw W.heap.size) ?_ ?_ ?_ ?_ ?_ ?_ ?_ H) ?_
 ·
  intro V Z K X
  try simp only [Act.put,pA,pB,pC] at X ⊢
  go_simp
  (go_at_call 195;refine (HD.out V Z).mono ?_;rintro e w9 ⟨a9,c9,rfl,j,ac⟩;exact X _ _ (Z.trans (ac.mono Z.size)) ⟨a9,c9,rfl,j⟩ ac)
 ·
  intro V Z K X
  try simp only [Act.put,pA,pB,pC] at X ⊢
  go_simp;exact X _ _ (Z.trans ((aa1 _ _).mono Z.size)) (⟨_,rfl,Z.size,axg _ _⟩) (aa1 _ _)
 ·
  intro vk V Z K X
  try simp only [Act.put,pA,pB,pC] at X ⊢
  go_simp
  (go_at_call 195;refine (HD.out V Z).mono ?_;rintro e w9 ⟨a9,c9,rfl,j,ac⟩;exact X _ _ (Z.trans (ac.mono Z.size)) ⟨a9,c9,rfl,j⟩ ac)
 ·
  intro vi V Z K X;obtain⟨Z,hR⟩:=Z
  try simp only [Act.put,pA,pB,pC] at X ⊢
  (obtain⟨a9,c9,rfl,j⟩:=hR;go_simp;exact X _ _ ⟨Z,a9,c9,rfl,j⟩ ⟨a9,c9,rfl,j⟩ (ayZ _ _))
 ·
  intro vi V Z K X
  try simp only [Act.put,pA,pB,pC] at X ⊢
  go_simp;exact X _ _ (Z.trans ((aa1 _ _).mono Z.size)) (⟨_,rfl,Z.size,axg _ _⟩) (aa1 _ _)
 ·
  intro vi vk V Z K X;obtain⟨Z,hR⟩:=Z
  try simp only [Act.put,pA,pB,pC] at X ⊢
  (obtain⟨a9,c9,rfl,j⟩:=hR;go_simp;exact X _ _ ⟨Z,a9,c9,rfl,j⟩ ⟨a9,c9,rfl,j⟩ (ayZ _ _))
 · intro vi vj V Z aU aT ag;refine rdy 28 (fun K X=>?_);go_simp;refine X.out _ _ (Z.trans ((aa1 _ _).mono Z.size)) (fun _=>?_);exact H vi vj _ _ (Z.trans ((aa1 _ _).mono Z.size)) ((ari W.heap.size N z) _ _ _ aU (aa1 _ _)) ((ar9 W.heap.size N z I B wm) _ _ _ aT (aa1 _ _)) (⟨_,rfl,Z.size,axg _ _⟩) (ag.trans ((aa1 _ _).mono ag.size))
 rintro vi vj vk V Z ⟨_,_,rfl,_⟩ ⟨a1,c1,rfl,ab⟩ ⟨J,rfl,ad,C⟩ ag
 try simp only [Act.put,pA,pB,pC]
 obtain⟨V2,aj⟩:∃U,U=(((V.setCell ⟨J,0,none⟩ (.int .i64 (I:Int))).setCell ⟨J,1,none⟩ (.int .i64 (B:Int))).setCell ⟨J,2,none⟩ (.int .i64 (wm:Int))).setCell ⟨J,3,none⟩ (.slice a1 N c1):=⟨_,rfl⟩;have aB:RowKit.Below W.heap.size W V2:=by rw [aj];exact (((Z.setCell ad _).setCell ad _).setCell ad _).setCell ad _
 have a2:V2.heap[J]?=some (.cells #[.int .i64 (I:Int),.int .i64 (B:Int),.int .i64 (wm:Int),.slice a1 N c1] 120 (0,0)):=by
  rw [aj];exact aa4 (i:=3) (aa4 (i:=2) (aa4 (i:=1) (aa4 (i:=0) C (.int .i64 (I:Int))) (.int .i64 (B:Int))) (.int .i64 (wm:Int))) (.slice a1 N c1)
 have ae:Chg (fun k=>k=J) V V2:=by rw [aj];exact ((((Chg.refl (fun k=>k=J) V).set rfl).set rfl).set rfl).set rfl
 have y0:V.cell? ⟨J,0,none⟩=some (.int .i64 0):=by simp [World.cell?,C]
 have y1:V.cell? ⟨J,1,none⟩=some (.int .i64 0):=by simp [World.cell?,C]
 have y2:V.cell? ⟨J,2,none⟩=some (.int .i64 0):=by simp [World.cell?,C]
 have y3:V.cell? ⟨J,3,none⟩=some (.slice none 0 0):=by simp [World.cell?,C]
 have z0:V.frozen? ⟨J,0,none⟩=false:=by simp [World.frozen?,C]
 have z1:V.frozen? ⟨J,1,none⟩=false:=by simp [World.frozen?,C]
 have z2:V.frozen? ⟨J,2,none⟩=false:=by simp [World.frozen?,C]
 have z3:V.frozen? ⟨J,3,none⟩=false:=by simp [World.frozen?,C]
 have aY:=ax3 aj;refine rdy 29 (fun K X=>?_);go_simp;rw [<-aY.out];refine X.out _ _ aB (fun aW=>?_);clear X K
 try simp only [Act.put,pA,pB,pC]
 refine wpAnyH_done (by kernel_rfl) ?_ _;refine ax4 ?_;have aI:N≠0->∀q,a1=some q->q.block≠J:=fun h0 q e e2=>by
  obtain⟨g,off,e3,hl,hx⟩:=ab.1.1.2.resolve_left h0;rw [e3] at e
  cases awV e
  have e2:g=J:=e2;subst e2;have b6:z.length=N:=HN.out.2.2.2.2;have h1:=hx 0 _ (ay4 (by omega:0<z.length));simp only [World.cell?,C] at h1;have h2:off<4:=by
   have:=(awU.1 h1).1
   simpa using this
  rcases (by omega:off=0∨off=1∨off=2∨off=3) with rfl | rfl | rfl | rfl<;>simp at h1
 have a6:ByD (fun k=>W.heap.size<=k/\k<V2.heap.size) V2 a1 N z:=by
  refine⟨ab.1.same ae.size fun h0 q e=>ae.block _ (ab.1.lt h0 q e) (aI h0 q e),fun h0 q e=>?_⟩;have:=ab.2 h0 q e;exact⟨this.1,ax6 this.2 ae.size⟩
 obtain⟨o3,h3,w3,g3,n3⟩:=HG.out.belZ aB;have az:PcD (fun k=>o3 k=0) V2 ⟨(I:Int),(B:Int),(wm:Int),a1,N,c1,(bf:Int)⟩ ⟨I,B,wm,z,bf⟩:=⟨rfl,rfl,rfl,rfl,a6.1,fun h0 q e=>n3 _ (a6.2 h0 q e).1 (a6.2 h0 q e).2⟩;have b8:=ax3 az;have b7:=ax3 a2;have b9:=ax3 h3;have al:=ax3 (And.intro w3 g3);have aV:Hid (∀V,Below V2.heap.size V2 V->V.cell? ⟨A.P,12,none⟩=some (.pointer (some ⟨A.Q,0,none⟩))/\V.cell? ⟨A.R,7,none⟩=some (.int .i64 (bf:Int))/\V.cell? ⟨J,0,none⟩=some (.int .i64 (I:Int))/\V.cell? ⟨J,1,none⟩=some (.int .i64 (B:Int))/\V.cell? ⟨J,2,none⟩=some (.int .i64 (wm:Int))/\V.cell? ⟨J,3,none⟩=some (.slice a1 N c1)):=fun V Z=>by
  have hg:=h3.g.bel Z;have y:=(Z.block J (awU.1 a2).1).trans a2;exact⟨hg.ceP 12 _ fun _=>rfl,hg.ceR 7 _ fun _=>by rw [<-HN.out.2.1];rfl,by simp [World.cell?,y],by simp [World.cell?,y],by simp [World.cell?,y],by simp [World.cell?,y]⟩
 have av:o3 J=0:=n3 J ad (awU.1 a2).1;have ay:=HQ.out;have ak:Hid (∀(s':PlM) V,aa3 A c o3 s' V2 V->s'.rd=s.rd->V.cell? ⟨A.P,12,none⟩=some (.pointer (some ⟨A.Q,0,none⟩))/\V.cell? ⟨A.R,7,none⟩=some (.int .i64 (bf:Int))/\V.cell? ⟨J,0,none⟩=some (.int .i64 (I:Int))/\V.cell? ⟨J,1,none⟩=some (.int .i64 (B:Int))/\V.cell? ⟨J,2,none⟩=some (.int .i64 (wm:Int))/\V.cell? ⟨J,3,none⟩=some (.slice a1 N c1)):=fun s' V hg hr=>by
  have y:=(hg.weak J (awU.1 a2).1 av).trans a2;exact⟨hg.ceP 12 _ fun _=>rfl,hg.ceR 7 _ fun _=>by rw [hr,<-HN.out.2.1];rfl,by simp [World.cell?,y],by simp [World.cell?,y],by simp [World.cell?,y],by simp [World.cell?,y]⟩
 have aQ:=ax3 (ak.out s _ (h3.g.bel (aa2 V2 1)) rfl);obtain⟨D,hD⟩:∃D,D=V2.drew:=⟨_,rfl⟩;obtain⟨U,hU⟩:∃U,U=D.alloc (.cells #[.int .i64 (I:Int),.int .i64 (B:Int),.int .i64 (wm:Int),.slice a1 N c1,.int .i64 (bf:Int)] 126):=⟨_,rfl⟩;have ai:Below V2.heap.size V2 U:=by rw [hU,hD];exact (aa2 V2 1).alloc (axe _) _
 have aw:U.heap[D.heap.size]?=some (.cells #[.int .i64 (I:Int),.int .i64 (B:Int),.int .i64 (wm:Int),.slice a1 N c1,.int .i64 (bf:Int)] 126 (0,0)):=by rw [hU];exact axg _ _
 have aF:SlK 5 U (some ⟨D.heap.size,0,none⟩) 1 [.int .i64 (I:Int),.int .i64 (B:Int),.int .i64 (wm:Int),.slice a1 N c1,.int .i64 (bf:Int)]:=by
  refine⟨rfl,.inr ⟨D.heap.size,0,rfl,(awU.1 aw).1,fun i u hi=>?_⟩⟩;have e:U.cell? ⟨D.heap.size,0+i,none⟩=(#[Value.int .i64 (I:Int),.int .i64 (B:Int),.int .i64 (wm:Int),.slice a1 N c1,.int .i64 (bf:Int)]:Array Value)[0+i]?:=by simp only [World.cell?,aw];simp
  rw [e,axz,ax9];exact hi
 have aP:=ax3 (ak.out s U (h3.g.bel ai) rfl);have aH:PcD (fun k=>o3 k=0) U ⟨(I:Int),(B:Int),(wm:Int),a1,N,c1,(bf:Int)⟩ ⟨I,B,wm,z,bf⟩:=az.keep (Y:=fun _=>False) (.of_same ai) fun _ _ _ h=>h;have HC:=ax3 ((h3.g.bel ai).lift fun o4 h4 z4=>awd h4 ⟨I,B,wm,z,bf⟩ ⟨(I:Int),(B:Int),(wm:Int),a1,N,c1,(bf:Int)⟩ (some ⟨D.heap.size,0,none⟩) 1 ay.1 ay.2.1 (aH.wide fun k _ hk=>z4 k hk) aF);clear az a6 aI a2 h3 w3 g3 n3 ae y0 y1 y2 y3 z0 z1 z2 z3 aW C ab aB ag hHeld Z X HG aV av ay ai aw aF aH;have HU:=ax3 hU;clear hU;go_upto_region 2 with fail
 refine wp_region_noPanic ?_;refine wp_region_held_drew (S:=fun V=>V.cell? ⟨A.P,12,none⟩=some (.pointer (some ⟨A.Q,0,none⟩))/\V.cell? ⟨A.R,7,none⟩=some (.int .i64 (bf:Int))/\V.cell? ⟨J,0,none⟩=some (.int .i64 (I:Int))/\V.cell? ⟨J,1,none⟩=some (.int .i64 (B:Int))/\V.cell? ⟨J,2,none⟩=some (.int .i64 (wm:Int))/\V.cell? ⟨J,3,none⟩=some (.slice a1 N c1)) (by kernel_rfl) aQ.out (fun hHeld=>?_);rw [<-hD] at hHeld ⊢;clear hD;refine tkA 0 ?_;refine tkA 1 ?_;refine tkA 2 ?_;refine tkW 3 (v:=?_) ?_ ?_;rotate_left
 ·
  intro V Z;obtain⟨q1,q2,q3,q4,q5,q6⟩:=Z
  first | (go_simp;done) | (go_simp;with_reducible rfl)
 try simp only [Act.put,pA,pB,pC]
 refine tkW 4 (v:=?_) ?_ ?_;rotate_left
 ·
  intro V Z;obtain⟨q1,q2,q3,q4,q5,q6⟩:=Z
  first | (go_simp;done) | (go_simp;with_reducible rfl)
 try simp only [Act.put,pA,pB,pC]
 refine tkA 5 ?_;refine tkA 6 ?_;refine tkA 7 ?_;refine tkW 8 (v:=?_) ?_ ?_;rotate_left
 ·
  intro V Z;obtain⟨q1,q2,q3,q4,q5,q6⟩:=Z
  first | (go_simp;done) | (go_simp;with_reducible rfl)
 try simp only [Act.put,pA,pB,pC]
 refine tkA 9 ?_;refine rdy 10 (fun K X=>?_);go_simp;rw [<-HU.out];refine X.out _ _ aP.out (fun h10=>?_);clear X K
 try simp only [Act.put,pA,pB,pC]
 refine rdy 11 (fun K X=>?_);go_simp
 go_at_call 196
 refine HC.out.mono ?_;rintro e w5 ⟨⟨v5,rfl⟩,hg⟩;refine X.out _ _ (ak.out _ _ hg rfl) (fun h11=>?_);clear X K
 try simp only [Act.put,pA,pB,pC]
 refine wpAnyH_done (by kernel_rfl) ?_ _;refine ax4 ?_;clear h10 h11 hHeld aQ aP HC ak;obtain⟨aa,ar⟩:∃m,I+1=m:=⟨_,rfl⟩;have b4:IntKind.i64.wrap ((I:Int)+1)=(aa:Int):=by have h1:=HQ.out.2.2;have h2:=HN.out.1;rw [ax2];omega
 have aS:=hg.ceP 16 (.int .i64 (I:Int)) fun _=>by rw [<-HN.out.1];rfl
 have aX:=hg.frP 16;have ao:=ax3 (hg.setP 16 (.int .i64 (aa:Int)) { s with q:=s.q++[⟨I,B,wm,z,bf⟩],number:=aa } (fun _=>rfl) rfl (aar.congr 1));have b0:=ax3 ar;clear hg ar;go_upto_region 4 with fail
 obtain⟨W6,aL⟩:∃V,V=w5.setCell ⟨A.P,16,none⟩ (.int .i64 (aa:Int)):=⟨_,rfl⟩;rw [<-aL] at ao ⊢;clear aL aS aX;have c6:=ao.out.ceR 6 (.bool s.rd.holds) fun _=>rfl;have f6:=ao.out.frR 6;have am:=ax3 (ao.out.setR 6 (.bool false) { s.rd with holds:=false } (fun _=>rfl) rfl);go_upto_region 5 with fail
 obtain⟨W7,aK⟩:∃V,V=W6.setCell ⟨A.R,6,none⟩ (.bool false):=⟨_,rfl⟩;rw [<-aK] at am ⊢;clear aK c6 f6;have aO:=am.out.ceR 1 (.int .u8 (s.rd.ph:Int)) fun _=>rfl;have aM:=am.out.frR 1;have a8:=ax3 (am.out.setR 1 (.int .u8 1) { s.rd with holds:=false,ph:=1 } (fun _=>rfl) rfl);go_upto_region 6 with fail
 obtain⟨W8,aJ⟩:∃V,V=W7.setCell ⟨A.R,1,none⟩ (.int .u8 1):=⟨_,rfl⟩;rw [<-aJ] at a8 ⊢;clear aJ aO aM;have aN:=a8.out.ceR 12 (.bool s.rd.ended) fun _=>rfl;have au:∀ph,aa3 A c o3 { s with q:=s.q++[⟨I,B,wm,z,bf⟩],number:=aa,rd:={ s.rd with holds:=false,ph:=ph } } V2=aa3 A c o3 { s with q:=s.q++[⟨s.number,c.F+s.rd.ahead,s.rd.warm,s.ds.getD s.rd.buf [],s.rd.buf⟩],number:=s.number+1,rd:={ s.rd with holds:=false,ph:=ph } } V2:=fun ph=>by
  obtain⟨e1,e2,e3,e4,e5⟩:=HN.out;rw [<-b0.out,<-aZ.out,<-e1,<-e2,<-e3,<-e4,ay5,b3.out]
  rfl
 have aR:=ax3 au;clear au
 cases a7:s.rd.ended with
 | false=>
  rw [a7] at aN;have aD:=ax3 a7;clear a7;go_wp2
  go_end0
  refine⟨rfl,?_⟩;unfold putR;rw [aD.out,if_neg (by simp)];exact aa3.comp al.out.1 al.out.2 (by have:=a8.out;rw [aR.out 1] at this;exact this)
 | true=>
  rw [a7] at aN;have aD:=ax3 a7;have aO:=a8.out.ceR 1 (.int .u8 1) fun _=>rfl;have aM:=a8.out.frR 1;have b2:=ax3 (a8.out.setR 1 (.int .u8 4) { s.rd with holds:=false,ph:=4 } (fun _=>rfl) rfl);clear a7;go_wp2
  go_end0
  refine⟨rfl,?_⟩;unfold putR;rw [aD.out,if_pos rfl];exact aa3.comp al.out.1 al.out.2 (by have:=b2.out;rw [aR.out 4] at this;exact this)
end Go.Proofs.YtaamacoicojhnaaGreat
