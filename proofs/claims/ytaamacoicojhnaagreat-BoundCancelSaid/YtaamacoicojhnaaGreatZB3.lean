/- Proofs over the given program, part 3. -/
import Derived.Test.YtaamacoicojhnaaGreatZB2
set_option linter.unusedVariables false
set_option linter.unusedSimpArgs false
set_option maxRecDepth 100000
set_option maxHeartbeats 16000000
open Go.Proofs.Tryz
open Go.Proofs.Tryz renaming prog→ZP
namespace Go.Proofs.YtaamacoicojhnaaGreat
open Go.RowKit Go.Sort
section
attribute [local go_sem] aaT
theorem av7 (k p b:Nat)(W U V X:Int)(fold:Bool)(a:Option Addr)(Y N:Nat)(w:World)(J:Boxed w p 380 (.pointer (some ⟨b,0,none⟩)))(I:w.heap[b]?=some (.cells (anJ W U V X (.bool fold) (.slice a Y N)) 348 (0,0)))
  (wss:List (List Int)) (B:Wds w a Y wss) (H:Y<=1000000) (C:∀x∈wss,x.length<=1000000) (D:(abo fold wss).length<=1000000) :
  Calls ZP (afY k) #[.pointer (some ⟨p,0,none⟩)] w fun e w'=>e=.returned (.bool (avb W U V X (abu (abo fold wss)).many k))/\Below w.heap.size w w':=by
 have Z:∀{f:FuncId} {v:Value},Calls ZP f #[.pointer (some ⟨p,0,none⟩)] w (fun e w'=>e=.returned v/\w=w')->Calls ZP f #[.pointer (some ⟨p,0,none⟩)] w (fun e w'=>e=.returned v/\Below w.heap.size w w'):=
  fun h=>h.mono fun e w' ⟨h1,h2⟩=>⟨h1,by rw [<-h2];exact axf _ _⟩
 match k with
 | 0=>exact Z (arE p b W U V X fold a Y N w J I)
 | 1=>exact Z (as4 p b W U V X fold a Y N w J I)
 | 2=>exact Z (asu p b W U V X fold a Y N w J I)
 | 3=>exact Z (ate p b W U V X fold a Y N w J I)
 | 4=>exact Z (as6 p b W U V X fold a Y N w J I)
 | _+5=>exact arQ p b W U V X fold a Y N w J I wss B H C D
def adZ (p:Nat):Array Value:=#[.int .i64 50,.func (.func (afY 0)) #[] #[.pointer (some ⟨p,0,none⟩)],.int .i64 51,.func (.func (afY 1)) #[] #[.pointer (some ⟨p,0,none⟩)],.int .i64 52,.func (.func (afY 2)) #[] #[.pointer (some ⟨p,0,none⟩)],
 .int .i64 53,.func (.func (afY 3)) #[] #[.pointer (some ⟨p,0,none⟩)],.int .i64 54,.func (.func (afY 4)) #[] #[.pointer (some ⟨p,0,none⟩)],.int .i64 55,.func (.func (afY 5)) #[] #[.pointer (some ⟨p,0,none⟩)]]
theorem asT (b:Nat)(w:World) :
  Calls ZP 255 #[.pointer (some ⟨b,0,none⟩)] w fun e w'=>e=.returned (.slice (some ⟨w.heap.size+1,0,none⟩) 6 6)/\
   w'=(w.alloc (.cells #[.pointer (some ⟨b,0,none⟩)] 380)).alloc (.cells (adZ w.heap.size) 353):=by
 go_enter func255,ntmps255;go_wp2;go_ret;exact⟨rfl,rfl⟩
theorem apu {w:World}{Z p:Nat}(h:w.heap[Z]?=some (.cells (adZ p) 353 (0,0))){k:Nat}(Y:k<6) :
  w.cell? ⟨Z,k*2,none⟩=some (.int .i64 (50+k))/\w.cell? ⟨Z,k*2+1,none⟩=some (.func (.func (afY k)) #[] #[.pointer (some ⟨p,0,none⟩)]):=by
 have:k=0∨k=1∨k=2∨k=3∨k=4∨k=5:=by omega
 rcases this with rfl | rfl | rfl | rfl | rfl | rfl<;>simp [World.cell?,h,adZ]
theorem alo (fold:Bool)(a:Option Addr)(N ca:Nat)(wss:List (List Int))(w:World)(hA:Wds w a N wss)(ai:N<=1000000)(hM:∀x∈wss,x.length<=1000000)(hT:(abo fold wss).length<=1000000) :
  Calls ZP 223 #[.bool fold,.slice a N ca] w fun e w'=>e=.returned (.int .i64 (ac4 fold wss))/\Below w.heap.size w w':=by
 have HL:=ax3 hA.len;go_enter func223,ntmps223;go_wp2
 go_loopw [15] (fun i wr=>∃k:Nat,k<=N/\i=.int .i64 k/\Below w.heap.size w wr/\wr.heap[w.heap.size]?=some (.cells (anJ (cnt (wss.take k)).1 (cnt (wss.take k)).2.1 (cnt (wss.take k)).2.2.1 (cnt (wss.take k)).2.2.2 (.bool fold) (.slice a N ca)) 348 (0,0))) (fun i _=>N-(intOf i).toNat)
 case atStart=>exact⟨0,axh _,rfl,(axf _ _).alloc (axe _) _,axg _ _⟩
 case round=>
  obtain⟨k,hk,rfl,U,J⟩:=hrel
  by_cases ah:k<N
  ·
   obtain⟨bb,off,a',l,c,x,rfl,ar,ak,hx,hX,aq⟩:=(hA.below U).at_ ah;have ae:l<=1000000:=by have:=adg hM hx;rw [hX.len] at this;exact this
   obtain⟨g1,g2,g3⟩:=avP (M:=1000000) (wss.take k) (fun y hy=>hM y (axk hy));have a6:((wss.take k).length:Int)=k:=by rw [ay6,HL.out];omega
   rw [a6] at g1 g3;have HX:=ax3 hx;have HC:=ax3 hX.len;clear hx a6
   go_wp2_with fail
   refine (aqD w.heap.size _ _ _ _ (.bool fold) (.slice (some ⟨bb,off,none⟩) N ca) a' l c wr J (by omega) (by omega) g2 (by omega) ae).mono ?_;rintro e w1 ⟨⟨v,rfl⟩,a2,aj⟩;have am:Below w.heap.size w w1:=U.grown aj (by have:=U.size;omega) (fun k e=>by cases e;exact axe _);have HN:Hid (cnt (wss.take (k+1))=anK (cnt (wss.take k)) x):=by rw [aa7 HX.out,aja];rfl
   go_wp2
   go_roundw
   case rel=>
    refine⟨k+1,by omega,by go_num,am,?_⟩;rw [HN.out];simp only [anK,HC.out];exact a2
   case measure=>simp [intOf];omega
  ·
   obtain rfl:k=N:=by omega
   have V:wss.take k=wss:=axo (by have:=HL.out;omega);rw [V] at J;clear V;have s:w.heap.size<wr.heap.size:=(awU.1 J).1;have ac:=hA.below U
   go_wp2_with (go_at_call 255;refine (asT _ _).mono ?_;rintro e w' ⟨rfl,rfl⟩)
   obtain⟨X,Y⟩:∃X,X=(wr.alloc (.cells #[.pointer (some ⟨w.heap.size,0,none⟩)] 380)).alloc (.cells (adZ wr.heap.size) 353):=⟨_,rfl⟩;have I:Below w.heap.size w X:=by rw [Y];exact (U.alloc (by omega) _).alloc (by simp;omega) _
   have A:Below wr.heap.size wr X:=by rw [Y];exact ((axf _ _).alloc (axe _) _).alloc (by simp) _
   have B:Boxed X wr.heap.size 380 (.pointer (some ⟨w.heap.size,0,none⟩)):=by rw [Y];exact (Boxed.new _ _ _).alloc _
   have C:X.heap[wr.heap.size+1]?=some (.cells (adZ wr.heap.size) 353 (0,0)):=by
    rw [Y];have:=axg (wr.alloc (.cells #[.pointer (some ⟨w.heap.size,0,none⟩)] 380)) (.cells (adZ wr.heap.size) 353)
    rwa [ax7] at this
   have D:X.heap[w.heap.size]?=_:=(A.block _ s).trans J;have ao:=ac.below A;have ad:X.heap.size=wr.heap.size+2:=by rw [Y];simp
   rw [<-Y];clear Y A ac;obtain⟨z,o⟩:∃z,wr.heap.size=z:=⟨_,rfl⟩;rw [o] at B C ad ⊢;clear o
   go_loopw [25] (fun i wq=>∃j:Nat,j<=6/\i=.int .i64 j/\Below X.heap.size X wq/\Hid (∀n,n<j->avb (cnt wss).1 (cnt wss).2.1 (cnt wss).2.2.1 (cnt wss).2.2.2 (abu (abo fold wss)).many n=false)) (fun i _=>6-(intOf i).toNat)
   case atStart=>exact⟨0,by omega,rfl,axf _ _,fun n hn=>by omega⟩
   case round=>
    obtain⟨j,hj,rfl,Z,HJ⟩:=hrel;have al:Below w.heap.size w wr:=I.trans (Z.mono I.size)
    by_cases a7:j<6
    ·
     obtain⟨d0,d1⟩:=apu ((Z.block _ (awU.1 C).1).trans C) a7;have he:=ajO j
     go_wp2_with fail
     have af:Boxed wr z 380 (.pointer (some ⟨w.heap.size,0,none⟩)):=(Z.block _ B.lt).trans B;have a1:wr.heap[w.heap.size]?=_:=(Z.block _ (awU.1 D).1).trans D;have H:=axg wr (.cells #[.int .i64 (50+(j:Int)),.func (.func (afY j)) #[] #[.pointer (some ⟨z,0,none⟩)]] 353);refine (av7 j z w.heap.size _ _ _ _ fold a k ca _ (af.alloc _) ((axi _ _ _ (awU.1 a1).1).trans a1) wss ((ao.below Z).below ((axf _ _).alloc (axe _) _)) ai hM hT).mono ?_;rintro e w5 ⟨rfl,a8⟩;have ab:Below X.heap.size X w5:=(Z.alloc Z.size _).trans (a8.mono (by have:=Z.size;simp;omega));have aa:Below w.heap.size w w5:=I.trans (ab.mono I.size);have ag:w5.heap[wr.heap.size]?=_:=(a8.block _ (awU.1 H).1).trans H;have q0:w5.cell? ⟨wr.heap.size,0,none⟩=some (.int .i64 (50+(j:Int))):=by simp [World.cell?,ag]
     cases e:avb (cnt wss).1 (cnt wss).2.1 (cnt wss).2.2.1 (cnt wss).2.2.2 (abu (abo fold wss)).many j with
     | true=>
      have HC:Hid (ac4 fold wss=50+(j:Int)):=akD a7 HJ e;go_wp2;go_ret;exact⟨by rw [HC.out];rfl,aa⟩
     | false=>
      have ap:Hid (∀n,n<j+1->avb (cnt wss).1 (cnt wss).2.1 (cnt wss).2.2.1 (cnt wss).2.2.2 (abu (abo fold wss)).many n=false):=by
       intro n hn
       by_cases h:n=j
       · rw [h];exact e
       · exact HJ n (by omega)
      go_wp2
      go_roundw
      case rel=>exact⟨j+1,by omega,by go_num,ab,ap⟩
      case measure=>simp [intOf];omega
    ·
     obtain rfl:j=6:=by omega
     have HC:Hid (ac4 fold wss=0):=aju HJ;go_wp2;go_ret;exact⟨by rw [HC.out];rfl,al⟩
end
abbrev aaF (fold:Bool)(a:Option Addr)(Z Y:Nat):Array Value:=#[.bool fold,.slice a Z Y]
theorem aoe (fold:Bool)(a b:Option Addr)(H B Z Y:Nat)(xs:List Int)(wss:List (List Int))(w:World)(v:Bys w a H xs)(y:Wds w b Z wss)(V:Z<=1000000)(A:∀x∈wss,x.length<=1000000) :
  Calls ZP 224 #[.agg (aaF fold b Z Y),.slice a H B] w fun e w'=>e=.returned (.tuple #[.int .i64 (if aaw fold xs wss<0 then 0 else aaw fold xs wss),.bool (decide (0<=aaw fold xs wss))])/\Below w.heap.size w w':=by
 have C:=apI fold xs wss;have I:=v.below ((axf _ _).alloc (axe _) (.cells (aaF fold b Z Y) 24));have J:=y.below ((axf _ _).alloc (axe _) (.cells (aaF fold b Z Y) 24));obtain⟨n,D⟩:∃n,aaw fold xs wss=n:=⟨_,rfl⟩;have z:Hid (aaw fold xs wss=n):=D;rw [D] at C ⊢;clear D;have N:∀X,Below (w.alloc (.cells (aaF fold b Z Y) 24)).heap.size (w.alloc (.cells (aaF fold b Z Y) 24)) X->Below w.heap.size w X:=fun X U=>((axf _ _).alloc (axe _) _).trans (U.mono (by simp))
 by_cases h:n<0
 ·
  rw [if_pos h,decide_eq_false (by omega)];go_enter func224,ntmps224
  go_wp2_with fail
  refine (akd fold a b H B Z Y xs wss _ I J V A).mono ?_;rintro e X ⟨rfl,U⟩;rw [z.out];go_wp2;go_ret2;exact⟨rfl,N _ U⟩
 ·
  rw [if_neg h,decide_eq_true (by omega)];go_enter func224,ntmps224
  go_wp2_with fail
  refine (akd fold a b H B Z Y xs wss _ I J V A).mono ?_;rintro e X ⟨rfl,U⟩;rw [z.out];go_wp2;go_ret2;exact⟨rfl,N _ U⟩
theorem aqN (a b:Option Addr)(Y N Z U:Nat)(xs ys:List Int)(w:World)(V:Bys w a Y xs)(X:Bys w b Z ys) :
  Calls ZP 225 #[.slice a Y N,.slice b Z U] w fun e w'=>e=.returned (.bool (decide (xs=ys)))/\w=w':=by
 have c1:=abz V;have c2:=abz X;go_enter func225,ntmps225;go_wp2;go_ret;refine⟨?_,rfl⟩;show Ending.returned (.bool ((strOfNums xs).toList==(strOfNums ys).toList))=_;rw [ajh V.2 X.2]
def acv (f g:Bool)(wss Z:List (List Int)):Bool:=f==g&&decide (wss=Z)
theorem agn {f g:Bool}{wss Z:List (List Int)}(h:f≠g∨wss.length≠Z.length):acv f g wss Z=false:=by
 rcases h with h | h
 · cases f<;>cases g<;>simp_all [acv]
 · have:wss≠Z:=fun e=>h (by rw [e]);simp [acv,this]
theorem apK (f g:Bool)(a b:Option Addr)(X ca N cb:Nat)(wss Z:List (List Int))(w:World)(z:Wds w a X wss)(B:Wds w b N Z)(a7:X<=1000000) :
  Calls ZP 181 #[.agg (aaF f a X ca),.agg (aaF g b N cb)] w fun e w'=>e=.returned (.bool (acv f g wss Z))/\Below w.heap.size w w':=by
 have Y:Below w.heap.size w ((w.alloc (.cells (aaF f a X ca) 24)).alloc (.cells (aaF g b N cb) 24)):=((axf _ _).alloc (axe _) _).alloc (by simp) _;have HA:=ax3 z.len;have HB:=ax3 B.len
 by_cases U:f=g
 ·
  subst U
  by_cases hl:X=N
  ·
   subst hl;have A:=z.below Y;have C:=B.below Y;clear z B;go_enter func181,ntmps181;go_wp2
   go_loop [24] (fun i=>∃k:Nat,k<=X/\i=.int .i64 k/\Hid (wss.take k=Z.take k)) (fun i=>X-(intOf i).toNat)
   case atStart=>exact⟨0,axh _,rfl,by simp [Hid]⟩
   case round=>
    obtain⟨k,hk,rfl,HK⟩:=hrel
    by_cases J:k<X
    ·
     obtain⟨bb,off,a',l,c,x,rfl,a8,D,o,hX,a6⟩:=A.at_ J;obtain⟨aa,v,a2,l2,c2,y,rfl,a1,I,s,hY,j⟩:=C.at_ J
     go_wp2_with fail
     refine (aqN a' a2 l c l2 c2 x y _ hX hY).mono ?_;rintro e w1 ⟨rfl,rfl⟩;have HX:=ax3 o;have HY:=ax3 s;clear o s
     by_cases h:x=y
     ·
      rw [decide_eq_true h];have V:Hid (wss.take (k+1)=Z.take (k+1)):=by rw [aa7 HX.out,aa7 HY.out,HK.out,h];rfl
      clear h;go_wp2
      go_round
      case rel=>exact⟨k+1,by omega,by go_num,V⟩
      case measure=>simp [intOf];omega
     ·
      rw [decide_eq_false h];have V:Hid (acv f f wss Z=false):=by
       have:wss≠Z:=fun e=>by
        have h1:=HX.out;rw [e,HY.out] at h1;exact h (awV h1).symm
       simp [Hid,acv,this]
      clear h;go_wp2;go_ret;exact⟨by rw [V.out];rfl,Y⟩
    ·
     obtain rfl:k=X:=by omega
     have V:Hid (acv f f wss Z=true):=by
      have h:=HK.out;rw [axo (by rw [HA.out];exact axe _),axo (by rw [HB.out];exact axe _)] at h;simp [Hid,acv,h]
     go_wp2;go_ret;exact⟨by rw [V.out];rfl,Y⟩
  ·
   have V:Hid (acv f f wss Z=false):=agn (.inr (by rw [HA.out,HB.out];exact hl));have H:((X:Int) != (N:Int))=true:=by simp;omega
   go_enter func181,ntmps181;go_wp2
   all_goals
    go_ret;exact⟨by rw [V.out];rfl,Y⟩
 ·
  have V:Hid (acv f g wss Z=false):=agn (.inl U);have H:(f != g)=true:=by simp [U]
  go_enter func181,ntmps181;go_wp2
  all_goals
   go_ret;exact⟨by rw [V.out];rfl,Y⟩
theorem ad4 {w:World}{B size n g:Nat}{e t:TypeId}{v:Value}{xs:List Value}{cs:Array Value}{U:Nat×Nat}(h:w.ownsRow B e size v n xs)(Z:w.heap[g]?=some (.cells cs t U))(Y:t≠e):v.ownBlock≠some g:=by
 intro X;obtain⟨c,f,V⟩:=Lib.ownsRow_kind h g X;rw [V] at Z
 injection Z with Z
 injection Z with _ ht
 exact Y ht.symm
theorem aag {w w':World}{B size n:Nat}{e:TypeId}{v:Value}{xs:List Value}(h:w.ownsRow B e size v n xs)(Z:Below w.heap.size w w'):w'.ownsRow B e size v n xs:=
 h.kept (row:=none) (aaG Z) (by cases v.ownBlock<;>simp)
def adq (w:World)(base:Nat)(v:Value)(wss:List (List Int)):Prop:=
 ∃es:List Value,w.ownsRow base 32 1 v wss.length es/\es.length=wss.length/\∀(i:Nat) (e:Value) (xs:List Int),es[i]?=some e->wss[i]?=some xs->ag6 w base e xs.length xs/\∀x∈xs,0<=x/\x<=255
theorem adq.nil (w:World)(base:Nat):adq w base (.slice none 0 0) []:=⟨[],ayy _ _ _ _,rfl,fun i e xs h=>by simp at h⟩
theorem adq.below {w w':World}{base:Nat}{v:Value}{wss:List (List Int)}(h:adq w base v wss)(X:Below w.heap.size w w'):adq w' base v wss:=by
 obtain⟨es,h1,h2,h3⟩:=h;exact⟨es,aag h1 X,h2,fun i e xs Y Z=>⟨aag (h3 i e xs Y Z).1 X,(h3 i e xs Y Z).2⟩⟩
theorem adq.turned {w w':World}{base g:Nat}{v:Value}{wss:List (List Int)}{cs:Array Value}{t:TypeId}{J:Nat×Nat}(h:adq w base v wss)(U:w.grownBy w' (some g))(V:w.heap[g]?=some (.cells cs t J))(h1:t≠32)(h2:t≠5):adq w' base v wss:=by
 obtain⟨es,N,I,X⟩:=h;exact⟨es,N.kept U (.inr (ad4 N V h1)),I,fun i e xs Y Z=>⟨(X i e xs Y Z).1.kept U (.inr (ad4 (X i e xs Y Z).1 V h2)),(X i e xs Y Z).2⟩⟩
theorem adq.wds {w:World}{base:Nat}{v:Value}{wss:List (List Int)}(h:adq w base v wss):∃a c,v=.slice a wss.length c/\wss.length<=c/\Wds w a wss.length wss:=by
 obtain⟨es,h1,h2,h3⟩:=h;have H:∀(i:Nat) (e:Value),es[i]?=some e->∃a l c xs,e=Value.slice a l c/\wss[i]?=some xs/\Bys w a l xs/\l<=c:=by
  intro i e Z;have A:=(awR.1 Z).1;obtain⟨xs,U⟩:∃xs,wss[i]?=some xs:=⟨wss[i]'(by omega),by simp⟩;obtain⟨ho,B⟩:=h3 i e xs Z U;obtain⟨a,c,I,N,J⟩:=afp ho B;exact⟨a,_,c,xs,I,U,J,N⟩
 let f:Value->Option Addr×Nat×Nat:=fun e=>match e with | .slice a l c=>(a,l,c) | _=>(none,0,0)
 have V:(es.map f).map (fun v=>Value.slice v.1 v.2.1 v.2.2)=es:=by
  apply ayX
  intro i;rw [List.map_map,axa]
  cases Z:es[i]? with
  | none=>rfl
  | some e=>
   obtain⟨a,l,c,xs,rfl,_⟩:=H i e Z
   rfl
 obtain⟨a,c,I,N,D⟩:=aaC (enc:=fun v:Option Addr×Nat×Nat=>Value.slice v.1 v.2.1 v.2.2) (xs:=es.map f) (by rw [V];exact h1);refine⟨a,c,I,N,es.map f,D,by rw [ayq,h2],fun i v xs X U=>?_⟩;rw [axa,ayw] at X;obtain⟨e,Z,rfl⟩:=X;obtain⟨y,l,z,xs',rfl,Y,J,C⟩:=H i e Z;rw [U] at Y;obtain rfl:=awV Y;exact⟨J,C⟩
theorem adq.step {W w':World}{base:Nat}{v v' e:Value}{wss:List (List Int)}{xs:List Int}{es:List Value}(h1:W.ownsRow base 32 1 v wss.length es)(h2:es.length=wss.length)
  (h3:∀(i:Nat) (e:Value) (xs:List Int),es[i]?=some e->wss[i]?=some xs->ag6 W base e xs.length xs/\∀x∈xs,0<=x/\x<=255)
  (I:ag6 W base e xs.length xs) (H:∀x∈xs,0<=x/\x<=255) (X:w'.ownsRow base 32 1 v' (wss.length+1) (es++[e])) (J:W.grownBy w' v.ownBlock):adq w' base v' (wss++[xs]):=by
 have V:∀{e:Value} {n:Nat} {xs:List Int},ag6 W base e n xs->e.ownBlock=none∨e.ownBlock≠v.ownBlock:=by
  intro e n xs ho
  cases D:v.ownBlock with
  | none=>cases e.ownBlock<;>simp
  | some g=>
   right
   obtain⟨c,z,C⟩:=Lib.ownsRow_kind h1 g D;exact ad4 ho C (of_decide_eq_true (by kernel_rfl))
 refine⟨es++[e],by rw [List.length_append];exact X,by simp [h2],fun i A ys Z Y=>?_⟩;rw [List.getElem?_append] at Z Y
 by_cases N:i<es.length
 · rw [if_pos N] at Z;rw [if_pos (by omega)] at Y;obtain⟨ho,B⟩:=h3 i A ys Z Y;exact⟨ho.kept J (V ho),B⟩
 ·
  rw [if_neg N] at Z;rw [if_neg (by omega)] at Y;have U:i-es.length=0:=by
   have:=(awR.1 Z).1;simp at this;omega
  rw [U] at Z;rw [show i-wss.length=0 by omega] at Y;simp at Z Y;subst Z Y;exact⟨I.kept J (V I),H⟩
def apa (fold:Bool)(Z:List (List Int))(x:List Int):List (List Int):=if aaw fold x Z<0 then Z++[aai fold x] else Z
def aaj (fold:Bool)(wss:List (List Int)):List (List Int):=wss.foldl (apa fold) []
theorem ac3 (fold:Bool)(l:List (List Int))(x:List Int):aaj fold (l++[x])=apa fold (aaj fold l) x:=by simp [aaj,axJ]
theorem afb (fold:Bool)(l:List (List Int)):(aaj fold l).length<=l.length:=by
 obtain⟨n,Y⟩:∃n,l.length=n:=⟨_,rfl⟩
 induction n generalizing l with
 | zero=>obtain rfl:=ayk Y;simp [aaj]
 | succ n ih=>
  obtain⟨Z,x,rfl⟩:∃Z x,l=Z++[x]:=⟨l.dropLast,l.getLast (by intro h;simp [h] at Y),(ayO _).symm⟩;have:=ih Z (by simpa using Y);rw [ac3];unfold apa
  split<;>simp<;>omega
theorem ake {fold:Bool}{M:Nat}(l:List (List Int))(h:∀x∈l,x.length<=M):∀x∈aaj fold l,x.length<=M:=by
 obtain⟨n,V⟩:∃n,l.length=n:=⟨_,rfl⟩
 induction n generalizing l with
 | zero=>obtain rfl:=ayk V;simp [aaj]
 | succ n ih=>
  obtain⟨X,x,rfl⟩:∃X x,l=X++[x]:=⟨l.dropLast,l.getLast (by intro h;simp [h] at V),(ayO _).symm⟩;have Y:=ih X (fun y Z=>h y (by simp [Z])) (by simpa using V);rw [ac3];unfold apa
  split
  ·
   intro y Z
   rcases ayd.1 Z with Z | Z
   · exact Y y Z
   · simp at Z;rw [Z,aas];exact h x (by simp)
  · exact Y
theorem ad3 {fn:Func}{p u:Tmp}{tmps:Array Value}{W:World}{B:Nat}{x y:Value}(h:fn.results=#[.cell p 24,.tmp u])(Z:tmps.getD p undef=.pointer (some ⟨B,0,none⟩))(X:W.heap[B]?=some (.cells #[x,y] 24 (0,0))) :
  (results fn tmps).run ZP W=.ok (.tuple #[.agg #[x,y],tmps.getD u undef]) W:=by
 have Y:(loadVar 24 ⟨B,0,none⟩).run ZP W=.ok (.agg #[x,y]) W:=run_loadVar_row W B 24 24 #[x,y] (0,0) _ X underlying24 rfl (by kernel_rfl);rw [results_cell_tmp h,Z];simp [asAddr,Y,Result.andThen]
theorem auM (fold:Bool)(a:Option Addr)(X D:Nat)(wss:List (List Int))(w:World)(z:Wds w a X wss)(N:X<=1000000)(A:∀x∈wss,x.length<=1000000)(B:(abo fold wss).length<=1000000)(C:ac4 fold wss≠0) :
  Calls ZP 180 #[.bool fold,.slice a X D] w fun e w'=>e=.returned (.tuple #[.agg (aaF false none 0 0),.int .i64 (ac4 fold wss)])/\Below w.heap.size w w':=by
 have I:=z.below ((axf _ _).alloc (axe _) (.cells (aaF false none 0 0) 24));obtain⟨n,U⟩:∃n,ac4 fold wss=n:=⟨_,rfl⟩;have y:Hid (ac4 fold wss=n):=U;rw [U] at C ⊢;clear U;go_enter func180,ntmps180
 go_wp2_with fail
 refine (alo fold a X D wss _ I N A B).mono ?_;rintro e Z ⟨rfl,H⟩;rw [y.out];have Y:Z.heap[w.heap.size]?=some (.cells (aaF false none 0 0) 24 (0,0)):=(H.block _ (by simp)).trans (axg _ _);have J:Below w.heap.size w Z:=((axf _ _).alloc (axe _) _).trans (H.mono (by simp));have z0:Z.cell? ⟨w.heap.size,0,none⟩=some (.bool false):=by simp [World.cell?,Y]
 have v:Z.cell? ⟨w.heap.size,1,none⟩=some (.slice none 0 0):=by simp [World.cell?,Y]
 have o:Z.frozen? ⟨w.heap.size,0,none⟩=false:=by simp [World.frozen?,Y]
 have s:Z.frozen? ⟨w.heap.size,1,none⟩=false:=by simp [World.frozen?,Y]
 go_wp2;have V:=aa4 (i:=1) (aa4 (i:=0) Y (.bool false)) (.slice none 0 0);refine bodyPost_ret (ad3 rfl rfl (by simpa using V)) rfl ?_;exact⟨rfl,(J.setCell (axe _) _).setCell (axe _) _⟩
theorem amV (fold:Bool)(a:Option Addr)(Y N:Nat)(xs:List Int)(w:World)(U:Bys w a Y xs)(V:Y<=1000000) :
  Calls ZP 134 #[.bool fold,.slice a Y N] w fun e w'=>∃X c1,e=.returned (.slice X Y c1)/\ag6 w' w.heap.size (.slice X Y c1) Y (aai fold xs)/\Below w.heap.size w w':=
 (aoN fold a Y N xs w U V).mono fun e w' ⟨v,J,Z,I⟩=>by
  obtain⟨X,c1,rfl,_,h⟩:=afp Z (af7 U.2);exact⟨X,c1,J,Z,I⟩
theorem ahv {w:World}{b b' n:Nat}{v:Value}{xs:List Int}(h:ag6 w b v n xs)(Z:b'<=b):ag6 w b' v n xs:=Go.Joins.ownsRow_le h Z
theorem afB:(ZP.info? 32).map (fun i=>(i.zero,i.size,i.bytes))=some (some (.slice none 0 0),1,24):=by kernel_rfl
theorem asU (fold:Bool)(a:Option Addr)(la ca:Nat)(wss:List (List Int))(w:World)(hA:Wds w a la wss)(al:la<=1000000)(hM:∀x∈wss,x.length<=1000000)(hT:(abo fold wss).length<=1000000)(hc:ac4 fold wss=0) :
    Calls ZP 180 #[.bool fold,.slice a la ca] w fun e w'=>∃v,e=.returned (.tuple #[.agg #[.bool fold,v],.int .i64 0])/\adq w' w.heap.size v (aaj fold wss)/\Below w.heap.size w w':=by
  have aB:=hA.below ((axf _ _).alloc (axe _) (.cells (aaF false none 0 0) 24));have HN:Hid (ac4 fold wss=0):=hc;have HL:=ax3 hA.len;clear hc;go_enter func180,ntmps180
  go_wp2_with fail
  refine (alo fold a la ca wss _ aB al hM hT).mono ?_;rintro e Z ⟨rfl,hb⟩;rw [HN.out];have hz:Z.heap[w.heap.size]?=some (.cells (aaF false none 0 0) 24 (0,0)):=(hb.block _ (by simp)).trans (axg _ _);have aA:Below w.heap.size w Z:=((axf _ _).alloc (axe _) _).trans (hb.mono (by simp));have ae:w.heap.size<Z.heap.size:=(awU.1 hz).1;go_wp2
  go_loopw [23] (fun i wr=>∃(k:Nat) (v:Value),k<=la/\i=.int .i64 k/\Below w.heap.size w wr/\wr.heap[w.heap.size]?=some (.cells (aaF false none 0 0) 24 (0,0))/\wr.heap[Z.heap.size]?=some (.cells #[.bool fold,v] 24 (0,0))/\adq wr w.heap.size v (aaj fold (wss.take k))) (fun i _=>la-(intOf i).toNat)
  case atStart=>exact⟨0,.slice none 0 0,axh _,rfl,aA.alloc (by omega) _,(axi _ _ _ ae).trans hz,axg _ _,by simpa [aaj] using adq.nil _ _⟩
  case round=>
    obtain⟨k,v,hk,rfl,a2,Y,N,V⟩:=hrel
    by_cases ak:k<la
    ·
      obtain⟨bb,off,a',l,c,x,rfl,aH,aa,hx,hX,aF⟩:=(hA.below a2).at_ ak;have ah:l<=1000000:=by have:=adg hM hx;rw [hX.len] at this;exact this
      obtain⟨H,I,rfl,au,hW⟩:=V.wds;have s0:wr.cell? ⟨Z.heap.size,0,none⟩=some (.bool fold):=by simp [World.cell?,N]
      have s1:wr.cell? ⟨Z.heap.size,1,none⟩=some (.slice H (aaj fold (wss.take k)).length I):=by simp [World.cell?,N]
      have ad:(aaj fold (wss.take k)).length<=1000000:=by have:=afb fold (wss.take k);have:=axj k wss;omega
      have HX:=ax3 hx;clear hx
      go_wp2_with fail
      refine (aoe fold a' H l c _ I x (aaj fold (wss.take k)) wr hX hW ad (ake _ (fun y hy=>hM y (axk hy)))).mono ?_;rintro e U ⟨rfl,z⟩;have a6:Below w.heap.size w U:=a2.trans (z.mono a2.size);have C:U.heap[w.heap.size]?=_:=(z.block _ (awU.1 Y).1).trans Y;have B:U.heap[Z.heap.size]?=_:=(z.block _ (awU.1 N).1).trans N;have A:=V.below z;clear V hW N Y s0 s1 aa;have HM:Hid (aaj fold (wss.take (k+1))=apa fold (aaj fold (wss.take k)) x):=by rw [aa7 HX.out,ac3];rfl
      obtain⟨q,hq⟩:∃q,aaw fold x (aaj fold (wss.take k))=q:=⟨_,rfl⟩;have HQ:Hid (aaw fold x (aaj fold (wss.take k))=q):=hq;rw [hq];clear hq
      by_cases ac:0<=q
      ·
        rw [if_neg (by omega),decide_eq_true ac];have HF:Hid (aaj fold (wss.take (k+1))=aaj fold (wss.take k)):=by
          rw [HM.out];unfold apa;rw [HQ.out,if_neg (by omega)]
          rfl
        go_wp2
        go_roundw
        case rel=>exact⟨k+1,_,by omega,by go_num,a6,C,B,by rw [HF.out];exact A⟩
        case measure=>simp [intOf];omega
      ·
        rw [if_pos (by omega),decide_eq_false ac];have HF:Hid (aaj fold (wss.take (k+1))=aaj fold (wss.take k)++[aai fold x]):=by
          rw [HM.out];unfold apa;rw [HQ.out,if_pos (by omega)]
          rfl
        obtain⟨i0,hi,aq,ap,ao⟩:=info_parts afB;have s1:U.cell? ⟨Z.heap.size,1,none⟩=some (.slice H (aaj fold (wss.take k)).length I):=by simp [World.cell?,B]
        obtain⟨es,e1,e2,e3⟩:=A;have ay:∀n,Bys (U.drewN n) a' l x:=fun n=>(hX.below z).below ⟨rfl,rfl,rfl,axe _,fun _ _=>rfl⟩;have hd:∀n,Below U.heap.size U (U.drewN n):=fun n=>⟨rfl,rfl,rfl,axe _,fun _ _=>rfl⟩;obtain⟨m,hm⟩:∃m,(aaj fold (wss.take k)).length=m:=⟨_,rfl⟩;rw [hm] at s1 B e1 e2 ad ⊢;have ab:=ax3 hm;clear hm;go_wp2;have ax:Bys U.drew a' l x:=ay 1;have ar:Below U.heap.size U U.drew:=hd 1
        go_region_law (first
          | (go_simp;go_at_call 134;refine (amV fold a' l c x U.drew ax ah).mono ?_;rintro e h ⟨a3,c3,rfl,a7,aw⟩
             have s:Below U.heap.size U h:=ar.trans aw;have o:=aag e1 s;have D:h.heap[Z.heap.size]?=some (.cells #[.bool fold,.slice H m I] 24 (0,0)):=(s.block _ (awU.1 B).1).trans B;have af:h.cell? ⟨Z.heap.size,1,none⟩=some (.slice H m I):=by simp [World.cell?,D]
             have am:Z.heap.size<h.heap.size:=(awU.1 D).1;have aD:Z.heap.size≠h.heap.size:=by omega
             have aC:h.heap.size≠Z.heap.size:=by omega
             have aE:(h.alloc (.cells #[.slice a3 l c3] 32)).cell? ⟨Z.heap.size,1,none⟩=some (.slice H m I):=by rw [axl _ _ _ am];exact af
             have aj:=ad4 o D (of_decide_eq_true (by kernel_rfl));have J:Below w.heap.size w h:=a6.trans (s.mono a6.size);dsimp only)
          | (refine step_append_lies _ (by rfl) _ _ 22 (by rfl) w.heap.size 32 i0 (.slice none 0 0) 1 24 underlying22 hi aq ap ao rfl (by decide) (.slice H m I) m es (by rfl) (o.alloc _) ⟨h.heap.size,0,none⟩ 1 1 [.slice a3 l c3] (by rfl) rfl (cell_one_new _ _ _) (by simp [Value.oneCell']) (by decide) (by unfold maxLen;omega) (by omega) (by have:=J.size;simp;omega) _ rfl ?_
             intro g5 c5 w5 a8 X aI aG;have a1:w5.heap[Z.heap.size]?=some (.cells #[.bool fold,.slice H m I] 24 (0,0)):=(X.block _ (by simp;have:=(awU.1 D).1;omega) (Ne.symm aj)).trans ((axi _ _ _ (awU.1 D).1).trans D);have q0:w5.cell? ⟨Z.heap.size,1,none⟩=some (.slice H m I):=by simp [World.cell?,a1]
             have q1:w5.frozen? ⟨Z.heap.size,1,none⟩=false:=by simp [World.frozen?,a1]))
        all_goals
          go_wp2;have az:Below w.heap.size w w5:=(J.alloc (by have:=J.size;omega) _).grown X (by simp;have:=J.size;omega) (fun j hj=>(o.lt j hj).1);have ag:w5.heap[w.heap.size]?=some (.cells (aaF false none 0 0) 24 (0,0)):=by
            have h3:h.heap[w.heap.size]?=_:=(s.block _ (awU.1 C).1).trans C;exact (X.block _ (by simp;have:=(awU.1 h3).1;omega) (Ne.symm (ad4 o h3 (of_decide_eq_true (by kernel_rfl))))).trans ((axi _ _ _ (awU.1 h3).1).trans h3)
          go_roundw
          case rel=>
            refine⟨k+1,_,by omega,by go_num,az.setCell (by show w.heap.size<=Z.heap.size;omega) _,(axn w5 ⟨Z.heap.size,1,none⟩ _ _ (by simp;omega)).trans ag,by simpa using aa4 (i:=1) a1 (.slice (some ⟨g5,0,none⟩) (m+1) c5),?_⟩;rw [HF.out];have ai:=adq.step (wss:=aaj fold (wss.take k)) (xs:=aai fold x) (e:=.slice a3 l c3) (es:=es) (v:=.slice H m I) (by rw [ab.out];exact o.alloc _) (by rw [ab.out];exact e2)
              (fun i e xs he hx=>⟨aag (aag (e3 i e xs he hx).1 s) ((axf _ _).alloc (axe _) _),(e3 i e xs he hx).2⟩) (by rw [aas,hX.len];exact (ahv (a7.alloc _) (by have:=a6.size;simpa using this))) (af7 hX.2) (by rw [ab.out];exact a8) X
            exact ai.turned (aa9 w5 Z.heap.size 1 _) a1 (of_decide_eq_true (by kernel_rfl)) (of_decide_eq_true (by kernel_rfl))
          case measure=>simp [intOf];omega
    ·
      obtain rfl:k=la:=by omega
      have HF:Hid (wss.take k=wss):=axo (by have:=HL.out;omega);have s0:wr.cell? ⟨Z.heap.size,0,none⟩=some (.bool fold):=by simp [World.cell?,N]
      obtain⟨H,I,rfl,au,hW⟩:=V.wds;have s1:wr.cell? ⟨Z.heap.size,1,none⟩=some (.slice H (aaj fold (wss.take k)).length I):=by simp [World.cell?,N]
      have z0:wr.cell? ⟨w.heap.size,0,none⟩=some (.bool false):=by simp [World.cell?,Y]
      have z1:wr.cell? ⟨w.heap.size,1,none⟩=some (.slice none 0 0):=by simp [World.cell?,Y]
      have y0:wr.frozen? ⟨w.heap.size,0,none⟩=false:=by simp [World.frozen?,Y]
      have y1:wr.frozen? ⟨w.heap.size,1,none⟩=false:=by simp [World.frozen?,Y]
      go_wp2;have C:=aa4 (i:=1) (aa4 (i:=0) Y (.bool fold)) (.slice H (aaj fold (wss.take k)).length I);refine bodyPost_ret (ad3 rfl rfl (by simpa using C)) rfl ?_;refine⟨_,rfl,?_,(a2.setCell (axe _) _).setCell (axe _) _⟩;have ho:=(V.turned (aa9 wr w.heap.size 0 (.bool fold)) Y (of_decide_eq_true (by kernel_rfl)) (of_decide_eq_true (by kernel_rfl))).turned (aa9 _ w.heap.size 1 (.slice H (aaj fold (wss.take k)).length I)) (aa4 (i:=0) Y (.bool fold)) (of_decide_eq_true (by kernel_rfl)) (of_decide_eq_true (by kernel_rfl));rw [HF.out] at ho ⊢;exact ho
def aan (fold:Bool)(wss:List (List Int)):Bool:=decide (ac4 fold wss=0)&&decide (aaj fold wss=wss)
theorem aft (fold:Bool)(a:Option Addr)(X J:Nat)(wss:List (List Int))(w:World)(j:Wds w a X wss)(C:X<=1000000)(hM:∀x∈wss,x.length<=1000000)(hT:(abo fold wss).length<=1000000) :
  Calls ZP 130 #[.agg (aaF fold a X J)] w fun e w'=>e=.returned (.bool (aan fold wss))/\Below w.heap.size w w':=by
 have N:Below w.heap.size w (w.alloc (.cells (aaF fold a X J) 24)):=(axf _ _).alloc (axe _) _;have B:=j.below N;have H:=axg w (.cells (aaF fold a X J) 24)
 by_cases V:ac4 fold wss=0
 ·
  have h:Hid (aan fold wss=acv fold fold (aaj fold wss) wss):=by simp [Hid,aan,acv,V]
  go_enter func130,ntmps130
  go_wp2_with fail
  refine (asU fold a X J wss _ B C hM hT V).mono ?_;rintro e Y ⟨v,rfl,I,A⟩;have Z:Below w.heap.size w Y:=N.trans (A.mono (by simp));obtain⟨av,cv,rfl,a7,hW⟩:=I.wds;have h1:Y.heap[w.heap.size]?=_:=(A.block _ (by simp)).trans H;have a1:w.heap.size<Y.heap.size:=(awU.1 h1).1;have c0:Y.cell? ⟨w.heap.size,0,none⟩=some (.bool fold):=by simp [World.cell?,h1]
  have c1:Y.cell? ⟨w.heap.size,1,none⟩=some (.slice a X J):=by simp [World.cell?,h1]
  have D:(aaj fold wss).length<=1000000:=by have:=afb fold wss;have:=j.len;omega
  have a2:w.heap.size≠Y.heap.size:=by omega
  have U:Below Y.heap.size Y (Y.alloc (.cells (aaF fold av (aaj fold wss).length cv) 24)):=(axf _ _).alloc (axe _) _;have s:=hW.below U;have o:=(j.below Z).below U;clear V
  go_wp2_with fail
  refine (apK fold fold av a _ cv X J (aaj fold wss) wss _ s o D).mono ?_;rintro e w3 ⟨rfl,y⟩;go_wp2;go_ret;exact⟨by rw [h.out];rfl,Z.trans ((U.trans (y.mono (by simp))).mono Z.size)⟩
 ·
  have h:Hid (aan fold wss=false):=by simp [Hid,aan,V]
  obtain⟨n,z⟩:∃n,ac4 fold wss=n:=⟨_,rfl⟩;have HC:=ax3 V;have HN:Hid (ac4 fold wss=n):=z;rw [z] at V;clear z;have a6:(n==0)=false:=by simp [V]
  go_enter func130,ntmps130
  go_wp2_with fail
  refine (auM fold a X J wss _ B C hM hT HC.out).mono ?_;rintro e Y ⟨rfl,A⟩;rw [HN.out];have Z:Below w.heap.size w Y:=N.trans (A.mono (by simp));go_wp2;go_ret;exact⟨by rw [h.out];rfl,Z.alloc Z.size _⟩
def agV (wss:List (List Int)):Int:=(wss.map fun w=>min (w.length:Int) 4000).sum
def aca (wss:List (List Int)):Bool:=decide (wss.length > 80∨agV wss > 3000)
theorem aq9 (l:List (List Int))(x:List Int):agV (l++[x])=agV l+min (x.length:Int) 4000:=by simp [agV]
theorem aeu:∀(l:List (List Int)),0<=agV l
 | []=>by simp [agV]
 | x :: l=>by
  have:=aeu l;simp only [agV,ax0,List.sum_cons] at this ⊢;omega
theorem am5 (l m:List (List Int)):agV (l++m)=agV l+agV m:=by simp [agV]
theorem apU (l:List (List Int))(k:Nat):agV (l.take k)<=agV l:=by
 have h:=am5 (l.take k) (l.drop k);rw [axI] at h;have:=aeu (l.drop k);omega
theorem aix (a:Option Addr)(Z ca:Nat)(wss:List (List Int))(w:World)(y:Wds w a Z wss) :
  Calls ZP 47 #[.slice a Z ca] w fun e w'=>e=.returned (.bool (aca wss))/\w=w':=by
 have v:=ax3 y.len;obtain⟨G,I⟩:∃G,aca wss=G:=⟨_,rfl⟩;have o:Hid (aca wss=G):=I;rw [I];clear I;go_enter func47,ntmps47;go_wp2
 go_loop [3,4] (fun s i=>∃(k:Nat) (n:Int),k<=Z/\k<=81/\i=.int .i64 k/\s=.int .i64 n/\0<=n/\n<=7000/\Hid (n=agV (wss.take k))) (fun _ i=>Z-(intOf i).toNat)
 case atStart=>exact⟨0,0,axh _,by omega,rfl,rfl,by omega,by omega,by simp [Hid,agV]⟩
 case round=>
  obtain⟨k,n,hk,A,rfl,rfl,a6,a2,H⟩:=hrel;have U:¬(k<Z/\k<=80/\n<=3000)->Z<=80->Hid (G=decide (n > 3000)):=by
   intro h1 h2;have B:=v.out;have ht:=apU wss k;rw [Hid,<-o.out];unfold aca
   by_cases C:n > 3000
   ·
    rw [decide_eq_true C,decide_eq_true]
    right
    have:=H.out;omega
   ·
    have ab:k=Z:=by omega
    rw [decide_eq_false C,decide_eq_false];rintro (h | h)
    · omega
    · have h3:=H.out;rw [axo (by omega)] at h3;omega
  have X:80<Z->Hid (G=true):=by
   intro h;rw [Hid,<-o.out];exact decide_eq_true (.inl (by have:=v.out;omega))
  have j:=ax3 U;have V:=ax3 X;clear U X
  by_cases N:k<Z
  ·
   by_cases ad:k<=80
   ·
    by_cases a1:n<=3000
    ·
     obtain⟨bb,off,a',l,c,x,rfl,ac,J,D,z,aa⟩:=y.at_ N;have HS:Hid (n+min (l:Int) 4000=agV (wss.take (k+1))):=by rw [Hid,aa7 D,aq9,z.len,H.out]
     clear D z;have a8:0<=min (l:Int) 4000:=by omega
     have a7:min (l:Int) 4000<=4000:=by omega
     go_wp2
     go_round
     case rel=>exact⟨k+1,_,by omega,by omega,by go_num,rfl,by omega,by omega,HS⟩
     case measure=>simp [intOf];omega
    ·
     by_cases h8:Z<=80
     · have Y:=j.out (by omega) h8;go_wp2;go_ret;exact⟨by rw [Y.out];simp;try omega,rfl⟩
     · have Y:=V.out (by omega);go_wp2;go_ret;exact⟨by rw [Y.out];simp;try omega,rfl⟩
   · have Y:=V.out (by omega);go_wp2;go_ret;exact⟨by rw [Y.out];simp;try omega,rfl⟩
  ·
   by_cases h8:Z<=80
   · have Y:=j.out (by omega) h8;go_wp2;go_ret;exact⟨by rw [Y.out];simp;try omega,rfl⟩
   · have Y:=V.out (by omega);go_wp2;go_ret;exact⟨by rw [Y.out];simp;try omega,rfl⟩
theorem aoR (fold:Bool)(a:Option Addr)(Y V:Nat)(wss:List (List Int))(w:World)(U:Wds w a Y wss) :
  Calls ZP 45 #[.agg (aaF fold a Y V)] w fun e w'=>e=.returned (.bool (aca wss))/\Below w.heap.size w w':=by
 have Z:Below w.heap.size w (w.alloc (.cells (aaF fold a Y V) 24)):=(axf _ _).alloc (axe _) _;have X:=U.below Z;go_enter func45,ntmps45
 go_wp2_with fail
 refine (aix a Y V wss _ X).mono ?_;rintro e N ⟨rfl,rfl⟩;go_wp2;go_ret;exact⟨rfl,Z⟩
def aaW:List Int->List Int->Nat
 | x :: xs,y :: ys=>if x=y then aaW xs ys+1 else 0
 | _,_=>0
theorem afM:∀{k:Nat} {xs ys:List Int},k<=xs.length->k<=ys.length->xs.take k=ys.take k->(k=xs.length∨k=ys.length∨∃x y,xs[k]?=some x/\ys[k]?=some y/\x≠y)->aaW xs ys=k
 | 0,[],ys,_,_,_,_=>by simp [aaW]
 | 0,x :: xs,[],_,_,_,_=>by simp [aaW]
 | 0,x :: xs,y :: ys,_,_,_,h=>by
  rcases h with h | h | ⟨a,b,ha,Y,Z⟩
  · simp at h
  · simp at h
  · simp at ha Y;subst ha Y;simp [aaW,Z]
 | k+1,[],ys,h,_,_,_=>by simp at h
 | k+1,x :: xs,[],_,h,_,_=>by simp at h
 | k+1,x :: xs,y :: ys,h1,h2,h3,h4=>by
  simp only [List.take_succ_cons,axF] at h3;have X:=afM (k:=k) (xs:=xs) (ys:=ys) (by simpa using h1) (by simpa using h2) h3.2 (by simpa using h4);simp [aaW,h3.1,X]
theorem aoS (a b:Option Addr)(X ca V cb:Nat)(xs ys:List Int)(w:World)(hA:Bys w a X xs)(j:Bys w b V ys)(a2:X<=1000000)(a1:V<=1000000) :
  Calls ZP 213 #[.slice a X ca,.slice b V cb] w fun e w'=>e=.returned (.int .i64 (aaW xs ys))/\Below w.heap.size w w':=by
 have v:=ax3 hA.len;have z:=ax3 j.len;go_enter func213,ntmps213;go_wp2
 go_loopw [5] (fun i wr=>∃k:Nat,k<=X/\k<=V/\i=.int .i64 k/\Hid (xs.take k=ys.take k)/\Below w.heap.size w wr) (fun i _=>X-(intOf i).toNat)
 case atStart=>exact⟨0,axh _,axh _,rfl,by simp [Hid],axf _ _⟩
 case round=>
  obtain⟨k,a7,a6,rfl,HK,U⟩:=hrel;have Z:∀n,Below w.heap.size w (wr.drewN n):=fun n=>U.trans ⟨rfl,rfl,rfl,axe _,fun _ _=>rfl⟩;have Y:(k=X∨k=V∨∃x y,xs[k]?=some x/\ys[k]?=some y/\x≠y)->Hid (aaW xs ys=k):=fun h=>afM (by have:=v.out;omega) (by have:=z.out;omega) HK (by rw [v.out,z.out];exact h);have s:=ax3 Y;clear Y
  by_cases h1:k<X
  ·
   by_cases h2:k<V
   ·
    obtain⟨x,A⟩:∃x,xs[k]?=some x:=⟨xs[k]'(by rw [v.out];exact h1),by simp⟩;obtain⟨y,B⟩:∃y,ys[k]?=some y:=⟨ys[k]'(by rw [z.out];exact h2),by simp⟩;obtain⟨ba,oa,rfl,aa,I⟩:=(hA.below U).1.2.resolve_left (by omega);obtain⟨bb,ob,rfl,a8,J⟩:=(j.below U).1.2.resolve_left (by omega);have cx:=I k x A;have cy:=J k y B;have D:=ax3 A;have H:=ax3 B;clear A B I J
    by_cases N:x=y
    ·
     subst N;have o:Hid (xs.take (k+1)=ys.take (k+1)):=by rw [aa7 D.out,aa7 H.out,HK.out];rfl
     go_wp2
     go_quiet (fail)
     go_wp2
     go_roundw
     case rel=>exact⟨k+1,by omega,by omega,by go_num,o,Z _⟩
     case measure=>simp [intOf];omega
    ·
     have C:=s.out (.inr (.inr ⟨x,y,D.out,H.out,N⟩));go_wp2
     go_quiet (fail)
     go_wp2;go_ret;exact⟨by rw [C.out];rfl,Z _⟩
   ·
    obtain rfl:k=V:=by omega
    have C:=s.out (.inr (.inl rfl));go_wp2
    go_quiet (fail)
    go_wp2;go_ret;exact⟨by rw [C.out];rfl,Z _⟩
  ·
   obtain rfl:k=X:=by omega
   have C:=s.out (.inl rfl);go_wp2
   go_quiet (fail)
   go_wp2;go_ret;exact⟨by rw [C.out];rfl,Z _⟩
def aiW (fold:Bool)(Z:List (List Int))(x:List Int):Int:=Z.foldl (fun m y=>max m (aaW (aai fold x) (aai fold y):Int)) 0
def aeN (fold:Bool):List (List Int)->List (List Int)->Int->Int
 | _,[],n=>n
 | pre,x :: rest,n=>aeN fold (pre++[x]) rest (n+x.length-aiW fold pre x)
def ab4 (fold:Bool)(wss:List (List Int)):Int:=aeN fold [] wss 1
theorem agr (fold:Bool)(Z:List (List Int))(x y:List Int):aiW fold (Z++[y]) x=max (aiW fold Z x) (aaW (aai fold x) (aai fold y):Int):=by simp [aiW,axJ]
theorem ahr (fold:Bool):∀(rest Z:List (List Int)) (x:List Int) (n:Int),aeN fold Z (rest++[x]) n=aeN fold Z rest n+x.length-aiW fold (Z++rest) x
 | [],Z,x,n=>by simp [aeN]
 | y :: rest,Z,x,n=>by
  rw [ay1,aeN,aeN,ahr fold rest (Z++[y]) x];simp
theorem aek (fold:Bool)(l:List (List Int))(x:List Int):ab4 fold (l++[x])=ab4 fold l+x.length-aiW fold l x:=by
 unfold ab4;rw [ahr,ay0]
theorem aip:∀(xs ys:List Int),aaW xs ys<=xs.length
 | [],_=>by simp [aaW]
 | _ :: _,[]=>by simp [aaW]
 | x :: xs,y :: ys=>by
  have:=aip xs ys;unfold aaW
  split<;>simp<;>omega
theorem amk (fold:Bool)(x:List Int)(Z:List (List Int)):0<=aiW fold Z x/\aiW fold Z x<=x.length:=by
 obtain⟨n,X⟩:∃n,Z.length=n:=⟨_,rfl⟩
 induction n generalizing Z with
 | zero=>obtain rfl:=ayk X;simp [aiW]
 | succ n ih=>
  obtain⟨Y,y,rfl⟩:∃Y y,Z=Y++[y]:=⟨Z.dropLast,Z.getLast (by intro h;simp [h] at X),(ayO _).symm⟩;have h1:=ih Y (by simpa using X);have h2:=aip (aai fold x) (aai fold y);rw [aas] at h2;rw [agr];omega
theorem apS {fold:Bool}{M:Nat}(l:List (List Int))(h:∀x∈l,x.length<=M):1<=ab4 fold l/\ab4 fold l<=1+l.length*(M:Int):=by
 obtain⟨n,Y⟩:∃n,l.length=n:=⟨_,rfl⟩
 induction n generalizing l with
 | zero=>obtain rfl:=ayk Y;simp [ab4,aeN]
 | succ n ih=>
  obtain⟨Z,x,rfl⟩:∃Z x,l=Z++[x]:=⟨l.dropLast,l.getLast (by intro h;simp [h] at Y),(ayO _).symm⟩;have h1:=ih Z (fun y X=>h y (by simp [X])) (by simpa using Y);have h2:=amk fold x Z;have V:=h x (by simp);rw [aek];have e:((Z++[x]).length:Int)*(M:Int)=Z.length*(M:Int)+M:=by
   rw [List.length_append,axU,axV,az2,az1];simp
  rw [e];omega
theorem atX (fold:Bool)(a:Option Addr)(Z N:Nat)(xs:List Int)(w:World)(U:Bys w a Z xs)(V:Z<=1000000) :
  Calls ZP 124 #[.bool fold,.slice a Z N] w fun e w'=>∃X c1,e=.returned (.slice X Z c1)/\Bys w' X Z (aai fold xs)/\Below w.heap.size w w':=
 (amD fold a Z N xs w U V).mono fun e w' ⟨v,J,Y,I⟩=>by
  obtain⟨X,c1,rfl,_,h⟩:=afp Y (af7 U.2);exact⟨X,c1,J,h,I⟩
theorem anA (fold:Bool)(a:Option Addr)(D ca:Nat)(wss:List (List Int))(w:World)(hA:Wds w a D wss)(av:D<=1000000)(hM:∀x∈wss,x.length<=1000000) :
    Calls ZP 174 #[.bool fold,.slice a D ca] w fun e w'=>e=.returned (.int .i64 (ab4 fold wss))/\Below w.heap.size w w':=by
  have HL:=ax3 hA.len;have HM:=ax3 hM;have HA:=ax3 hA;clear hA hM;go_enter func174,ntmps174;go_wp2
  go_loopw [5,6] (fun s i wr=>∃(k:Nat) (n:Int),k<=D/\i=.int .i64 k/\s=.int .i64 n/\Hid (n=ab4 fold (wss.take k))/\Below w.heap.size w wr) (fun _ i _=>D-(intOf i).toNat)
  case atStart=>exact⟨0,1,axh _,rfl,rfl,by simp [Hid,ab4,aeN],axf _ _⟩
  case round=>
    obtain⟨k,n,hk,rfl,rfl,HN,Z⟩:=hrel
    by_cases ag:k<D
    ·
      obtain⟨A,off,a',l,c,x,rfl,ah,V,hx,hX,au⟩:=HA.out.at_ ag;have a7:l<=1000000:=by have:=adg HM.out hx;rw [hX.len] at this;exact this
      have HX:=ax3 hx;have B:=ax3 hX;have J:∀v:World,Below w.heap.size w v->v.cell? ⟨A,off+k,none⟩=some (.slice a' l c):=fun v hv=>(hv.cell (p:=⟨A,off+k,none⟩) ah).trans V;have H:=ax3 J;clear hx hX J V;go_wp2
      go_loopw [7,8] (fun o i wr=>∃(j:Nat) (m:Int),j<=k/\i=.int .i64 j/\o=.int .i64 m/\Hid (m=aiW fold (wss.take j) x)/\Below w.heap.size w wr) (fun _ i _=>k-(intOf i).toNat)
      case atStart=>exact⟨0,0,axh _,rfl,rfl,by simp [Hid,aiW],Z⟩
      case round=>
        clear Z;obtain⟨j,m,hj,rfl,rfl,HO,Z⟩:=hrel
        by_cases aw:j<k
        ·
          obtain⟨b2,ao,a2,z,c2,y,e2,a8,X,hy,hY,aq⟩:=HA.out.at_ (show j<D by omega);simp only [ayN,Addr.mk.injEq,and_true] at e2;obtain⟨rfl,rfl⟩:=e2;have a6:z<=1000000:=by have:=adg HM.out hy;rw [hY.len] at this;exact this
          have N:Hid (∀v:World,Below w.heap.size w v->v.cell? ⟨A,off+j,none⟩=some (.slice a2 z c2)):=fun v hv=>(hv.cell (p:=⟨A,off+j,none⟩) a8).trans X;have HS:Hid (max m (aaW (aai fold x) (aai fold y):Int)=aiW fold (wss.take (j+1)) x):=by
            rw [Hid,HO.out,aa7 (show wss[j]?=some y from hy),agr]
          have am:=ax3 hY;clear X hy hY;have ac:Bys wr.drew a' l x:=B.out.below (Z.trans ⟨rfl,rfl,rfl,axe _,fun _ _=>rfl⟩);have ad:Below w.heap.size w wr.drew:=Z.trans ⟨rfl,rfl,rfl,axe _,fun _ _=>rfl⟩;have k1:=H.out wr Z;have k2:=N.out wr Z;have i1:(0:Int)<=(j:Int):=by omega
          have i2:(j:Int)<(D:Int):=by omega
          have i3:(0:Int)<=(k:Int):=by omega
          have i4:(k:Int)<(D:Int):=by omega
          go_wp2
          go_region_held3 (fun w'=>w'.cell? ⟨A,off+k,none⟩=some (.slice a' l c)/\w'.cell? ⟨A,off+j,none⟩=some (.slice a2 z c2)) (go_keep) (first
            | (go_at_call 124;refine (atX fold a' l c x wr.drew ac a7).mono ?_;rintro e w1 ⟨a1,c1,rfl,al,aj⟩
               have Y:Below w.heap.size w w1:=ad.trans (aj.mono ad.size);have d1:=H.out w1 Y;have d2:=N.out w1 Y;have ab:=am.out.below Y;clear ac)
            | (go_at_call 124;refine (atX fold a2 z c2 y w1 ab a6).mono ?_;rintro e w2 ⟨a3,c3,rfl,ak,aa⟩
               have U:Below w.heap.size w w2:=Y.trans (aa.mono Y.size);have d3:=H.out w2 U;have d4:=N.out w2 U;have ae:=al.below aa;clear ab)
            | (go_at_call 213;refine (aoS a1 a3 l c1 z c3 _ _ w2 ae ak a7 a6).mono ?_;rintro e w3 ⟨rfl,ai⟩
               have I:Below w.heap.size w w3:=U.trans (ai.mono U.size);have d5:=H.out w3 I;have d6:=N.out w3 I))
          all_goals
            go_wp2
            go_roundw
            case rel=>exact⟨j+1,_,by omega,by go_num,rfl,HS,I⟩
            case measure=>simp [intOf];omega
        ·
          obtain rfl:j=k:=by omega
          have af:=amk fold x (wss.take j);have C:=apS (fold:=fold) (M:=1000000) (wss.take j) (fun y hy=>HM.out y (axk hy));rw [<-HO.out,B.out.len] at af;rw [<-HN.out,ay6] at C;have ap:n<=1+1000000*1000000:=by omega
          have HS:Hid (n+(l:Int)-m=ab4 fold (wss.take (j+1))):=by rw [Hid,aa7 HX.out,aek,B.out.len,<-HN.out,<-HO.out]
          have k1:=H.out wr Z;have ar:=C.1;clear C;go_wp2
          go_roundw
          case rel=>exact⟨j+1,_,by omega,by go_num,rfl,HS,Z⟩
          case measure=>simp [intOf];omega
    ·
      obtain rfl:k=D:=by omega
      have HF:Hid (n=ab4 fold wss):=by
        have h:=HN.out
        rwa [axo (by have:=HL.out;omega)] at h
      go_wp2;go_ret;exact⟨by rw [<-HF.out];rfl,Z⟩
def afg (s:List (List Int)×List Int)(p:Bool×Int):List (List Int)×List Int:=
 let q:=(if p.1 then [] else s.2)++[p.2]
 (if q∈s.1 then s.1 else s.1++[q],q)
def ajy (l:List (Bool×Int)):List (List Int)×List Int:=l.foldl afg ([[]],[])
theorem aqa (l:List (Bool×Int))(p:Bool×Int):ajy (l++[p])=afg (ajy l) p:=by simp [ajy,axJ]
structure Rep (s:NSt)(ps:List (List Int))(p:List Int):Prop where
 many:s.many=ps.length
 nodup:ps.Nodup
 root:ps[0]?=some []
 closed:∀(q:List Int) (c:Int),q++[c]∈ps->q∈ps
 at_:∃n:Nat,s.node=n/\ps[n]?=some p
 down:∀(i c m:Int),s.f (i,c)=some m->∃(a b:Nat) (q:List Int),i=a/\m=b/\ps[a]?=some q/\ps[b]?=some (q++[c])
 up:∀(a b:Nat) (q:List Int) (c:Int),ps[a]?=some q->ps[b]?=some (q++[c])->s.f ((a:Int),c)=some (b:Int)
theorem agf {Z:List (List Int)}(h:Z.Nodup){a b:Nat}{q:List Int}(ha:Z[a]?=some q)(Y:Z[b]?=some q):a=b:=by
 have h1:=(awR.1 ha);have h2:=(awR.1 Y);obtain⟨N,V⟩:=h1;obtain⟨U,X⟩:=h2;exact (List.getElem_inj h).1 (V.trans X.symm)
theorem ato {s:NSt}{Z:List (List Int)}{p:List Int}(h:Rep s Z p)(x:Bool×Int):Rep (ajg s x) (afg (Z,p) x).1 (afg (Z,p) x).2:=by
 obtain⟨o,z,A⟩:=h.at_;obtain⟨n,r,y,H,N⟩:∃(n:Nat) (r:List Int),(if x.1 then 0 else s.node)=(n:Int)/\Z[n]?=some r/\(if x.1 then [] else p)=r:=by
  cases x.1 with
  | true=>exact⟨0,[],rfl,h.root,rfl⟩
  | false=>exact⟨o,p,z,A,rfl⟩
 have B:afg (Z,p) x=(if r++[x.2]∈Z then Z else Z++[r++[x.2]],r++[x.2]):=by
  unfold afg;simp only [N]
 rw [B]
 by_cases I:r++[x.2]∈Z
 · obtain⟨b,Y⟩:=ayB I;have v:=h.up n b r x.2 H Y;have C:ajg s x={ s with node:=(b:Int) }:=ael (by rw [y];exact v);rw [C,if_pos I];exact⟨h.many,h.nodup,h.root,h.closed,⟨b,rfl,Y⟩,h.down,h.up⟩
 ·
  have v:s.f ((n:Int),x.2)=none:=by
   cases e:s.f ((n:Int),x.2) with
   | none=>rfl
   | some m=>
    obtain⟨a,b,q,h1,h2,h3,h4⟩:=h.down _ _ _ e;have:n=a:=by omega
    subst this;rw [H] at h3;obtain rfl:=awV h3;exact absurd (ay9 h4) I
  have C:=ah2 (s:=s) (p:=x) (by rw [y];exact v);rw [C,if_neg I,y];have U:∀{i:Nat} {q:List Int},Z[i]?=some q->(Z++[r++[x.2]])[i]?=some q:=by
   intro i q J;rw [ax8 (awR.1 J).1,J]
  have X:(Z++[r++[x.2]])[Z.length]?=some (r++[x.2]):=by simp
  refine⟨?_,?_,U h.root,?_,⟨Z.length,h.many,X⟩,?_,?_⟩
  · simp [h.many]
  · rw [List.nodup_append];refine⟨h.nodup,by simp,?_⟩;intro a ha b Y;simp at Y;rw [Y];exact fun e=>I (e ▸ ha)
  ·
   intro q c N
   rcases ayd.1 N with N | N
   · exact List.mem_append_left _ (h.closed q c N)
   · simp at N;rw [N.1];exact List.mem_append_left _ (ay9 H)
  ·
   intro i c m J;dsimp only at J
   by_cases e:(i,c)=((n:Int),x.2)
   · rw [if_pos e] at J;simp only [ayU] at e;obtain⟨rfl,rfl⟩:=e;refine⟨n,Z.length,r,rfl,?_,U H,X⟩;rw [<-awV J,h.many]
   · rw [if_neg e] at J;obtain⟨a,b,q,h1,h2,h3,h4⟩:=h.down i c m J;exact⟨a,b,q,h1,h2,U h3,U h4⟩
  ·
   intro a b q c ha Y;dsimp only;rw [List.getElem?_append] at ha Y
   by_cases D:b<Z.length
   ·
    rw [if_pos D] at Y
    by_cases V:a<Z.length
    ·
     rw [if_pos V] at ha;rw [if_neg]
     · exact h.up a b q c ha Y
     ·
      intro e;simp only [ayU] at e;obtain⟨j,rfl⟩:=e;have:a=n:=by omega
      subst this;rw [H] at ha;obtain rfl:=awV ha;exact I (ay9 Y)
    ·
     exfalso
     rw [if_neg V] at ha;have h0:a-Z.length=0:=by have:=(awR.1 ha).1;simp at this;omega
     rw [h0] at ha;simp at ha;subst ha;exact I (h.closed _ _ (ay9 Y))
   ·
    rw [if_neg D] at Y;have h0:b-Z.length=0:=by have:=(awR.1 Y).1;simp at this;omega
    rw [h0] at Y;simp at Y;obtain⟨h1,h2⟩:=Y;subst h1 h2
    by_cases V:a<Z.length
    · rw [if_pos V] at ha;have:=agf h.nodup ha H;subst this;rw [if_pos rfl,h.many,show b=Z.length by omega]
    ·
     exfalso
     rw [if_neg V] at ha;have h0:a-Z.length=0:=by have:=(awR.1 ha).1;simp at this;omega
     rw [h0] at ha;simp at ha
theorem aqv (l:List (Bool×Int)):Rep (abu l) (ajy l).1 (ajy l).2:=by
 obtain⟨n,Y⟩:∃n,l.length=n:=⟨_,rfl⟩
 induction n generalizing l with
 | zero=>
  obtain rfl:=ayk Y;refine⟨rfl,by simp [ajy],rfl,?_,⟨0,rfl,rfl⟩,fun i c m h=>by simp [abu] at h,?_⟩
  · intro q c h;simp [ajy] at h
  · intro a b q c ha X;have:=ay9 X;simp [ajy] at this
 | succ n ih=>
  obtain⟨Z,x,rfl⟩:∃Z x,l=Z++[x]:=⟨l.dropLast,l.getLast (by intro h;simp [h] at Y),(ayO _).symm⟩;rw [aeL,aqa];exact ato (ih Z (by simpa using Y)) x
def aw0 (fold:Bool)(wss:List (List Int))(q:List Int):Prop:=q=[]∨∃w∈wss,q <+: aai fold w
theorem acQ:∀{j:Nat} {ys zs:List Int},j<=ys.length->(ys.take j <+: zs↔j<=aaW ys zs)
 | 0,ys,zs,_=>by simp
 | j+1,[],zs,h=>by simp at h
 | j+1,y :: ys,[],h=>by simp [aaW]
 | j+1,y :: ys,z :: zs,h=>by
  have Z:=acQ (j:=j) (ys:=ys) (zs:=zs) (by simpa using h);rw [List.take_succ_cons,List.cons_prefix_cons];unfold aaW
  by_cases e:y=z
  · simp [e,Z]
  · simp [e]
theorem auo (fold:Bool)(x:List Int){j:Nat}(N:1<=j)(Z:List (List Int)):(j:Int)<=aiW fold Z x↔∃w∈Z,j<=aaW (aai fold x) (aai fold w):=by
 obtain⟨n,V⟩:∃n,Z.length=n:=⟨_,rfl⟩
 induction n generalizing Z with
 | zero=>obtain rfl:=ayk V;simp [aiW];omega
 | succ n ih=>
  obtain⟨X,y,rfl⟩:∃X y,Z=X++[y]:=⟨Z.dropLast,Z.getLast (by intro h;simp [h] at V),(ayO _).symm⟩;have h1:=ih X (by simpa using V);rw [agr]
  constructor
  ·
   intro h
   by_cases h2:(j:Int)<=aiW fold X x
   · obtain⟨w,Y,U⟩:=h1.1 h2;exact⟨w,by simp [Y],U⟩
   · exact⟨y,by simp,by omega⟩
  ·
   rintro ⟨w,Y,U⟩
   rcases ayd.1 Y with Y | Y
   · have:=h1.2 ⟨w,Y,U⟩;omega
   · simp at Y;subst Y;omega
theorem aqx (s:List (List Int)×List Int)(p:Bool×Int):afg s p=(if ((if p.1=true then [] else s.2)++[p.2])∈s.1 then s.1 else s.1++[(if p.1=true then [] else s.2)++[p.2]],(if p.1=true then [] else s.2)++[p.2]):=rfl
theorem an4 (ys:List Int)(Y:Nat)(V:List (List Int))(p:List Int)(X:∀j,1<=j->j<=ys.length->(ys.take j∈V↔j<=Y)) :
  ∀i,i<=ys.length->∃Z,(((aiX ys).take i).foldl afg (V,p)).1=Z/\Z.length=V.length+(i-min i Y)/\(1<=i->(((aiX ys).take i).foldl afg (V,p)).2=ys.take i)/\
   ∀q,q∈Z↔q∈V∨∃j,1<=j/\j<=i/\q=ys.take j
 | 0,_=>⟨V,by simp,by simp,by simp,fun q=>by simp;intro j h1 h2;omega⟩
 | i+1,hi=>by
  obtain⟨Z,h1,h2,h3,h4⟩:=an4 ys Y V p X i (by omega);obtain⟨c,D⟩:∃c,ys[i]?=some c:=⟨ys[i]'(by omega),by simp⟩;have B:=apq D;rw [aa7 B,axJ,List.foldl_cons,List.foldl_nil];have C:(if ((i:Int)==0)=true then [] else (((aiX ys).take i).foldl afg (V,p)).2)++[c]=ys.take (i+1):=by
   rw [aa7 D]
   by_cases h0:i=0
   · subst h0;simp
   ·
    have I:((i:Int)==0)=false:=by simp;omega
    rw [I,h3 (by omega)];simp
  have N:afg (((aiX ys).take i).foldl afg (V,p)) (((i:Int)==0),c)=(if ys.take (i+1)∈Z then Z else Z++[ys.take (i+1)],ys.take (i+1)):=by
   rw [aqx];dsimp only;rw [C,h1]
  rw [N];have U:ys.take (i+1)∈Z↔i+1<=Y:=by
   rw [h4,X (i+1) (by omega) hi]
   constructor
   ·
    rintro (h | ⟨j,hj1,hj2,e⟩)
    · exact h
    · have:=congrArg List.length e;simp at this;omega
   · exact fun h=>.inl h
  by_cases J:ys.take (i+1)∈Z
  ·
   have ho:=U.1 J;refine⟨Z,by simp [J],by rw [h2];omega,fun _=>rfl,fun q=>?_⟩;rw [h4]
   constructor
   ·
    rintro (h | ⟨j,hj1,hj2,e⟩)
    · exact .inl h
    · exact .inr ⟨j,hj1,by omega,e⟩
   ·
    rintro (h | ⟨j,hj1,hj2,e⟩)
    · exact .inl h
    ·
     by_cases H:j=i+1
     · subst H;rw [e];exact .inl ((X _ hj1 hi).2 ho)
     · exact .inr ⟨j,hj1,by omega,e⟩
  ·
   have ho:¬i+1<=Y:=fun h=>J (U.2 h);refine⟨Z++[ys.take (i+1)],by simp [J],by rw [List.length_append,h2];simp;omega,fun _=>rfl,fun q=>?_⟩;rw [ayd,h4]
   constructor
   ·
    rintro ((h | ⟨j,hj1,hj2,e⟩) | h)
    · exact .inl h
    · exact .inr ⟨j,hj1,by omega,e⟩
    · exact .inr ⟨i+1,by omega,by omega,by simpa using h⟩
   ·
    rintro (h | ⟨j,hj1,hj2,e⟩)
    · exact .inl (.inl h)
    ·
     by_cases H:j=i+1
     · subst H;exact .inr (by simp [e])
     · exact .inl (.inr ⟨j,hj1,by omega,e⟩)
theorem count_eq (fold:Bool)(wss:List (List Int)):((ajy (abo fold wss)).1.length:Int)=ab4 fold wss/\∀q,q∈(ajy (abo fold wss)).1↔aw0 fold wss q:=by
 obtain⟨n,J⟩:∃n,wss.length=n:=⟨_,rfl⟩
 induction n generalizing wss with
 | zero=>
  obtain rfl:=ayk J;refine⟨rfl,fun q=>?_⟩;simp [abo,ajy,aw0]
 | succ n ih=>
  obtain⟨Z,x,rfl⟩:∃Z x,wss=Z++[x]:=⟨wss.dropLast,wss.getLast (by intro h;simp [h] at J),(ayO _).symm⟩;obtain⟨h1,h2⟩:=ih Z (by simpa using J);have I:=amk fold x Z;have U:∀j,1<=j->j<=(aai fold x).length->((aai fold x).take j∈(ajy (abo fold Z)).1↔j<=(aiW fold Z x).toNat):=by
   intro j N X;rw [h2];have B:j<=(aiW fold Z x).toNat↔(j:Int)<=aiW fold Z x:=by omega
   rw [B,auo fold x N]
   constructor
   ·
    rintro (h | ⟨w,Y,h⟩)
    · have:=congrArg List.length h;rw [ay6,axV] at this;omega
    · exact⟨w,Y,(acQ X).1 h⟩
   · rintro ⟨w,Y,h⟩;exact .inr ⟨w,Y,(acQ X).2 h⟩
  obtain⟨A,C,D,z,H⟩:=an4 (aai fold x) (aiW fold Z x).toNat (ajy (abo fold Z)).1 (ajy (abo fold Z)).2 U (aai fold x).length (axe _);have V:ajy (abo fold (Z++[x]))=((aiX (aai fold x)).take (aai fold x).length).foldl afg ((ajy (abo fold Z)).1,(ajy (abo fold Z)).2):=by
   rw [ah1,axo (by rw [abM];exact axe _)];unfold ajy;rw [axJ]
  rw [V,C];refine⟨?_,fun q=>?_⟩
  · rw [aek,D,aas,<-h1];omega
  ·
   rw [H,h2];unfold aw0
   constructor
   ·
    rintro ((h | ⟨w,Y,h⟩) | ⟨j,N,X,rfl⟩)
    · exact .inl h
    · exact .inr ⟨w,by simp [Y],h⟩
    · exact .inr ⟨x,by simp,List.take_prefix _ _⟩
   ·
    rintro (h | ⟨w,Y,h⟩)
    · exact .inl (.inl h)
    ·
     rcases ayd.1 Y with Y | Y
     · exact .inl (.inr ⟨w,Y,h⟩)
     ·
      simp at Y;subst Y
      by_cases h0:q=[]
      · exact .inl (.inl h0)
      · refine .inr ⟨q.length,?_,h.length_le,List.prefix_iff_eq_take.1 h⟩;exact ayG.2 h0
theorem arG (fold:Bool)(wss:List (List Int)):(abu (abo fold wss)).many=ab4 fold wss:=by
 rw [(aqv (abo fold wss)).many,(count_eq fold wss).1]
def ajA (wss:List (List Int)):Int:=(wss.map fun w=>(w.length:Int)).sum
theorem al4 (l:List (List Int))(x:List Int):ajA (l++[x])=ajA l+x.length:=by simp [ajA]
theorem aq3:∀(l:List (List Int)),(∀x∈l,x.length<=1000000)->0<=ajA l/\ajA l<=l.length*1000000
 | [],_=>by simp [ajA]
 | x :: l,h=>by
  have h1:=aq3 l (fun y Z=>h y (by simp [Z]));have h2:=h x (by simp);simp only [ajA,ax0,List.sum_cons,axU] at h1 ⊢;omega
def abn (fold:Bool)(wss:List (List Int)):Int:=
 if wss.length=0 then 50 else if wss.length > 64 then 51 else if (∃x∈wss,x.length=0) then 52 else if (∃x∈wss,x.length > 32) then 53 else if ajA wss > 600 then 54 else if ab4 fold wss > 400 then 55 else 0
theorem aid (fold:Bool)(a:Option Addr)(J ca:Nat)(wss:List (List Int))(w:World)(hA:Wds w a J wss)(aa:J<=1000000)(hM:∀x∈wss,x.length<=1000000) :
  Calls ZP 122 #[.bool fold,.slice a J ca] w fun e w'=>e=.returned (.int .i64 (abn fold wss))/\Below w.heap.size w w':=by
 have B:=ax3 hA.len;have HM:=ax3 hM;obtain⟨G,hG⟩:∃G,abn fold wss=G:=⟨_,rfl⟩;have HG:Hid (abn fold wss=G):=hG;rw [hG];clear hG hM
 by_cases h0:J=0
 ·
  have U:Hid (G=50):=by rw [Hid,<-HG.out,abn,if_pos (by rw [B.out,h0])]
  go_enter func122,ntmps122;go_wp2;go_ret;exact⟨by rw [U.out];rfl,axf _ _⟩
 ·
  by_cases a2:64<J
  ·
   have U:Hid (G=51):=by rw [Hid,<-HG.out,abn,if_neg (by rw [B.out];exact h0),if_pos (by rw [B.out];exact a2)]
   go_enter func122,ntmps122;go_wp2;go_ret;exact⟨by rw [U.out];rfl,axf _ _⟩
  ·
   have v:Hid (G=if (∃x∈wss,x.length=0) then 52 else if (∃x∈wss,x.length > 32) then 53 else if ajA wss > 600 then 54 else if ab4 fold wss > 400 then 55 else 0):=by
    rw [Hid,<-HG.out,abn,if_neg (by rw [B.out];exact h0),if_neg (by rw [B.out];exact a2)]
   go_enter func122,ntmps122;go_wp2
   go_loop [6] (fun i=>∃k:Nat,k<=J/\i=.int .i64 k/\Hid (∀x∈wss.take k,x.length≠0)) (fun i=>J-(intOf i).toNat)
   case atStart=>exact⟨0,axh _,rfl,fun x X=>by simp at X⟩
   case round=>
    obtain⟨k,hk,rfl,HK⟩:=hrel
    by_cases a7:k<J
    ·
     obtain⟨bb,off,a',l,c,x,rfl,ac,D,X,o,a8⟩:=hA.at_ a7;have HX:=ax3 X;have V:=ax3 o.len;clear X o
     by_cases a1:l=0
     ·
      have U:Hid (G=52):=by rw [Hid,v.out,if_pos ⟨x,ay9 HX.out,by rw [V.out,a1]⟩]
      go_wp2;go_ret;exact⟨by rw [U.out];rfl,axf _ _⟩
     ·
      have ad:Hid (∀x∈wss.take (k+1),x.length≠0):=by
       rw [aa7 HX.out];intro y Z
       rcases ayd.1 Z with Z | Z
       · exact HK.out y Z
       · simp at Z;rw [Z,V.out];exact a1
      go_wp2
      go_round
      case rel=>exact⟨k+1,by omega,by go_num,ad⟩
      case measure=>simp [intOf];omega
    ·
     obtain rfl:k=J:=by omega
     have ae:Hid (∀x∈wss,x.length≠0):=by
      have h:=HK.out
      rwa [axo (by rw [B.out];exact axe _)] at h
     have z:Hid (G=if (∃x∈wss,x.length > 32) then 53 else if ajA wss > 600 then 54 else if ab4 fold wss > 400 then 55 else 0):=by
      rw [Hid,v.out,if_neg (by rintro ⟨x,X,h⟩;exact ae.out x X h)]
     clear v HK;go_wp2
     go_loop [5,7] (fun s i=>∃(j:Nat) (n:Int),j<=k/\i=.int .i64 j/\s=.int .i64 n/\Hid (n=ajA (wss.take j))/\Hid (∀x∈wss.take j,¬x.length > 32)) (fun _ i=>k-(intOf i).toNat)
     case atStart=>exact⟨0,0,axh _,rfl,rfl,by simp [Hid,ajA],fun x X=>by simp at X⟩
     case round=>
      obtain⟨j,n,hj,rfl,rfl,C,HJ⟩:=hrel;have H:=aq3 (wss.take j) (fun y Z=>HM.out y (axk Z));rw [<-C.out] at H;have a6:((wss.take j).length:Int)<=64:=by have:=axj j wss;omega
      have ai:=H.1;have ah:n<=64000000:=by omega
      clear H a6
      by_cases ab:j<k
      ·
       obtain⟨bb,off,a',l,c,x,rfl,ac,D,X,o,a8⟩:=hA.at_ ab;have ag:l<=1000000:=by have:=adg HM.out X;rw [o.len] at this;exact this
       have HX:=ax3 X;have V:=ax3 o.len;clear X o
       by_cases I:32<l
       ·
        have U:Hid (G=53):=by rw [Hid,z.out,if_pos ⟨x,ay9 HX.out,by rw [V.out];exact I⟩]
        go_wp2;go_ret;exact⟨by rw [U.out];rfl,axf _ _⟩
       ·
        have af:Hid (∀x∈wss.take (j+1),¬x.length > 32):=by
         rw [aa7 HX.out];intro y Z
         rcases ayd.1 Z with Z | Z
         · exact HJ.out y Z
         · simp at Z;rw [Z,V.out];exact I
        have HS:Hid (n+(l:Int)=ajA (wss.take (j+1))):=by rw [Hid,aa7 HX.out,al4,V.out,C.out]
        go_wp2
        go_round
        case rel=>exact⟨j+1,_,by omega,by go_num,rfl,HS,af⟩
        case measure=>simp [intOf];omega
      ·
       obtain rfl:j=k:=by omega
       have Y:wss.take j=wss:=axo (by rw [B.out];exact axe _);have A:Hid (G=if n > 600 then 54 else if ab4 fold wss > 400 then 55 else 0):=by
        have h2:=C.out;rw [Y] at h2;rw [Hid,z.out,if_neg (by rintro ⟨x,X,h⟩;exact HJ.out x (by rw [Y];exact X) h),h2]
       clear Y z C HJ
       by_cases h6:600<n
       ·
        have U:Hid (G=54):=by rw [Hid,A.out,if_pos h6]
        go_wp2;go_ret;exact⟨by rw [U.out];rfl,axf _ _⟩
       ·
        go_wp2_with fail
        refine (anA fold a j ca wss w hA aa HM.out).mono ?_;rintro e w1 ⟨rfl,hb⟩;obtain⟨N,hN⟩:∃N,ab4 fold wss=N:=⟨_,rfl⟩;rw [hN];have C:Hid (ab4 fold wss=N):=hN;clear hN
        by_cases h4:400<N
        ·
         have U:Hid (G=55):=by rw [Hid,A.out,if_neg (by omega),C.out,if_pos h4]
         go_wp2;go_ret;exact⟨by rw [U.out];rfl,hb⟩
        ·
         have U:Hid (G=0):=by rw [Hid,A.out,if_neg (by omega),C.out,if_neg (by omega)]
         go_wp2;go_ret;exact⟨by rw [U.out];rfl,hb⟩
theorem ant (f g:Bool)(a b:Option Addr)(Y D I H:Nat)(wss Z:List (List Int))(w:World)(hA:Wds w a Y wss)(hB:Wds w b I Z)(ah:Y<=1000000) :
  Calls ZP 80 #[.agg (aaF f a Y D),.agg (aaF g b I H)] w fun e w'=>e=.returned (.bool (acv f g wss Z))/\Below w.heap.size w w':=by
 obtain⟨W,hW⟩:∃W,W=(w.alloc (.cells (aaF f a Y D) 24)).alloc (.cells (aaF g b I H) 24):=⟨_,rfl⟩;have V:Below w.heap.size w ((w.alloc (.cells (aaF f a Y D) 24)).alloc (.cells (aaF g b I H) 24)):=((axf _ _).alloc (axe _) _).alloc (by simp) _;have HA:=ax3 hA.len;have HB:=ax3 hB.len
 by_cases J:f=g
 ·
  subst J
  by_cases hl:Y=I
  ·
   subst hl;have a7:W.heap[w.heap.size]?=some (.cells (aaF f a Y D) 24 (0,0)):=by
    rw [hW];exact (axi _ _ _ (by simp)).trans (axg _ _)
   have a6:W.heap[w.heap.size+1]?=some (.cells (aaF f b Y H) 24 (0,0)):=by
    rw [hW];have:=axg (w.alloc (.cells (aaF f a Y D) 24)) (.cells (aaF f b Y H) 24)
    rwa [ax7] at this
   have ab:Wds W a Y wss:=by rw [hW];exact hA.below V
   have aa:Wds W b Y Z:=by rw [hW];exact hB.below V
   have z:Below w.heap.size w W:=by rw [hW];exact V
   have hz:W.heap.size=w.heap.size+2:=by rw [hW];simp
   have ac:=ax3 hW;clear hA hB hW;go_enter func80,ntmps80;go_wp2;rw [<-ac.out]
   go_loopw [5] (fun i wr=>∃k:Nat,k<=Y/\i=.int .i64 k/\Hid (wss.take k=Z.take k)/\Below W.heap.size W wr) (fun i _=>Y-(intOf i).toNat)
   case atStart=>exact⟨0,axh _,rfl,by simp [Hid],axf _ _⟩
   case round=>
    obtain⟨k,hk,rfl,HK,X⟩:=hrel;have hw:Below w.heap.size w wr:=z.trans (X.mono z.size);have h1:wr.heap[w.heap.size]?=_:=(X.block _ (by omega)).trans a7;have h2:wr.heap[w.heap.size+1]?=_:=(X.block _ (by omega)).trans a6;have c1:wr.cell? ⟨w.heap.size,1,none⟩=some (.slice a Y D):=by simp [World.cell?,h1]
    have c2:wr.cell? ⟨w.heap.size+1,1,none⟩=some (.slice b Y H):=by simp [World.cell?,h2]
    have a8:∀n,Below W.heap.size W (wr.drewN n):=fun n=>X.trans ⟨rfl,rfl,rfl,axe _,fun _ _=>rfl⟩;have s:∀n,Below w.heap.size w (wr.drewN n):=fun n=>hw.trans ⟨rfl,rfl,rfl,axe _,fun _ _=>rfl⟩
    by_cases C:k<Y
    ·
     obtain⟨bb,off,a',l,c,x,rfl,ai,a1,hx,hX,ag⟩:=(ab.below X).at_ C;obtain⟨aj,ad,a2,l2,c2,y,rfl,af,v,hy,hY,ae⟩:=(aa.below X).at_ C;have j:∀n,Below wr.heap.size wr (wr.drewN n):=fun n=>⟨rfl,rfl,rfl,axe _,fun _ _=>rfl⟩;have A:∀n,Bys (wr.drewN n) a' l x:=fun n=>hX.below (j n);have B:∀n,Bys (wr.drewN n) a2 l2 y:=fun n=>hY.below (j n);have v1:∀n cap,Sem.run ZP (convert 32 9 (.slice a' l cap)) (wr.drewN n)=.ok (.string (strOfNums x)) (wr.drewN n):=fun n cap=>abz (A n) cap;have v2:∀n cap,Sem.run ZP (convert 32 9 (.slice a2 l2 cap)) (wr.drewN n)=.ok (.string (strOfNums y)) (wr.drewN n):=fun n cap=>abz (B n) cap;have N:=ajh hX.2 hY.2;have HX:=ax3 hx;have HY:=ax3 hy;clear hx hy hX hY A B j
     by_cases h:x=y
     ·
      rw [decide_eq_true h] at N;have U:Hid (wss.take (k+1)=Z.take (k+1)):=by rw [aa7 HX.out,aa7 HY.out,HK.out,h];rfl
      clear h;go_wp2
      go_quiet (fail)
      go_wp2
      go_roundw
      case rel=>exact⟨k+1,by omega,by go_num,U,a8 _⟩
      case measure=>simp [intOf];omega
     ·
      rw [decide_eq_false h] at N;have U:Hid (acv f f wss Z=false):=by
       have:wss≠Z:=fun e=>by
        have h1:=HX.out;rw [e,HY.out] at h1;exact h (awV h1).symm
       simp [Hid,acv,this]
      clear h;go_wp2
      go_quiet (fail)
      go_wp2;go_ret;exact⟨by rw [U.out];rfl,s _⟩
    ·
     obtain rfl:k=Y:=by omega
     have U:Hid (acv f f wss Z=true):=by
      have h:=HK.out;rw [axo (by rw [HA.out];exact axe _),axo (by rw [HB.out];exact axe _)] at h;simp [Hid,acv,h]
     go_wp2;go_ret;exact⟨by rw [U.out];rfl,hw⟩
  ·
   have U:Hid (acv f f wss Z=false):=agn (.inr (by rw [HA.out,HB.out];exact hl));have o:((Y:Int) != (I:Int))=true:=by simp;omega
   clear hW;go_enter func80,ntmps80;go_wp2
   all_goals
    go_ret;exact⟨by rw [U.out];rfl,V⟩
 ·
  have U:Hid (acv f g wss Z=false):=agn (.inl J);have o:(f != g)=true:=by simp [J]
  clear hW;go_enter func80,ntmps80;go_wp2
  all_goals
   go_ret;exact⟨by rw [U.out];rfl,V⟩
theorem asO (fold:Bool)(a:Option Addr)(X D:Nat)(wss:List (List Int))(w:World)(A:Wds w a X wss)(N:X<=1000000)(B:∀x∈wss,x.length<=1000000)(C:abn fold wss≠0) :
  Calls ZP 79 #[.bool fold,.slice a X D] w fun e w'=>e=.returned (.tuple #[.agg (aaF false none 0 0),.int .i64 (abn fold wss)])/\Below w.heap.size w w':=by
 have I:=A.below ((axf _ _).alloc (axe _) (.cells (aaF false none 0 0) 24));obtain⟨n,U⟩:∃n,abn fold wss=n:=⟨_,rfl⟩;have z:Hid (abn fold wss=n):=U;rw [U] at C ⊢;clear U;go_enter func79,ntmps79
 go_wp2_with fail
 refine (aid fold a X D wss _ I N B).mono ?_;rintro e Z ⟨rfl,H⟩;rw [z.out];have Y:Z.heap[w.heap.size]?=some (.cells (aaF false none 0 0) 24 (0,0)):=(H.block _ (by simp)).trans (axg _ _);have J:Below w.heap.size w Z:=((axf _ _).alloc (axe _) _).trans (H.mono (by simp));have z0:Z.cell? ⟨w.heap.size,0,none⟩=some (.bool false):=by simp [World.cell?,Y]
 have y:Z.cell? ⟨w.heap.size,1,none⟩=some (.slice none 0 0):=by simp [World.cell?,Y]
 have s:Z.frozen? ⟨w.heap.size,0,none⟩=false:=by simp [World.frozen?,Y]
 have v:Z.frozen? ⟨w.heap.size,1,none⟩=false:=by simp [World.frozen?,Y]
 go_wp2;have V:=aa4 (i:=1) (aa4 (i:=0) Y (.bool false)) (.slice none 0 0);refine bodyPost_ret (ad3 rfl rfl (by simpa using V)) rfl ?_;exact⟨rfl,(J.setCell (axe _) _).setCell (axe _) _⟩
theorem avt (fold:Bool)(a:Option Addr)(Y N:Nat)(xs:List Int)(w:World)(U:Bys w a Y xs)(V:Y<=1000000) :
  Calls ZP 124 #[.bool fold,.slice a Y N] w fun e w'=>∃X c1,e=.returned (.slice X Y c1)/\ag6 w' w.heap.size (.slice X Y c1) Y (aai fold xs)/\Below w.heap.size w w':=
 (amD fold a Y N xs w U V).mono fun e w' ⟨v,J,Z,I⟩=>by
  obtain⟨X,c1,rfl,_,h⟩:=afp Z (af7 U.2);exact⟨X,c1,J,Z,I⟩
theorem arb (fold:Bool)(a:Option Addr)(la ca:Nat)(wss:List (List Int))(w:World)(hA:Wds w a la wss)(al:la<=1000000)(hM:∀x∈wss,x.length<=1000000)(hc:abn fold wss=0) :
    Calls ZP 79 #[.bool fold,.slice a la ca] w fun e w'=>∃v,e=.returned (.tuple #[.agg #[.bool fold,v],.int .i64 0])/\adq w' w.heap.size v (aaj fold wss)/\Below w.heap.size w w':=by
  have aC:=hA.below ((axf _ _).alloc (axe _) (.cells (aaF false none 0 0) 24));have HN:Hid (abn fold wss=0):=hc;have HL:=ax3 hA.len;clear hc;go_enter func79,ntmps79
  go_wp2_with fail
  refine (aid fold a la ca wss _ aC al hM).mono ?_;rintro e Z ⟨rfl,hb⟩;rw [HN.out];have hz:Z.heap[w.heap.size]?=some (.cells (aaF false none 0 0) 24 (0,0)):=(hb.block _ (by simp)).trans (axg _ _);have aB:Below w.heap.size w Z:=((axf _ _).alloc (axe _) _).trans (hb.mono (by simp));have af:w.heap.size<Z.heap.size:=(awU.1 hz).1;go_wp2
  go_loopw [8] (fun i wr=>∃(k:Nat) (v:Value),k<=la/\i=.int .i64 k/\Below w.heap.size w wr/\wr.heap[w.heap.size]?=some (.cells (aaF false none 0 0) 24 (0,0))/\wr.heap[Z.heap.size]?=some (.cells #[.bool fold,v] 24 (0,0))/\adq wr w.heap.size v (aaj fold (wss.take k))) (fun i _=>la-(intOf i).toNat)
  case atStart=>exact⟨0,.slice none 0 0,axh _,rfl,aB.alloc (by omega) _,(axi _ _ _ af).trans hz,axg _ _,by simpa [aaj] using adq.nil _ _⟩
  case round=>
    obtain⟨k,v,hk,rfl,a2,Y,N,U⟩:=hrel
    by_cases ak:k<la
    ·
      obtain⟨bb,off,a',l,c,x,rfl,aw,J,hx,hX,aI⟩:=(hA.below a2).at_ ak;have ad:l<=1000000:=by have:=adg hM hx;rw [hX.len] at this;exact this
      obtain⟨H,I,rfl,au,hW⟩:=U.wds;have s0:wr.cell? ⟨Z.heap.size,0,none⟩=some (.bool fold):=by simp [World.cell?,N]
      have s1:wr.cell? ⟨Z.heap.size,1,none⟩=some (.slice H (aaj fold (wss.take k)).length I):=by simp [World.cell?,N]
      have ae:(aaj fold (wss.take k)).length<=1000000:=by have:=afb fold (wss.take k);have:=axj k wss;omega
      have HX:=ax3 hx;clear hx;have kc:=cell_regrown J;have ks:=cell_regrown s1;have cW:∀d os,Calls ZP 123 #[.bool fold,.slice a' l c,.slice H (aaj fold (wss.take k)).length I] (grow (redrawn wr d) os) fun e w''=>e=.returned (.int .i64 (aaw fold x (aaj fold (wss.take k))))/\∃p:Regrown,w''=grow (redrawn wr p.d) p.os:=
        fun d os=>Calls.regrown_of (ap3 fold a' H l c _ I x (aaj fold (wss.take k)) _ (hX.below (below_regrown wr d os)) ad (hW.below (below_regrown wr d os)) ae (ake _ (fun y hy=>hM y (axk hy))))
      go_wp2;refine wp_region_quiet_below mixed (by kernel_rfl) ?_
      repeat (go_big_quiet_step (exact cW _ _))
      refine wpQuiet_nil ?_;rintro _ ⟨⟨dq,ac⟩,rfl⟩;obtain⟨X,a7⟩:∃X,grow (redrawn wr dq) ac=X:=⟨_,rfl⟩;rw [a7];have B:Below wr.heap.size wr X:=a7 ▸ below_regrown wr dq ac;clear a7 kc ks cW;have a6:Below w.heap.size w X:=a2.trans (B.mono a2.size);have A:X.heap[w.heap.size]?=_:=(B.block _ (awU.1 Y).1).trans Y;have z:X.heap[Z.heap.size]?=_:=(B.block _ (awU.1 N).1).trans N;have s:=U.below B;have aF:X.cell? ⟨bb,off+k,none⟩=some (.slice a' l c):=(B.cell (p:=⟨bb,off+k,none⟩) aw).trans J;clear U hW N Y s0 s1 J;have HM:Hid (aaj fold (wss.take (k+1))=apa fold (aaj fold (wss.take k)) x):=by rw [aa7 HX.out,ac3];rfl
      obtain⟨q,hq⟩:∃q,aaw fold x (aaj fold (wss.take k))=q:=⟨_,rfl⟩;have HQ:Hid (aaw fold x (aaj fold (wss.take k))=q):=hq;rw [hq];clear hq
      by_cases aH:0<=q
      ·
        have HF:Hid (aaj fold (wss.take (k+1))=aaj fold (wss.take k)):=by
          rw [HM.out];unfold apa;rw [HQ.out,if_neg (by omega)]
          rfl
        go_wp2
        go_roundw
        case rel=>exact⟨k+1,_,by omega,by go_num,a6,A,z,by rw [HF.out];exact s⟩
        case measure=>simp [intOf];omega
      ·
        have HF:Hid (aaj fold (wss.take (k+1))=aaj fold (wss.take k)++[aai fold x]):=by
          rw [HM.out];unfold apa;rw [HQ.out,if_pos (by omega)]
          rfl
        obtain⟨i0,hi,aq,ap,ao⟩:=info_parts afB;have s1:X.cell? ⟨Z.heap.size,1,none⟩=some (.slice H (aaj fold (wss.take k)).length I):=by simp [World.cell?,z]
        obtain⟨es,e1,e2,e3⟩:=s;have az:∀n,Bys (X.drewN n) a' l x:=fun n=>(hX.below B).below ⟨rfl,rfl,rfl,axe _,fun _ _=>rfl⟩;have hd:∀n,Below X.heap.size X (X.drewN n):=fun n=>⟨rfl,rfl,rfl,axe _,fun _ _=>rfl⟩;obtain⟨m,hm⟩:∃m,(aaj fold (wss.take k)).length=m:=⟨_,rfl⟩;rw [hm] at s1 z e1 e2 ae ⊢;have ab:=ax3 hm;clear hm;go_wp2;have ay:Bys X.drew a' l x:=az 1;have ar:Below X.heap.size X X.drew:=hd 1
        go_region_law (first
          | (go_simp;go_at_call 124;refine (avt fold a' l c x X.drew ay ad).mono ?_;rintro e w3 ⟨a3,c3,rfl,a8,ax⟩
             have o:Below X.heap.size X w3:=ar.trans ax;have h:=aag e1 o;have C:w3.heap[Z.heap.size]?=some (.cells #[.bool fold,.slice H m I] 24 (0,0)):=(o.block _ (awU.1 z).1).trans z;have ag:w3.cell? ⟨Z.heap.size,1,none⟩=some (.slice H m I):=by simp [World.cell?,C]
             have am:Z.heap.size<w3.heap.size:=(awU.1 C).1;have aE:Z.heap.size≠w3.heap.size:=by omega
             have aD:w3.heap.size≠Z.heap.size:=by omega
             have aG:(w3.alloc (.cells #[.slice a3 l c3] 32)).cell? ⟨Z.heap.size,1,none⟩=some (.slice H m I):=by rw [axl _ _ _ am];exact ag
             have aj:=ad4 h C (of_decide_eq_true (by kernel_rfl));have D:Below w.heap.size w w3:=a6.trans (o.mono a6.size);dsimp only)
          | (refine step_append_lies _ (by rfl) _ _ 22 (by rfl) w.heap.size 32 i0 (.slice none 0 0) 1 24 underlying22 hi aq ap ao rfl (by decide) (.slice H m I) m es (by rfl) (h.alloc _) ⟨w3.heap.size,0,none⟩ 1 1 [.slice a3 l c3] (by rfl) rfl (cell_one_new _ _ _) (by simp [Value.oneCell']) (by decide) (by unfold maxLen;omega) (by omega) (by have:=D.size;simp;omega) _ rfl ?_
             intro g5 c5 w5 aa V aK aJ;have a1:w5.heap[Z.heap.size]?=some (.cells #[.bool fold,.slice H m I] 24 (0,0)):=(V.block _ (by simp;have:=(awU.1 C).1;omega) (Ne.symm aj)).trans ((axi _ _ _ (awU.1 C).1).trans C);have q0:w5.cell? ⟨Z.heap.size,1,none⟩=some (.slice H m I):=by simp [World.cell?,a1]
             have q1:w5.frozen? ⟨Z.heap.size,1,none⟩=false:=by simp [World.frozen?,a1]))
        all_goals
          go_wp2;have aA:Below w.heap.size w w5:=(D.alloc (by have:=D.size;omega) _).grown V (by simp;have:=D.size;omega) (fun j hj=>(h.lt j hj).1);have ah:w5.heap[w.heap.size]?=some (.cells (aaF false none 0 0) 24 (0,0)):=by
            have h3:w3.heap[w.heap.size]?=_:=(o.block _ (awU.1 A).1).trans A;exact (V.block _ (by simp;have:=(awU.1 h3).1;omega) (Ne.symm (ad4 h h3 (of_decide_eq_true (by kernel_rfl))))).trans ((axi _ _ _ (awU.1 h3).1).trans h3)
          go_roundw
          case rel=>
            refine⟨k+1,_,by omega,by go_num,aA.setCell (by show w.heap.size<=Z.heap.size;omega) _,(axn w5 ⟨Z.heap.size,1,none⟩ _ _ (by simp;omega)).trans ah,by simpa using aa4 (i:=1) a1 (.slice (some ⟨g5,0,none⟩) (m+1) c5),?_⟩;rw [HF.out];have ai:=adq.step (wss:=aaj fold (wss.take k)) (xs:=aai fold x) (e:=.slice a3 l c3) (es:=es) (v:=.slice H m I) (by rw [ab.out];exact h.alloc _) (by rw [ab.out];exact e2)
              (fun i e xs he hx=>⟨aag (aag (e3 i e xs he hx).1 o) ((axf _ _).alloc (axe _) _),(e3 i e xs he hx).2⟩) (by rw [aas,hX.len];exact (ahv (a8.alloc _) (by have:=a6.size;simpa using this))) (af7 hX.2) (by rw [ab.out];exact aa) V
            exact ai.turned (aa9 w5 Z.heap.size 1 _) a1 (of_decide_eq_true (by kernel_rfl)) (of_decide_eq_true (by kernel_rfl))
          case measure=>simp [intOf];omega
    ·
      obtain rfl:k=la:=by omega
      have HF:Hid (wss.take k=wss):=axo (by have:=HL.out;omega);have s0:wr.cell? ⟨Z.heap.size,0,none⟩=some (.bool fold):=by simp [World.cell?,N]
      obtain⟨H,I,rfl,au,hW⟩:=U.wds;have s1:wr.cell? ⟨Z.heap.size,1,none⟩=some (.slice H (aaj fold (wss.take k)).length I):=by simp [World.cell?,N]
      have z0:wr.cell? ⟨w.heap.size,0,none⟩=some (.bool false):=by simp [World.cell?,Y]
      have z1:wr.cell? ⟨w.heap.size,1,none⟩=some (.slice none 0 0):=by simp [World.cell?,Y]
      have y0:wr.frozen? ⟨w.heap.size,0,none⟩=false:=by simp [World.frozen?,Y]
      have y1:wr.frozen? ⟨w.heap.size,1,none⟩=false:=by simp [World.frozen?,Y]
      go_wp2;have A:=aa4 (i:=1) (aa4 (i:=0) Y (.bool fold)) (.slice H (aaj fold (wss.take k)).length I);refine bodyPost_ret (ad3 rfl rfl (by simpa using A)) rfl ?_;refine⟨_,rfl,?_,(a2.setCell (axe _) _).setCell (axe _) _⟩;have ho:=(U.turned (aa9 wr w.heap.size 0 (.bool fold)) Y (of_decide_eq_true (by kernel_rfl)) (of_decide_eq_true (by kernel_rfl))).turned (aa9 _ w.heap.size 1 (.slice H (aaj fold (wss.take k)).length I)) (aa4 (i:=0) Y (.bool fold)) (of_decide_eq_true (by kernel_rfl)) (of_decide_eq_true (by kernel_rfl));rw [HF.out] at ho ⊢;exact ho
def adk (fold:Bool)(wss:List (List Int)):Bool:=decide (abn fold wss=0)&&decide (aaj fold wss=wss)
theorem aoi (fold:Bool)(a:Option Addr)(X J:Nat)(wss:List (List Int))(w:World)(j:Wds w a X wss)(C:X<=1000000)(hM:∀x∈wss,x.length<=1000000) :
  Calls ZP 46 #[.agg (aaF fold a X J)] w fun e w'=>e=.returned (.bool (adk fold wss))/\Below w.heap.size w w':=by
 have N:Below w.heap.size w (w.alloc (.cells (aaF fold a X J) 24)):=(axf _ _).alloc (axe _) _;have B:=j.below N;have H:=axg w (.cells (aaF fold a X J) 24)
 by_cases V:abn fold wss=0
 ·
  have h:Hid (adk fold wss=acv fold fold (aaj fold wss) wss):=by simp [Hid,adk,acv,V]
  go_enter func46,ntmps46
  go_wp2_with fail
  refine (arb fold a X J wss _ B C hM V).mono ?_;rintro e Y ⟨v,rfl,I,A⟩;have Z:Below w.heap.size w Y:=N.trans (A.mono (by simp));obtain⟨av,cv,rfl,a7,hW⟩:=I.wds;have h1:Y.heap[w.heap.size]?=_:=(A.block _ (by simp)).trans H;have a1:w.heap.size<Y.heap.size:=(awU.1 h1).1;have c0:Y.cell? ⟨w.heap.size,0,none⟩=some (.bool fold):=by simp [World.cell?,h1]
  have c1:Y.cell? ⟨w.heap.size,1,none⟩=some (.slice a X J):=by simp [World.cell?,h1]
  have D:(aaj fold wss).length<=1000000:=by have:=afb fold wss;have:=j.len;omega
  have a2:w.heap.size≠Y.heap.size:=by omega
  have U:Below Y.heap.size Y (Y.alloc (.cells (aaF fold av (aaj fold wss).length cv) 24)):=(axf _ _).alloc (axe _) _;have s:=hW.below U;have o:=(j.below Z).below U;clear V
  go_wp2_with fail
  refine (ant fold fold av a _ cv X J (aaj fold wss) wss _ s o D).mono ?_;rintro e w3 ⟨rfl,y⟩;go_wp2;go_ret;exact⟨by rw [h.out];rfl,Z.trans ((U.trans (y.mono (by simp))).mono Z.size)⟩
 ·
  have h:Hid (adk fold wss=false):=by simp [Hid,adk,V]
  obtain⟨n,z⟩:∃n,abn fold wss=n:=⟨_,rfl⟩;have HC:=ax3 V;have HN:Hid (abn fold wss=n):=z;rw [z] at V;clear z;have a6:(n==0)=false:=by simp [V]
  go_enter func46,ntmps46
  go_wp2_with fail
  refine (asO fold a X J wss _ B C hM HC.out).mono ?_;rintro e Y ⟨rfl,A⟩;rw [HN.out];have Z:Below w.heap.size w Y:=N.trans (A.mono (by simp));go_wp2;go_ret;exact⟨by rw [h.out];rfl,Z.alloc Z.size _⟩
end Go.Proofs.YtaamacoicojhnaaGreat
