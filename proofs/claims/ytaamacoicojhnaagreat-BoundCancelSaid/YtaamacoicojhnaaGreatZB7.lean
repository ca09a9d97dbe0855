/- Proofs over the given program, part 7. -/
import Derived.Test.YtaamacoicojhnaaGreatZB6
set_option linter.unusedVariables false
set_option linter.unusedSimpArgs false
set_option maxRecDepth 100000
set_option maxHeartbeats 16000000
open Go.Proofs.Tryz
open Go.Proofs.Tryz renaming prog→ZP
namespace Go.Proofs.YtaamacoicojhnaaGreat
open Go.RowKit Go.Sort
theorem ahs {T:aaN}{Z ws:List (List Int)}(h:abI T=some (Z,ws)):Z.length<=400/\ws.length<=400/\Z.length=T.up.length:=by
 obtain⟨h1,rfl,rfl⟩:=ab6.1 h;have:=acW h1;have:=aiK h1;exact⟨by omega,by omega,ak0.1.symm⟩
def ahi (T:aaN):Bool:=(abI T).isSome
theorem aoc (t:TV)(T:aaN)(w:World)(C:Tri w t T)(D:t.un<=140737488351232) :
  Calls ZP 215 #[.agg t.cells] w fun e w'=>e=.returned (.bool (ahi T))/\Below w.heap.size w w':=by
 obtain⟨ua,un,uc,da,dn,dc,xa,xn,xc,ba,bn,bc⟩:=t;dsimp only at D;obtain⟨W,hW⟩:∃W,W=w.alloc (.cells #[.slice ua un uc,.slice da dn dc,.slice xa xn xc,.slice ba bn bc] 150):=⟨_,rfl⟩;have N:Below w.heap.size w W:=by rw [hW];exact aa1 _ _
 have I:Bx w.heap.size [.cells #[.slice ua un uc,.slice da dn dc,.slice xa xn xc,.slice ba bn bc] 150] W:=by rw [hW];exact (Bx.nil _ w).snoc _ rfl
 have X:=C.below N;have c0:W.cell? ⟨w.heap.size,0,none⟩=some (.slice ua un uc):=I.cell (i:=0) rfl rfl;have c1:W.cell? ⟨w.heap.size,1,none⟩=some (.slice da dn dc):=I.cell (i:=0) rfl rfl;have c2:W.cell? ⟨w.heap.size,2,none⟩=some (.slice xa xn xc):=I.cell (i:=0) rfl rfl;have c3:W.cell? ⟨w.heap.size,3,none⟩=some (.slice ba bn bc):=I.cell (i:=0) rfl rfl;have h:T.up.length=un:=C.up.1
 cases Z:abI T with
 | none=>
  have A:Hid (ahi T=false):=by unfold Hid ahi;rw [Z];rfl
  have H:=ax3 (auW _ T W X D Z);clear Z C X;go_enter func215,ntmps215;go_upto_region 1 with fail
  rw [<-hW];clear hW
  go_wp2_with fail
  refine H.out.mono ?_;rintro e U ⟨rfl,Y⟩;have V:Below w.heap.size w U:=N.trans (Y.mono N.size);go_wp2;go_ret;exact⟨(by rw [A.out];rfl),V⟩
 | some r=>
  obtain⟨z,ws⟩:=r;have A:Hid (ahi T=true):=by unfold Hid ahi;rw [Z];rfl
  have H:=ax3 (at4 _ T z ws W X D Z);obtain⟨v,y,x⟩:=ahs Z;clear Z;go_enter func215,ntmps215;go_upto_region 1 with fail
  rw [<-hW];clear hW
  go_wp2_with fail
  refine H.out.mono ?_;rintro e U ⟨g,rfl,B,Y⟩;obtain⟨o,sc,s,wc,J,hS,a2,a1,j⟩:=B.ex;dsimp only at J;have V:Below w.heap.size w U:=N.trans (Y.mono N.size);have g0:U.cell? ⟨g,0,none⟩=some (.slice ua un uc):=by simp [World.cell?,J]
  have g4:U.cell? ⟨g,4,none⟩=some (.slice o z.length sc):=by simp [World.cell?,J]
  have g5:U.cell? ⟨g,5,none⟩=some (.slice s ws.length wc):=by simp [World.cell?,J]
  go_wp2;go_ret;exact⟨(by rw [A.out];rfl),V⟩
section
open Go Go.RowKit Go.Sort
def aiO {β:Type}(B:Nat)(Pb:Nat->World->World->Prop)(J:β->World->Prop):Prop:=
 ∀(s:β) (W Z:World) (row:Option Nat),J s W->W.grownBy Z row->(∀r,row=some r->(B<=r/\∃o:Obj,W.heap[r]?=some o/\o.isWalk=true)∨Pb r W Z)->J s Z
def ab8 {β:Type}(B:Nat)(Pb:Nat->World->World->Prop)(I:β->World->Prop):Prop:=
 ∀(s:β) (W Z:World) (row:Option Nat),I s W->W.grownBy Z row->(∀r,row=some r->(B<=r/\∃o:Obj,W.heap[r]?=some o/\o.isCells=false)∨Pb r W Z)->I s Z
def abk {α:Type}(F:Fence)(n:Nat)(P:Program)(g:Nat)(I:Array Value)(X:α->Array Value)(D:World->World->Prop)(Pb:Nat->World->World->Prop)(S:List α->World->Prop)(H:List α->Prop)(N:Nat)(w:World):Prop:=
 ∀(l:Nat) (J U:List α->World->Prop) (W:World),Below w.heap.size w W->aiO W.heap.size Pb J->aiO W.heap.size Pb U->
  (∀Z x V,J Z V->Z.length<N->YieldAt F (n-1) P l (X x) V fun e Y=>(e=.returned (.bool true)/\J (Z++[x]) Y/\D V Y)∨(e=.returned (.bool false)/\U (Z++[x]) Y))->
  J [] W->
  CallsIn F n P g (#[.func (.yield l) #[] #[]]++I) W fun e Y=>(∃v,e=.returned v)/\((∃xs,S xs Y/\J xs Y)∨(∃Z,H Z/\U Z Y))
theorem ab8.and {β:Type}{B:Nat}{Pb:Nat->World->World->Prop}{I U:β->World->Prop}(h:ab8 B Pb I)(N:ab8 B Pb U):ab8 B Pb (fun s W=>I s W/\U s W):=fun s W V row Z X Y=>⟨h s W V row Z.1 X Y,N s W V row Z.2 X Y⟩
theorem ab8.below {β:Type}{B Z:Nat}{Pb:Nat->World->World->Prop}{w:World}(I:Z<=B)(U:Z<=w.heap.size)(J:∀r W X,Pb r W X->Z<=r):ab8 B Pb (fun (_:β) W=>Below Z w W):=fun s W X row Y N V=>
 Y.grown N (awT U Y.size) (fun k e=>by rcases V k e with ⟨h,_⟩ | h;exact awT I h;exact J k _ _ h)
theorem ab8.size {β:Type}(B:Nat)(Pb:Nat->World->World->Prop)(n:Nat):ab8 B Pb (fun (_:β) W=>n<=W.heap.size):=fun s W X row Z Y _=>awT Z Y.size
theorem ab8.block {β:Type}(B:Nat)(Pb:Nat->World->World->Prop)(b:Nat)(cs:β->Array Value)(t:TypeId)(fr:Nat×Nat)(J:∀W X,¬Pb b W X):ab8 B Pb (fun s W=>W.heap[b]?=some (.cells (cs s) t fr)):=fun s W X row Y U V=>
 (U.block b (awU.1 Y).1 (fun e=>by
  rcases V b e.symm with ⟨_,o,ho,N⟩ | h
  · have Z:W.heap[b]?=some (.cells (cs s) t fr):=Y;rw [Z] at ho;cases ho;cases N
  · exact J _ _ h)).trans Y
theorem acT {β:Type}{B:Nat}{Pb:Nat->World->World->Prop}{J:β->World->Prop}(h:aiO B Pb J){s:β}{w w':World}(Z:J s w)(Y:Below w.heap.size w w'):J s w':=
 h s w w' none Z (aaG Y) (fun r e=>by cases e)
theorem akk {β:Type}{B:Nat}{Pb:Nat->World->World->Prop}{J:β->World->Prop}(h:aiO B Pb J){s:β}{w:World}(X:J s w){p:Nat}(i:Nat)(u:Value)(Z:Pb p w (w.setCell ⟨p,i,none⟩ u)):J s (w.setCell ⟨p,i,none⟩ u):=
 h s w _ (some p) X ⟨rfl,rfl,rfl,by simp,fun k _ Y=>axn w ⟨p,i,none⟩ u k (fun e=>Y (by rw [e]))⟩ (fun r e=>by cases e;exact .inr Z)
def ar2 (A B:World):Prop:=B.heap.size=A.heap.size/\∀(k:Nat) (cs:Array Value) (t:TypeId) (f:Nat×Nat),A.heap[k]?=some (Obj.cells cs t f)->B.heap[k]?=some (Obj.cells cs t f)
theorem apc {P:Program}{α:Type}{g:Operand}{ps:Array Tmp}{assign body:Code}{Q:Exit->Act->World->Prop}{a:Act}{w:World}{gf:Nat}{lb:Array Value}
  (hg:a.eval g=.func (.func gf) #[] lb) (eg:∀args w,(callFunc gf args).run P w=.ok (.enter gf args) w)
  {a8:α->Array Value} {Kp:World->World->Prop} {Pb:Nat->World->World->Prop} {S:List α->World->Prop} {Sp:List α->Prop} {N:Nat} (ak:abk Fence.wide 8 P gf lb a8 Kp Pb S Sp N w) (aC:∀r W W',Pb r W W'->r<w.heap.size) (hSk:∀(xs:List α) (W:World) (l:Nat) (o o':Obj),w.heap.size<=l->W.heap[l]?=some o->o.isCells=false->S xs W->S xs (W.putObj l o'))
  (aj:∀{A B C:World},Kp A B->Kp B C->Kp A C) (hKb:∀(W:World) (l:Nat) (o o':Obj),w.heap.size<=l->W.heap[l]?=some o->o.isCells=false->o.isWalk=false->Kp W (W.putObj l o')) (ar:∀x,(a8 x).size=ps.size)
  (I:List α->World->Prop) (Ix:Code->List α->World->Prop) (hI:ab8 w.heap.size Pb I) (hIx:∀c,ab8 w.heap.size Pb (Ix c)) (h0:I [] w) (a₁:α->World->Act) (wA:α->World->World) (hwA:∀x W,Below W.heap.size W (wA x W)) (hKg:∀x W,w.heap.size<=W.heap.size->Kp W (wA x W))
  (hassign:∀(l:Nat) (x:α) (W:World) (K:Act->World->Prop),K (a₁ x W) (wA x W)->
   assign.wpIn (Fence.wide.inRound l) 7 P (Exit.then K (fun _ _ _=>False)) { tmps:=(ps.zip (a8 x)).foldl (fun t (p,v)=>t.setIfInBounds p v) a.tmps,defers:=[] } W)
  (hbody:∀(l:Nat) (Y:List α) (x:α) (W V:World),ar2 (wA x W) V->I Y V->Y.length<N->body.wpIn (Fence.wide.inRound l) 7 P (ownPostG w.heap.size Kp I Ix (Y++[x]) V) (a₁ x W) V)
  (hdone:∀(D:Nat) (xs:List α) (W:World),w.heap.size<=D->S xs W->I xs W->W.heap[D]?=some (.deferred (some []))->Q .normal { a with defers:={ target:=.collected D,args:=#[] } :: a.defers } W)
  (hstop:∀(D:Nat) (c:Code) (Y:List α) (W:World),w.heap.size<=D->Sp Y->Ix c Y W->W.heap[D]?=some (.deferred (some []))->c.wp P Q { a with defers:={ target:=.collected D,args:=#[] } :: a.defers } W) :
  (Code.rangeFunc g ps assign body).wp P Q a w:=by
 refine (wpIn_wide (n:=9)).1 (wpIn_rangeFunc fun fn aA=>?_)
 let rec_:LoopState->Option Code->Loop:=fun st pe=>{ state:=st,pending:=pe,fn,tmps:=a.tmps,params:=ps,assign,body,defers:=w.heap.size }
 have U:∀st pe,rec_ st pe={ state:=st,pending:=pe,fn,tmps:=a.tmps,params:=ps,assign,body,defers:=w.heap.size }:=fun _ _=>rfl
 clear_value rec_
 have ac:∀{J:List α->World->Prop},ab8 w.heap.size Pb J->∀{s:List α} {W:World} {q:Nat} {o:Obj} (o':Obj),J s W->w.heap.size<=q->W.heap[q]?=some o->o.isCells=false->J s (W.putObj q o'):=fun hJ _ W q o o' hs hq ho hc=>
  hJ _ _ _ _ hs (grownBy_putObj' W q o') (fun r e=>by cases e;exact .inl ⟨hq,o,ho,hc⟩)
 have al:∀{J:List α->World->Prop},ab8 w.heap.size Pb J->∀{s:List α} {W:World} (o:Obj),J s W->J s (W.alloc o):=fun hJ _ W o hs=>hJ _ _ _ none hs (ayl W o none) (fun r e=>by cases e);obtain⟨W1,ab⟩:∃W1,(w.alloc (.deferred (some []))).alloc (.loop (rec_ .ready none))=W1:=⟨_,rfl⟩;have aD:W1.heap[w.heap.size+1]?=some (.loop (rec_ .ready none)):=by
  rw [<-ab];have:=axg (w.alloc (.deferred (some []))) (.loop (rec_ .ready none));rwa [ax7] at this
 have aF:W1.heap[w.heap.size]?=some (.deferred (some [])):=by
  rw [<-ab];exact (axi _ _ _ (by simp)).trans (axg w _)
 have aG:I [] W1:=by rw [<-ab];exact al hI _ (al hI _ h0)
 have aB:Below w.heap.size w W1:=by rw [<-ab];exact ((axf _ w).alloc (axe _) _).alloc (by simp) _
 have aI:W1.heap.size=w.heap.size+1+1:=by rw [<-ab];simp
 refine⟨w.heap.size+1,[{ target:=.collected w.heap.size,args:=#[] }],W1,{ target:=.fn (.func gf) lb,args:=#[.func (.yield (w.heap.size+1)) #[] #[]] },W1,gf,
  #[.func (.yield (w.heap.size+1)) #[] #[]]++lb,W1,?_,?_,?_,?_,fun _=>(by decide),?_⟩
 · rw [<-ab,U];exact run_enterLoop_outer _ _ _ _ _
 · simp only [resolve,hg];simp [go_sem]
 · intro f' aJ;trivial
 · simp [invoke,go_sem,eg]
 ·
  have z:∀{A B:World} {row:Option Nat},A.grownBy B row->(∀r,row=some r->(W1.heap.size<=r/\∃o:Obj,A.heap[r]?=some o/\o.isWalk=true)∨Pb r A B)->∀q,w.heap.size<=q->q<W1.heap.size->∀o,A.heap[q]?=some o->B.heap[q]?=some o:=fun a1 y q h1 h2 o ho=>
   (a1.block q (awU.1 ho).1 (fun e=>by
    rcases y q e.symm with ⟨h,_⟩ | h
    · omega
    · have:=aC q _ _ h;omega)).trans ho
  have own:∀{A B:World} {row:Option Nat},(∀r,row=some r->(W1.heap.size<=r/\∃o:Obj,A.heap[r]?=some o/\o.isWalk=true)∨Pb r A B)->∀r,row=some r->(w.heap.size<=r/\∃o:Obj,A.heap[r]?=some o/\o.isCells=false)∨Pb r A B:=fun y r e=>by
   rcases y r e with ⟨h,o,ho,hw⟩ | h
   · exact .inl ⟨by omega,o,ho,Obj.not_cells_of_walk hw⟩
   · exact .inr h
  refine (ak (w.heap.size+1)
   (fun Y W=>I Y W/\W.heap[w.heap.size+1]?=some (.loop (rec_ .ready none))/\W.heap[w.heap.size]?=some (.deferred (some [])))
   (fun Y W=>∃c,Ix c Y W/\W.heap[w.heap.size+1]?=some (.loop (rec_ .done (some c)))/\W.heap[w.heap.size]?=some (.deferred (some [])))
   W1 aB
   (fun s A B row hs a1 y=>⟨hI s A B row hs.1 a1 (own y),z a1 y _ (by omega) (by omega) _ hs.2.1,z a1 y _ (by omega) (by omega) _ hs.2.2⟩)
   (fun s A B row hs a1 y=>by
    obtain⟨c,hc,hl,hk⟩:=hs;exact⟨c,hIx c s A B row hc a1 (own y),z a1 y _ (by omega) (by omega) _ hl,z a1 y _ (by omega) (by omega) _ hk⟩)
   ?_ ⟨aG,aD,aF⟩).mono ?_
  ·
   rintro Y x W ⟨hi,hl,hk⟩ ao;have au:w.heap.size+1<W.heap.size:=(awU.1 hl).1;have hy:=run_yield (P:=P) (args:=a8 x) hl (by rw [U];exact ar x);rw [U] at hy;obtain⟨WA,af⟩:∃X,wA x W=X:=⟨_,rfl⟩;have ai:Below W.heap.size W WA:=by rw [<-af];exact hwA x W
   have ad:WA.heap[w.heap.size+1]?=some (.loop (rec_ .ready none)):=(ai.block _ au).trans hl;have aw:WA.heap[w.heap.size]?=some (.deferred (some [])):=(ai.block _ (by omega)).trans hk;have az:I Y WA:=hI _ _ _ none hi (aaG ai) (fun r e=>by cases e);have aE:Kp W WA:=by rw [<-af];exact hKg x W (by omega)
   have am:w.heap.size+1<WA.heap.size:=(awU.1 ad).1;refine⟨fn,_,assign,body,hy,roundIn_of_wpIn aA (hassign _ x W _ ?_)⟩;rw [af];refine⟨_,run_beginRound ad (by rw [U]),?_⟩;obtain⟨V,hV⟩:∃V,WA.putObj (w.heap.size+1) (.loop { rec_ .ready none with state:=.busy })=V:=⟨_,rfl⟩;rw [hV];have av:V.heap[w.heap.size+1]?=some (.loop { rec_ .ready none with state:=.busy }):=by rw [<-hV];exact aym am
   have ax:V.heap[w.heap.size]?=some (.deferred (some [])):=by rw [<-hV];exact (ayn (by omega)).trans aw
   have aq:Kp W V:=by rw [<-hV];exact aj aE (hKb _ _ _ _ (by omega) ad rfl rfl)
   have ay:I Y V:=by rw [<-hV];exact ac hI _ az (by omega) ad rfl
   have aH:ar2 (wA x W) V:=by
    rw [af,<-hV];refine⟨by simp [World.putObj],fun k cs t f hc=>(ayn (fun e=>?_)).trans hc⟩;rw [e,ad] at hc
    cases hc
   refine wpIn_mono (hbody _ Y x W V aH ay ao) ?_;have ae:∀(Z:Option Code) (H:World),KeepsFrom w.heap.size V H->
     (Instr.endRound (w.heap.size+1) Z).run P H=.ok (.bool Z.isNone) (H.putObj (w.heap.size+1) (.loop (rec_ (if Z.isNone then .ready else .done) Z)))/\
     H.heap[w.heap.size+1]?=some (.loop { rec_ .ready none with state:=.busy })/\
     (H.putObj (w.heap.size+1) (.loop (rec_ (if Z.isNone then .ready else .done) Z))).heap[w.heap.size+1]?=some (.loop (rec_ (if Z.isNone then .ready else .done) Z))/\
     (H.putObj (w.heap.size+1) (.loop (rec_ (if Z.isNone then .ready else .done) Z))).heap[w.heap.size]?=some (.deferred (some [])):=fun Z H aa=>by
    have a2:=aa.same _ _ (by omega) av rfl;have j:=aa.same _ _ (axe _) ax rfl;have ag:=run_endRound (P:=P) Z a2;rw [U] at ag;refine⟨?_,a2,aym (awU.1 a2).1,(ayn (by omega)).trans j⟩;rw [U];exact ag
   have a6:∀(c:Code) (H:World),KeepsFrom w.heap.size V H->Ix c (Y++[x]) H->∃(c':Code),Ix c' (Y++[x]) (H.putObj (w.heap.size+1) (.loop (rec_ .done (some c))))/\c'=c:=fun c H aa ah=>by
    obtain⟨_,a2,_,_⟩:=ae (some c) H aa;exact⟨c,ac (hIx _) _ ah (by omega) a2 rfl,rfl⟩
   rintro e a3 H hp
   cases e with
   | normal=>
    obtain⟨aa,ap,ah⟩:=hp;obtain⟨y,a2,a7,j⟩:=ae none H aa;exact⟨_,_,y,.inl ⟨rfl,⟨ac hI _ ah (by omega) a2 rfl,a7,j⟩,aj (aj aq ap) (hKb _ _ _ _ (by omega) a2 rfl rfl)⟩⟩
   | ret=>
    obtain⟨y,_,a7,j⟩:=ae (some .ret) H hp.1;obtain⟨_,h,rfl⟩:=a6 .ret H hp.1 hp.2;exact⟨_,_,y,.inr ⟨rfl,_,h,a7,j⟩⟩
   | exit id=>
    obtain⟨y,_,a7,j⟩:=ae (some (.exit id)) H hp.1;obtain⟨_,h,rfl⟩:=a6 (.exit id) H hp.1 hp.2;exact⟨_,_,y,.inr ⟨rfl,_,h,a7,j⟩⟩
   | goto t=>
    obtain⟨y,_,a7,j⟩:=ae (some (.goto t)) H hp.1;obtain⟨_,h,rfl⟩:=a6 (.goto t) H hp.1 hp.2;exact⟨_,_,y,.inr ⟨rfl,_,h,a7,j⟩⟩
   | panic ch=>exact hp.elim
   | outgrown=>exact hp.elim
  ·
   rintro e W2 ⟨⟨v,rfl⟩,(⟨xs,hS,hi,hl,hk⟩ | ⟨Y,hSp,c,hi,hl,hk⟩)⟩
   · exact⟨none,_,by have:=run_endLoop (P:=P) hl (by rw [U];simp);rw [U] at this;exact this,hdone _ xs _ (axe _) (hSk _ _ _ _ _ (by omega) hl rfl hS) (ac hI _ hi (by omega) hl rfl) ((ayn (by omega)).trans hk)⟩
   · exact⟨some c,_,by have:=run_endLoop (P:=P) hl (by rw [U];simp);rw [U] at this;exact this,wpIn_wide.2 (hstop _ c Y _ (axe _) hSp (ac (hIx c) _ hi (by omega) hl rfl) ((ayn (by omega)).trans hk))⟩
end
section
open Go Go.RowKit Go.Sort
def ajp {β:Type}(B:Nat)(Pb:Nat->Prop)(J:β->World->Prop):Prop:=
 ∀(s:β) (W Z:World) (row:Option Nat),J s W->W.grownBy Z row->(∀r,row=some r->(B<=r/\∃o:Obj,W.heap[r]?=some o/\o.isWalk=true)∨Pb r)->J s Z
def aaZ {β:Type}(B:Nat)(Pb:Nat->Prop)(I:β->World->Prop):Prop:=
 ∀(s:β) (W Z:World) (row:Option Nat),I s W->W.grownBy Z row->(∀r,row=some r->(B<=r/\∃o:Obj,W.heap[r]?=some o/\o.isCells=false)∨Pb r)->I s Z
def agX {α:Type}(F:Fence)(n:Nat)(P:Program)(g:Nat)(I:Array Value)(X:α->Array Value)(D:World->World->Prop)(Pb:Nat->Prop)(S H:List α->Prop)(N:Nat)(w:World):Prop:=
 ∀(l:Nat) (J U:List α->World->Prop) (W:World),Below w.heap.size w W->ajp W.heap.size Pb J->ajp W.heap.size Pb U->
  (∀Z x V,J Z V->Z.length<N->YieldAt F (n-1) P l (X x) V fun e Y=>(e=.returned (.bool true)/\J (Z++[x]) Y/\D V Y)∨(e=.returned (.bool false)/\U (Z++[x]) Y))->
  J [] W->
  CallsIn F n P g (#[.func (.yield l) #[] #[]]++I) W fun e Y=>(∃v,e=.returned v)/\((∃xs,S xs/\J xs Y)∨(∃Z,H Z/\U Z Y))
theorem aaZ.and {β:Type}{B:Nat}{Pb:Nat->Prop}{I U:β->World->Prop}(h:aaZ B Pb I)(N:aaZ B Pb U):aaZ B Pb (fun s W=>I s W/\U s W):=fun s W V row Z X Y=>⟨h s W V row Z.1 X Y,N s W V row Z.2 X Y⟩
theorem aaZ.pure {β:Type}(B:Nat)(Pb:Nat->Prop)(p:β->Prop):aaZ B Pb (fun s (_:World)=>p s):=fun s W Y row Z _ _=>Z
theorem aaZ.box {β:Type}(B:Nat)(Pb:Nat->Prop)(b:Nat)(t:TypeId)(f:β->Value)(N:¬Pb b):aaZ B Pb (fun s W=>Boxed W b t (f s)):=fun s W J row Y V X=>
 (V.block b (awU.1 Y).1 (fun e=>by
  rcases X b e.symm with ⟨_,o,ho,U⟩ | h
  · have Z:W.heap[b]?=some (.cells #[f s] t (0,0)):=Y;rw [Z] at ho;cases ho;cases U
  · exact N h)).trans Y
theorem aaZ.below {β:Type}{B Z:Nat}{Pb:Nat->Prop}{w:World}(J:Z<=B)(V:Z<=w.heap.size)(N:∀r,Pb r->Z<=r):aaZ B Pb (fun (_:β) W=>Below Z w W):=fun s W I row Y U X=>
 Y.grown U (awT V Y.size) (fun k e=>by rcases X k e with ⟨h,_⟩ | h;exact awT J h;exact N k h)
theorem aaZ.size {β:Type}(B:Nat)(Pb:Nat->Prop)(n:Nat):aaZ B Pb (fun (_:β) W=>n<=W.heap.size):=fun s W X row Z Y _=>awT Z Y.size
theorem arJ {β:Type}{B:Nat}{Pb:Nat->Prop}{J:β->World->Prop}(h:ajp B Pb J){s:β}{w w':World}(Z:J s w)(Y:Below w.heap.size w w'):J s w':=
 h s w w' none Z (aaG Y) (fun r e=>by cases e)
theorem aiS {β:Type}{B:Nat}{Pb:Nat->Prop}{J:β->World->Prop}(h:ajp B Pb J){s:β}{w:World}(X:J s w){p:Nat}(Z:Pb p)(i:Nat)(u:Value):J s (w.setCell ⟨p,i,none⟩ u):=
 h s w _ (some p) X ⟨rfl,rfl,rfl,by simp,fun k _ Y=>axn w ⟨p,i,none⟩ u k (fun e=>Y (by rw [e]))⟩ (fun r e=>by cases e;exact .inr Z)
theorem atK {P:Program}{α:Type}{g:Operand}{y:Array Tmp}{assign body:Code}{Q:Exit->Act->World->Prop}{a:Act}{w:World}{H:Nat}{lb:Array Value}
  (hg:a.eval g=.func (.func H) #[] lb) (eg:∀args w,(callFunc H args).run P w=.ok (.enter H args) w)
  {Y:α->Array Value} {X:World->World->Prop} {Pb:Nat->Prop} {S Sp:List α->Prop} {N:Nat} (U:agX Fence.wide 8 P H lb Y X Pb S Sp N w) (j:∀r,Pb r->r<w.heap.size)
  (e:∀{A B C:World},X A B->X B C->X A C) (hKb:∀(W:World) (l:Nat) (o o':Obj),w.heap.size<=l->W.heap[l]?=some o->o.isCells=false->o.isWalk=false->X W (W.putObj l o')) (s:∀x,(Y x).size=y.size)
  (I:List α->World->Prop) (z:Code->List α->World->Prop) (hI:aaZ w.heap.size Pb I) (hIx:∀c,aaZ w.heap.size Pb (z c)) (h0:I [] w) (a₁:α->Act)
  (hassign:∀(l:Nat) (x:α) (W:World) (K:Act->World->Prop),K (a₁ x) W->
   assign.wpIn (Fence.wide.inRound l) 7 P (Exit.then K (fun _ _ _=>False)) { tmps:=(y.zip (Y x)).foldl (fun t (p,v)=>t.setIfInBounds p v) a.tmps,defers:=[] } W)
  (hbody:∀(l:Nat) (Z:List α) (x:α) (W:World),I Z W->Z.length<N->body.wpIn (Fence.wide.inRound l) 7 P (ownPostG w.heap.size X I z (Z++[x]) W) (a₁ x) W)
  (hdone:∀(D:Nat) (xs:List α) (W:World),w.heap.size<=D->S xs->I xs W->W.heap[D]?=some (.deferred (some []))->Q .normal { a with defers:={ target:=.collected D,args:=#[] } :: a.defers } W)
  (hstop:∀(D:Nat) (c:Code) (Z:List α) (W:World),w.heap.size<=D->Sp Z->z c Z W->W.heap[D]?=some (.deferred (some []))->c.wp P Q { a with defers:={ target:=.collected D,args:=#[] } :: a.defers } W)
  (hKr:∀W,X W W) :
  (Code.rangeFunc g y assign body).wp P Q a w:=
 apc hg eg (Pb:=fun r _ _=>Pb r) (S:=fun xs _=>S xs) (fun l J Jx W h1 h2 h3 h4 h5=>U l J Jx W h1 h2 h3 h4 h5) (fun r _ _ h=>j r h) (fun _ _ _ _ _ _ _ _ h=>h) e hKb s I z hI hIx h0 (fun x _=>a₁ x) (fun _ W=>W) (fun _ _=>axf _ _) (fun _ W _=>hKr W)
  (fun l x W K hK=>hassign l x W K hK) (fun l Z x W V _ hI hN=>hbody l Z x V hI hN) hdone hstop
end
section
open Go.RowKit Go.Sort Go.Maps Go.WideAt Go.WideMaps
theorem asK:laidOutB ZP=true:=by kernel_rfl
theorem aeU:Keyed ZP 313:=Keyed.of_law (deep_law_laid asK (m:=ZP.types.size+1) (of_decide_eq_true (by kernel_rfl)) (of_decide_eq_true (by kernel_rfl)) (by kernel_rfl) (by kernel_rfl))
theorem awB (n c:Int)(H:-9223372036854775808<=n/\n<=9223372036854775807)(D:0<=c/\c<=255):∃X,keyOf ZP 313 (.agg #[.int .i64 n,.int .u8 c])=some X:=by
 have U:ZP.keyType 313=true:=by kernel_rfl
 have h0:0<ZP.types.size:=of_decide_eq_true (by kernel_rfl);obtain⟨m,V⟩:∃m,ZP.types.size+1=m+1+1:=⟨ZP.types.size-1,by omega⟩;have I:ZP.cellsOf 313=2:=by kernel_rfl
 have J:ZP.cellsOf 3=1:=by kernel_rfl
 have N:ZP.cellsOf 5=1:=by kernel_rfl
 have Y:(Lit.int .i64 n).wf=true:=by simp [Lit.wf,IntKind.min,IntKind.max,IntKind.signed,IntKind.bits];omega
 have Z:(Lit.int .u8 c).wf=true:=by simp [Lit.wf,IntKind.min,IntKind.max,IntKind.signed,IntKind.bits];omega
 unfold keyOf;rw [underlying313,V];refine⟨.string (keyBytes [.int .i64 n,.int .u8 c]),?_⟩;simp [U,Value.formed,Value.cells,Program.keyLits,underlying313,underlying3,underlying5,I,J,N,Y,Z]
def FK (D:DataW Unit)(f:Int×Int->Option Int):Prop:=IsMap D/\∀n c Z,keyOf ZP 313 (.agg #[.int .i64 n,.int .u8 c])=some Z->
 Maps.has D Z=(f (n,c)).isSome/\D.atKey Z (.lit (.int .i64 0))=.lit (.int .i64 ((f (n,c)).getD 0))
theorem FK.start:FK (.map []) (fun _=>none):=⟨isMap_empty,fun n c Z _=>⟨rfl,rfl⟩⟩
theorem FK.put {D:DataW Unit}{f:Int×Int->Option Int}(h:FK D f){n c m:Int}{V:Lit}(N:keyOf ZP 313 (.agg #[.int .i64 n,.int .u8 c])=some V) :
  FK (D.put V (.lit (.int .i64 m))) (fun q=>if q=(n,c) then some m else f q):=by
 have X:=aeU.key N;refine⟨h.1.put _ _,fun J H Y Z=>?_⟩
 by_cases e:Y=V
 · subst e;have:=aeU.inj Z N;simp only [Value.agg.injEq,Array.mk.injEq,axF,Value.int.injEq,true_and,and_true] at this;obtain⟨rfl,rfl⟩:=this;refine⟨by rw [has_put_same h.1 X];simp,?_⟩;rw [atKey_put_same h.1 X];simp
 ·
  have U:¬((J,H)=(n,c)):=by
   intro I;simp only [ayU] at I;obtain⟨rfl,rfl⟩:=I;rw [N] at Z;exact e (awV Z).symm
  simp only [if_neg U];obtain⟨h1,h2⟩:=h.2 J H Y Z;exact⟨by rw [has_put_other e,h1],by rw [atKey_put_other e,h2]⟩
def FM (W:World)(b n:Nat)(f:Int×Int->Option Int):Prop:=∃D:DataW Unit,W.ownsMap ZP 313 (plainElem ZP 3) b n D/\FK D f
theorem FM.start (w:World):FM (w.alloc (.map #[] 0)) w.heap.size 0 (fun _=>none):=⟨_,ayV w ZP 313 (plainElem ZP 3),FK.start⟩
theorem FM.lt {W:World}{b n:Nat}{f:Int×Int->Option Int}(h:FM W b n f):b<W.heap.size:=by
 obtain⟨D,h1,_⟩:=h;exact h1.lt
theorem FM.kept {W Y:World}{b n:Nat}{f:Int×Int->Option Int}{row:Option Nat}(h:FM W b n f)(X:W.grownBy Y row)(Z:row≠some b):FM Y b n f:=by
 obtain⟨D,h1,h2⟩:=h;exact⟨D,h1.kept X (fun e=>Z e.symm),h2⟩
theorem FM.below {W Z:World}{b n:Nat}{f:Int×Int->Option Int}(h:FM W b n f)(Y:Below W.heap.size W Z):FM Z b n f:=h.kept (aaG Y) (by simp)
theorem FM.alloc {W:World}{b n:Nat}{f:Int×Int->Option Int}(h:FM W b n f)(o:Obj):FM (W.alloc o) b n f:=h.below (aa1 W o)
theorem FM.set {w:World}{b n m i:Nat}{f:Int×Int->Option Int}(h:FM w b n f)(Z:m≠b)(u:Value):FM (w.setCell ⟨m,i,none⟩ u) b n f:=h.kept (aa9 w m i u) (by intro e;injection e with e;exact Z e)
theorem ar7 (w:World):(zeroValue 3).run ZP w=.ok (.int .i64 0) w:=by kernel_rfl
theorem FM.look {W:World}{b n:Nat}{f:Int×Int->Option Int}(h:FM W b n f){z c:Int}(V:-9223372036854775808<=z/\z<=9223372036854775807)(J:0<=c/\c<=255) :
  Sem.run ZP (Instr.lookup 275 (.map (some b)) (.agg #[.int .i64 z,.int .u8 c]) true) W=.ok (.tuple #[.int .i64 ((f (z,c)).getD 0),.bool (f (z,c)).isSome]) W:=by
 obtain⟨D,h1,h2,h3⟩:=h;obtain⟨X,Y⟩:=awB z c V J;obtain⟨h4,h5⟩:=h3 z c X Y;obtain⟨v,I,Z,U⟩:=h1.look_ok aeU underlying275 (ar7 W) (zd:=.lit (.int .i64 0)) (zp:=[]) (plainElem_int underlying3 (by decide)) Y;obtain⟨q,rfl,N,_⟩:=plainElem_int_inv underlying3 U;have h6:D.atKey X (.lit (.int .i64 0))=.lit (.int .i64 q):=congrArg Prod.fst N;rw [h5] at h6;have h7:(f (z,c)).getD 0=q:=by simpa using h6
 rw [Z,h4,h7]
section
variable {w:World}{ops:Array Oper}{rest:List Oper}{o:Oper}{a:Act}{Q:Exit->Act->World->Prop}{b n:Nat}{f:Int×Int->Option Int}
theorem ajH (A:o.guard=none)(m x y:Operand)(X:o.op=Op.mapUpdate 275 m x y)(B:a.eval m=.map (some b))(Z:FM w b n f)(C:n<maxLen)(z c:Int)(v:Int)(H:(Lit.int .i64 v).wf=true)(U:-9223372036854775808<=z/\z<=9223372036854775807)(s:0<=c/\c<=255)(J:a.eval x=.agg #[.int .i64 z,.int .u8 c])(N:a.eval y=.int .i64 v)
  (j:∀w',FM w' b (n+1) (fun q=>if q=(z,c) then some v else f q)->w.grownBy w' (some b)->wpList ZP ops Q rest (a.put o.dst undef) w'):wpList ZP ops Q (o :: rest) a w:=by
 obtain⟨D,h1,h2⟩:=Z;obtain⟨h,Y⟩:=awB z c U s;refine wpList_mapUpdate_own _ A m x y 275 X 313 3 aeU underlying275 _ b n D B h1 C _ _ _ J N Y _ [] (plainElem_int underlying3 H) ?_;intro w' I V;exact j w' ⟨_,I,h2.put Y⟩ V
end
end
section
attribute [local go_sem] Oper.semAt_some
attribute [local simp] aab aa6
attribute [local go_sem] aab aa6
abbrev ChP:={ z:Nat // z<=1000000 }
def auL (z:ChP):Array Value:=#[.int .i64 (z.1:Int)]
theorem aqI (L:List Int):∀(f z:Nat),(chN L f z).length<=f+1/\1<=(chN L f z).length
 | 0,z=>by simp [chN]
 | f+1,z=>by
  unfold chN
  split
  · simp
  · have:=aqI L f ((L[z]?).getD 0).toNat;simp;omega
theorem atu (L:List Int)(f z:Nat):chN L (f+1) z=if z=0 then [z] else z :: chN L f ((L[z]?).getD 0).toNat:=rfl
theorem arS (L:List Int)(f:Nat):chN L f 0=[0]:=by cases f<;>simp [chN]
theorem asZ (L:List Int)(f z:Nat):∃r,chN L f z=z :: r:=by
 cases f with
 | zero=>exact⟨[],rfl⟩
 | succ f=>
  unfold chN
  split
  · exact⟨[],rfl⟩
  · exact⟨_,rfl⟩
theorem anT (g:Nat)(node:Int)(w:World) :
  Calls ZP 253 #[.pointer (some ⟨g,0,none⟩),.int .i64 node] w fun e w'=>e=.returned (.func (.func 279) #[] #[.pointer (some ⟨w.heap.size+1,0,none⟩),.pointer (some ⟨w.heap.size,0,none⟩)])/\
   w'=(w.alloc (.cells #[.pointer (some ⟨g,0,none⟩)] 272)).alloc (.cells #[.int .i64 node] 3):=by
 go_enter func253,ntmps253;go_wp2;go_ret;exact⟨rfl,rfl⟩
def akX (p:Nat)(w:World):Nat:=match w.cell? ⟨p,0,none⟩ with | some v=>(intOf v).toNat | none=>0
theorem adJ {w:World}{p z:Nat}{t:TypeId}(h:Boxed w p t (.int .i64 (z:Int))):akX p w=z:=by
 unfold akX;rw [h.cell];simp [intOf]
theorem alE (g I p2 q n:Nat)(L:List Int)(node:Nat)(cs:Array Value)(S:Nat->Prop)(m:Nat)(w:World)
  (hg:w.heap[g]?=some (.cells cs 277 (0,0))) (h:cs[5]?=some (.slice (some ⟨q,0,none⟩) n n)) (hq:aaa q L w) (hL:L.length=n) (hn:n<=1000000)
  (h1:Boxed w I 272 (.pointer (some ⟨g,0,none⟩))) (h2:Boxed w p2 3 (.int .i64 (node:Int)))
  (hS:S g/\S q/\S I/\S p2) (C:∀k,S k->k<w.heap.size) (hp:p2≠g/\p2≠q/\p2≠I)
  (a6:node<n) (y:∀j,1<=j->j<=node->∃k:Nat,L[j]?=some (k:Int)/\k<j) :
  agX Fence.wide m ZP 279 #[.pointer (some ⟨p2,0,none⟩),.pointer (some ⟨I,0,none⟩)] auL (ab0 S) (fun r=>r=p2) (fun zs=>zs.map Subtype.val=chN L node node) (fun Z=>∃r,chN L node node=Z.map Subtype.val++r) (node+2) w:=by
 intro l J Jx W hW hJ ao hY h0;obtain⟨s1,s2,s3,s4⟩:=hS;obtain⟨p3,p4,p5⟩:=hp;have cells:∀v:World,(∀k,S k->k≠p2->v.heap[k]?=w.heap[k]?)->v.cell? ⟨I,0,none⟩=some (.pointer (some ⟨g,0,none⟩))/\v.cell? ⟨g,5,none⟩=some (.slice (some ⟨q,0,none⟩) n n)/\∀(j:Nat) (x:Int),L[j]?=some x->v.cell? ⟨q,j,none⟩=some (.int .i64 x):=by
  intro v hv;have e1:v.heap[I]?=some (.cells #[.pointer (some ⟨g,0,none⟩)] 272 (0,0)):=(hv I s3 (Ne.symm p5)).trans h1;have e2:v.heap[g]?=_:=(hv g s1 (Ne.symm p3)).trans hg;have e3:v.heap[q]?=some (.cells (L.map (Value.int .i64)).toArray 3 (0,0)):=(hv q s2 (Ne.symm p4)).trans hq;refine⟨by simp [World.cell?,e1],by simp [World.cell?,e2,h],fun j x hx=>?_⟩;rw [cell_of_row v q j _ _ _ e3];simp [hx]
 have HC:=ax3 cells;have a8:∀k,S k->k≠p2->W.heap[k]?=w.heap[k]?:=fun k o _=>hW.block k (C k o);have aa:Boxed W p2 3 (.int .i64 (node:Int)):=(hW.block p2 h2.lt).trans h2;have ai:=ax3 y;have af:=ax3 s4;have ap:=ax3 C;clear hg h hq h1 h2 cells y C;refine callsIn_of_wp func279 rfl trivial ?_ rfl;simp only [ntmps279,axT,axU,axV,Nat.reduceAdd,Nat.reduceSub,axW,axX,axY,axZ,ay0,ay1]
 gi_wp2
 gi_loopw [4] (fun s4 wr=>∃(z f:Nat) (Z:List ChP),z<=f/\z<=node/\Hid (chN L node node=Z.map Subtype.val++chN L f z)/\Boxed wr p2 3 (.int .i64 (z:Int))/\J Z wr/\Hid (∀k,S k->k≠p2->wr.heap[k]?=w.heap[k]?)) (fun _ wr=>akX p2 wr)
 case atStart=>exact⟨node,node,[],axe _,axe _,rfl,aa,h0,a8⟩
 case round=>
  obtain⟨z,f,Z,al,a2,HP,V,hj,HK⟩:=hrel;have cz:=V.cell;have ah:=ax3 (adJ V);have s:Z.length<node+2:=by
   have h1:=congrArg List.length HP.out;rw [List.length_append,ayq] at h1;have h2:=aqI L node node;omega
  obtain⟨fn,tmps,assign,body,D,B⟩:=hY Z ⟨z,by omega⟩ wr hj s;dsimp only [auL] at D
  gi_wp2
  refine B.mono ?_;rintro e N (⟨rfl,hJ4,hk4⟩ | ⟨rfl,hJx4⟩)
  ·
   have X:Boxed N p2 3 (.int .i64 (z:Int)):=(hk4 p2 af.out).trans V;have A:Hid (∀k,S k->k≠p2->N.heap[k]?=w.heap[k]?):=fun k h1 h2=>(hk4 k h1).trans (HK.out k h1 h2);have ae:=X.cell
   by_cases hz:z=0
   ·
    subst hz;have HF:Hid (chN L node node=(Z++[(⟨0,by omega⟩:ChP)]).map Subtype.val):=by have:=HP.out;rw [arS] at this;rw [Hid,this];simp
    clear cz V B D
    gi_wp2
    go_end0
    exact⟨⟨_,rfl⟩,.inl ⟨_,HF.out.symm,hJ4⟩⟩
   ·
    obtain⟨k,o,a7⟩:=ai.out z (by omega) a2;obtain⟨f,rfl⟩:∃f',f=f'+1:=⟨f-1,by omega⟩;have H:z<=1000000:=by omega
    have HF:Hid (chN L node node=(Z++[(⟨z,H⟩:ChP)]).map Subtype.val++chN L f k):=by
     have:=HP.out;rw [atu,if_neg hz,o,ayr,axs] at this;rw [Hid,this];simp
    obtain⟨c1,c2,c3⟩:=HC.out N A.out;have c4:=c3 z k o;have am:((z:Int) != 0)=true:=by simp;omega
    have i1:(0:Int)<=(z:Int):=by omega
    have i2:(z:Int)<(n:Int):=by omega
    have ak:=X.lt;have ad:=X.frozen;clear cz V B D c3 o
    gi_wp2
    refine aaJ (af1 _ _) 7 mixed (by kernel_rfl) (by kernel_rfl) ?_;dsimp only [List.take_succ_cons,List.take_zero,List.drop_succ_cons,List.drop_zero]
    repeat (go_big_quiet_step (fail))
    refine wpQuiet_nil ?_;rintro _ ⟨nq,rfl⟩;have ab:Below N.heap.size N (N.drewN nq):=⟨rfl,rfl,rfl,axe _,fun _ _=>rfl⟩;have a1:=arJ hJ hJ4 ab;have ac:=aiS hJ a1 (p:=p2) rfl 0 (.int .i64 (k:Int));have Y:Boxed (N.drewN nq) p2 3 (.int .i64 (z:Int)):=X;have U:=Y.set (.int .i64 (k:Int));have ag:=ax3 (adJ U);have aj:Hid (∀j,S j->j≠p2->((N.drewN nq).setCell ⟨p2,0,none⟩ (.int .i64 (k:Int))).heap[j]?=w.heap[j]?):=fun j h1 h2=>(axn _ _ _ _ (by show j≠p2;exact h2)).trans (A.out j h1 h2);have d1:=Y.cell;have d2:=Y.frozen;have d3:=Y.lt;clear c1 c2 c4 ae ad A a1 hJ4
    gi_wp2
    go_roundw
    case rel=>exact⟨k,f,_,by omega,by omega,HF,U,ac,aj⟩
    case measure=>rw [ah.out,ag.out];exact a7
  ·
   have H:z<=1000000:=by omega
   have HF:Hid (∃r,chN L node node=(Z++[(⟨z,H⟩:ChP)]).map Subtype.val++r):=by
    obtain⟨r,hr⟩:=asZ L f z;exact⟨r,by rw [HP.out,hr];simp⟩
   gi_wp2
   go_end0
   exact⟨⟨_,rfl⟩,.inr ⟨_,HF.out,hJx4⟩⟩
end
section
attribute [local go_sem] Oper.semAt_some
attribute [local simp] aab aa6
attribute [local go_sem] aab aa6
theorem aeI {fn:Func}{p:Tmp}{tmps:Array Value}{W:World}{B:Nat}(h:fn.results=#[.cell p 3])(Y:tmps.getD p undef=.pointer (some ⟨B,0,none⟩)){v:Int}(V:Boxed W B 3 (.int .i64 v)) :
  (results fn tmps).run ZP W=.ok (.int .i64 v) W:=by
 have Z:tmps[p]?.getD undef=.pointer (some ⟨B,0,none⟩):=by simpa using Y
 have X:=V.cell;simp [results,h,Z,asAddr,X,go_sem,loadVar]
abbrev ac5 (ws:List (List Int)):Int×Int->Option Int:=acO (aa5 ws).up (aa5 ws).byt ((aa0 ws).length-1)
theorem apv (g mb q n nm i z:Nat)(ws:List (List Int))(L:List Int)(cs:Array Value)(x:List Int)(c:Int)(w:World)
  (hg:w.heap[g]?=some (.cells cs 277 (0,0))) (ae:cs[4]?=some (.map (some mb))) (al:cs[5]?=some (.slice (some ⟨q,0,none⟩) n n)) (hm:FM w mb nm (ac5 ws)) (hq:aaa q L w) (hL:L.length=n) (hN:(aa0 ws).length=n) (hn:n<=1000000)
  (a6:aeT ws L i) (hi:i<=n) (hz:z<i) (hx:(aa0 ws)[z]?=some x) (hc:0<=c/\c<=255) :
  Calls ZP 216 #[.pointer (some ⟨g,0,none⟩),.int .i64 (z:Int),.int .u8 c] w fun e w'=>e=.returned (.int .i64 (aaR (aa0 ws) (lsf (aa0 ws) (x++[c]))))/\Below w.heap.size w w':=by
 obtain⟨J,hW⟩:∃W,W=((w.alloc (.cells #[.pointer (some ⟨g,0,none⟩)] 272)).alloc (.cells #[.int .u8 c] 5)).alloc (.cells #[.int .i64 0] 3):=⟨_,rfl⟩;have hB:Below w.heap.size w J:=by rw [hW];exact ((aa1 _ _).alloc (by simp only [ax7];omega) _).alloc (by simp only [ax7];omega) _
 have hO:Bx w.heap.size [.cells #[.pointer (some ⟨g,0,none⟩)] 272,.cells #[.int .u8 c] 5,.cells #[.int .i64 0] 3] J:=by
  rw [hW];exact (((Bx.nil _ w).snoc _ rfl).snoc _ (by simp)).snoc _ (by simp)
 have ag:J.heap.size=w.heap.size+1+1+1:=by rw [hW];simp
 have bG:Boxed J w.heap.size 272 (.pointer (some ⟨g,0,none⟩)):=hO 0 _ rfl;have bC:Boxed J (w.heap.size+1) 5 (.int .u8 c):=hO 1 _ rfl;have bR:Boxed J (w.heap.size+1+1) 3 (.int .i64 0):=hO 2 _ rfl;have c0:=bG.cell;clear hO;refine aau func216 rfl ?_;simp only [ntmps216,axT,axU,axV,Nat.reduceAdd,Nat.reduceSub,axW,axX,axY,axZ,ay0,ay1];go_upto_region 1 with fail
 rw [<-hW];clear hW
 go_wp2_with (go_at_call 253;refine (anT g z J).mono ?_;rintro e w' ⟨rfl,rfl⟩)
 obtain⟨N,o⟩:∃W,W=(J.alloc (.cells #[.pointer (some ⟨g,0,none⟩)] 272)).alloc (.cells #[.int .i64 (z:Int)] 3):=⟨_,rfl⟩;have V:Below J.heap.size J N:=by rw [o];exact (aa1 _ _).alloc (by simp) _
 have h1:Boxed N J.heap.size 272 (.pointer (some ⟨g,0,none⟩)):=by rw [o];exact (Boxed.new J 272 _).alloc _
 have h2:Boxed N (J.heap.size+1) 3 (.int .i64 (z:Int)):=by
  rw [o];have:=Boxed.new (J.alloc (.cells #[.pointer (some ⟨g,0,none⟩)] 272)) 3 (.int .i64 (z:Int))
  rwa [ax7] at this
 rw [<-o];clear o c0;have a8:Below w.heap.size w N:=hB.trans (V.mono hB.size);have au:Boxed N w.heap.size 272 (.pointer (some ⟨g,0,none⟩)):=(V.block _ bG.lt).trans bG;have av:Boxed N (w.heap.size+1) 5 (.int .u8 c):=(V.block _ bC.lt).trans bC;have aq:Boxed N (w.heap.size+1+1) 3 (.int .i64 0):=(V.block _ bR.lt).trans bR;have ac:g<w.heap.size:=(awU.1 hg).1;have ah:q<w.heap.size:=(awU.1 (show w.heap[q]?=_ from hq)).1;have aw:=hm.lt;have ad:N.heap[g]?=_:=(a8.block g ac).trans hg;have aa:aaa q L N:=(a8.block q ah).trans hq;have ab:∀j,1<=j->j<=z->∃k:Nat,L[j]?=some (k:Int)/\k<j:=fun j h1 h2=>by
  obtain⟨y,hy⟩:∃y,(aa0 ws)[j]?=some y:=⟨(aa0 ws)[j]'(by omega),by simp⟩;obtain⟨k,e1,e2,_⟩:=a6.at_ (by omega) hy (by omega);exact⟨k,e1,e2⟩
 have af:=h2.lt;rw [ag] at h1 h2 af;have ai:=alE g (w.heap.size+1+1+1) (w.heap.size+1+1+1+1) q n L z cs (fun k=>k<N.heap.size) 8 N ad al aa hL hn h1 h2 ⟨by omega,by omega,by omega,by omega⟩ (fun k hk=>hk) ⟨by omega,by omega,by omega⟩ (by omega) ab;clear bG bC bR hB V ab ad aa
 apply atK rfl (enters_of func279 (by kernel_rfl) rfl) ai (fun r hr=>by rw [hr];exact h2.lt) abp (ad2 fun _ h=>h) (fun _=>rfl) (hKr:=fun _ _ _=>rfl)
  (fun U W=>Boxed W w.heap.size 272 (.pointer (some ⟨g,0,none⟩))/\Boxed W (w.heap.size+1) 5 (.int .u8 c)/\Boxed W (w.heap.size+1+1) 3 (.int .i64 0)/\Below w.heap.size w W/\N.heap.size<=W.heap.size/\∀y∈U.map Subtype.val,ac5 ws ((y:Int),c)=none)
  (fun c' U W=>∃k:Int,Boxed W (w.heap.size+1+1) 3 (.int .i64 k)/\Below w.heap.size w W/\(c'=.ret/\∃(p:List Nat) (y:Nat),U.map Subtype.val=p++[y]/\(∀y∈p,ac5 ws ((y:Int),c)=none)/\ac5 ws ((y:Int),c)=some k))
 case hI=>exact aaZ.and (aaZ.box _ _ _ _ _ (by show ¬(_=_);omega)) (aaZ.and (aaZ.box _ _ _ _ _ (by show ¬(_=_);omega)) (aaZ.and (aaZ.box _ _ _ _ _ (by show ¬(_=_);omega)) (aaZ.and (aaZ.below (by omega) (axe _) (fun r hr=>by rw [hr];omega)) (aaZ.and (aaZ.size _ _ _) (aaZ.pure _ _ _)))))
 case hIx=>
  intro c' s A C row ⟨k,hs⟩ hg hr;have h:aaZ N.heap.size (fun r=>r=w.heap.size+1+1+1+1) (fun (s:List ChP) (W:World)=>Boxed W (w.heap.size+1+1) 3 (.int .i64 k)/\Below w.heap.size w W/\(c'=.ret/\∃(p:List Nat) (y:Nat),s.map Subtype.val=p++[y]/\(∀y∈p,ac5 ws ((y:Int),c)=none)/\ac5 ws ((y:Int),c)=some k)):=
   aaZ.and (aaZ.box _ _ _ _ _ (by show ¬(_=_);omega)) (aaZ.and (aaZ.below (by omega) (axe _) (fun r hr=>by rw [hr];omega)) (aaZ.pure _ _ _))
  exact⟨k,h s A C row hs hg hr⟩
 case h0=>exact⟨au,av,aq,a8,axe _,by simp⟩
 case hassign=>
  intro l x W K hK;unfold auL
  gi_wp2
  exact hK
 case hbody=>
  rintro l U ⟨y,hy⟩ W ⟨hG,hC,I,X,hs,Y⟩ ax;have q0:=I.cell;have q1:=I.frozen;have ay:∀d os,(grow (redrawn W d) os).cell? ⟨g,4,none⟩=some (.map (some mb)):=fun d os=>by
   have:(grow (redrawn W d) os).heap[g]?=some (.cells cs 277 (0,0)):=((below_regrown W d os).block g (by have:=X.size;omega)).trans ((X.block g ac).trans hg);simp [World.cell?,this,ae]
  have az:∀d os,(grow (redrawn W d) os).cell? ⟨w.heap.size,0,none⟩=some (.pointer (some ⟨g,0,none⟩)):=fun d os=>((below_regrown W d os).cell (p:=⟨w.heap.size,0,none⟩) hG.lt).trans hG.cell;have aA:∀d os,(grow (redrawn W d) os).cell? ⟨w.heap.size+1,0,none⟩=some (.int .u8 c):=fun d os=>((below_regrown W d os).cell (p:=⟨w.heap.size+1,0,none⟩) hC.lt).trans hC.cell;obtain⟨O,hO⟩:∃O,ac5 ws ((y:Int),c)=O:=⟨_,rfl⟩;have ak:∀d os,Sem.run ZP (Instr.lookup 275 (.map (some mb)) (.agg #[.int .i64 (y:Int),.int .u8 c]) true) (grow (redrawn W d) os)=.ok (.tuple #[.int .i64 (O.getD 0),.bool O.isSome]) (grow (redrawn W d) os):=fun d os=>by
   have:=((hm.below X).below (below_regrown W d os)).look (z:=(y:Int)) (c:=c) (by omega) hc
   rwa [hO] at this
  have a2:=ax3 Y;have HO:=ax3 hO;clear Y hO
  cases O with
  | none=>
   have HF:Hid (∀v∈(U++[(⟨y,hy⟩:ChP)]).map Subtype.val,ac5 ws ((v:Int),c)=none):=fun v hv=>by
    rw [ay7,ayd] at hv
    rcases hv with hv | hv
    · exact a2.out v hv
    · simp at hv;rw [hv];exact HO.out
   dsimp only
   gi_wp2
   refine abC (av3 _ _ _) mixed (by kernel_rfl) (by kernel_rfl) ?_
   repeat (go_big_quiet_step (fail))
   refine wpQuiet_nil ?_;rintro _ ⟨⟨dq,H⟩,rfl⟩;have Z:=below_regrown W dq H
   gi_wp2
   exact⟨ab3 Z,aaQ Z (fun k hk=>by omega),(Z.block _ hG.lt).trans hG,(Z.block _ hC.lt).trans hC,(Z.block _ I.lt).trans I,X.trans (Z.mono X.size),awT hs Z.size,HF.out⟩
  | some v=>
   have HF:Hid (∃(p:List Nat) (t:Nat),(U++[(⟨y,hy⟩:ChP)]).map Subtype.val=p++[t]/\(∀y∈p,ac5 ws ((y:Int),c)=none)/\ac5 ws ((t:Int),c)=some v):=⟨_,y,by simp,a2.out,HO.out⟩;dsimp only
   gi_wp2
   refine abC (av3 _ _ _) mixed (by kernel_rfl) (by kernel_rfl) ?_
   repeat (go_big_quiet_step (fail))
   refine wpQuiet_nil ?_;rintro _ ⟨⟨dq,H⟩,rfl⟩;have Z:=below_regrown W dq H;have a1:Boxed (grow (redrawn W dq) H) (w.heap.size+1+1) 3 (.int .i64 0):=(Z.block _ I.lt).trans I;have d1:=a1.cell;have d2:=a1.frozen;have d3:=a1.lt;have ao:=X.trans (Z.mono X.size);have kO:=(ab3 (B:=N.heap.size) Z).trans ((ayI (grow (redrawn W dq) H) ⟨w.heap.size+1+1,0,none⟩ (.int .i64 v)).from N.heap.size);have ap:=a1.set (.int .i64 v)
   gi_wp2
   exact⟨kO,v,ap,ao.setCell (by show w.heap.size<=w.heap.size+1+1;omega) _,rfl,HF.out⟩
 case hdone=>
  rintro D zs W hD hS ⟨hG,hC,I,X,hs,Y⟩ a7;rw [hS] at Y;have HZ:=ax3 (apz a6 hz (axe _) hx Y);have q1:=I.cell;have q2:=I.frozen;go_wp2;have ar:Boxed ((W.setCell ⟨w.heap.size+1+1,0,none⟩ (.int .i64 0)).putObj D (.deferred none)) (w.heap.size+1+1) 3 (.int .i64 0):=(ayn (by omega)).trans (I.set _);have am:(W.setCell ⟨w.heap.size+1+1,0,none⟩ (.int .i64 0)).heap[D]?=some (.deferred (some [])):=(axn _ _ _ _ (by simp;omega)).trans a7;refine ar0 rfl am (aeI rfl rfl ar) ⟨by rw [<-HZ.out],aaS (X.setCell (by simp;omega) _) (by omega) (axe _) _⟩
 case hstop=>
  rintro D c' U W hD ⟨r,hS⟩ ⟨k,I,X,rfl,p,y,aj,Y,hk⟩ a7;rw [aj] at hS;have HZ:=ax3 (apY a6 hz (axe _) hx hS Y hk);go_wp2;have bT:Boxed (W.putObj D (.deferred none)) (w.heap.size+1+1) 3 (.int .i64 k):=(ayn (by omega)).trans I;refine ar0 rfl a7 (aeI rfl rfl bT) ⟨by rw [<-HZ.out],aaS X (by omega) (axe _) _⟩
end
abbrev auq (t:TV)(Z q n:Nat):Array Value:=#[.slice t.ua t.un t.uc,.slice t.da t.dn t.dc,.slice t.xa t.xn t.xc,.slice t.ba t.bn t.bc,.map (some Z),.slice (some ⟨q,0,none⟩) n n]
structure awF (W:World)(base g:Nat)(t:TV)(ws:List (List Int))(L:List Int)(E:Int×Int->Option Int):Prop where
 ex:∃mb q nm:Nat,W.heap[g]?=some (.cells (auq t mb q (aa0 ws).length) 277 (0,0))/\FM W mb nm E/\aaa q L W/\L.length=(aa0 ws).length/\base<=g/\base<=mb/\base<=q/\g≠mb/\g≠q/\mb≠q/\nm<=1000000
def ahc (ws:List (List Int))(n j:Nat):List Int:=(aaA ws).take j++List.replicate (n-j) 0
theorem abQ (ws:List (List Int)):(aaA ws).length=(aa0 ws).length:=by simp [aaA]
theorem atc {ws:List (List Int)}{n j:Nat}(Z:(aa0 ws).length=n)(Y:j<=n):(ahc ws n j).length=n:=by
 unfold ahc;rw [List.length_append,ay6,axC,abQ];omega
theorem apB {ws:List (List Int)}{n j i:Nat}(Z:i<j)(X:j<=n)(Y:(aa0 ws).length=n):(ahc ws n j)[i]?=(aaA ws)[i]?:=by
 unfold ahc;rw [ax8 (by rw [ay6,abQ];omega),awS,if_pos Z]
theorem auV {ws:List (List Int)}{n j:Nat}(X:j<=n)(Y:(aa0 ws).length=n):aeT ws (ahc ws n j) j:=fun i x V Z=>by
 rw [apB V X Y];exact acd Z
theorem anR {ws:List (List Int)}{n:Nat}(X:(aa0 ws).length=n)(h1:1<=n):ahc ws n 1=List.replicate n 0:=by
 obtain⟨m,rfl⟩:∃m,n=m+1:=⟨n-1,by omega⟩;have h0:=acd (aaf ws);have Z:agU ws []=0:=aae (aac ws).nodup (aaf ws);rw [Z] at h0;have Y:=aa7 h0;unfold ahc;rw [Y,ayf];simp
theorem an2 {ws:List (List Int)}{n j:Nat}{v:Int}(V:(aa0 ws).length=n)(U:j<n)(Z:(aaA ws)[j]?=some v):(ahc ws n j).set j v=ahc ws n (j+1):=by
 unfold ahc;obtain⟨m,Y⟩:∃m,n-j=m+1:=⟨n-j-1,by omega⟩;have X:((aaA ws).take j).length=j:=by rw [ay6,abQ];omega
 rw [ayg _ _ (by omega),X,ayh,Y,ayf,List.set_cons_zero,aa7 Z,show n-(j+1)=m by omega,ayi]
 rfl
theorem aqU {ws:List (List Int)}{n j:Nat}(Y:(aa0 ws).length=n)(U:j<n)(Z:(aaA ws)[j]?=some 0):ahc ws n j=ahc ws n (j+1):=by
 rw [<-an2 Y U Z];unfold ahc;obtain⟨m,X⟩:∃m,n-j=m+1:=⟨n-j-1,by omega⟩;have V:((aaA ws).take j).length=j:=by rw [ay6,abQ];omega
 rw [ayg _ _ (by omega),V,ayh,X,ayf,List.set_cons_zero]
theorem FM.mono {W:World}{b n m:Nat}{f:Int×Int->Option Int}(h:FM W b n f)(Z:n<=m):FM W b m f:=by
 obtain⟨D,h1,h2⟩:=h;exact⟨D,h1.mono Z,h2⟩
theorem aaa.set {g j:Nat}{l:List Int}{W:World}(h:aaa g l W)(v:Int):aaa g (l.set j v) (W.setCell ⟨g,j,none⟩ (.int .i64 v)):=by
 have:=aa4 (i:=j) h (.int .i64 v);unfold aaa
 simpa [axc] using this
theorem aqu (t:TV)(T:aaN)(sp ws:List (List Int))(w:World)(hT:Tri w t T)(hb:t.un<=140737488351232)(hr:abI T=some (sp,ws)) :
  Calls ZP 176 #[.agg t.cells] w fun e w'=>∃g,e=.returned (.tuple #[.pointer (some ⟨g,0,none⟩),.bool true])/\awF w' w.heap.size g t ws (aaA ws) (ac5 ws)/\Below w.heap.size w w':=by
 obtain⟨r1,rfl,rfl⟩:=ab6.1 hr;obtain⟨ua,un,uc,da,dn,dc,xa,xn,xc,ba,bn,bc⟩:=t;dsimp only at hb;have hn:un=(aa0 ws).length:=by have:=hT.up.1;simp [aa5] at this;exact this.symm
 have H:bn=(aa0 ws).length:=by have:=hT.byt.1.1;simp [aa5] at this;exact this.symm
 have ah:(aa0 ws).length<=400:=(ahs hr).1;have aA:1<=(aa0 ws).length:=by
  have:=adD ws;have:(aa0 ws).length≠0:=fun e=>this (ayk e);omega
 obtain⟨n,ag⟩:∃n,(aa0 ws).length=n:=⟨_,rfl⟩;rw [ag] at hn H ah aA
 replace hn:=hn.symm
 subst hn
 replace H:=H.symm
 subst H;have Y:=ax3 ag;obtain⟨W,hW⟩:∃W,W=w.alloc (.cells #[.slice ua n uc,.slice da dn dc,.slice xa xn xc,.slice ba n bc] 150):=⟨_,rfl⟩;have hB:Below w.heap.size w W:=by rw [hW];exact aa1 _ _
 have hO:Bx w.heap.size [.cells #[.slice ua n uc,.slice da dn dc,.slice xa xn xc,.slice ba n bc] 150] W:=by rw [hW];exact (Bx.nil _ w).snoc _ rfl
 have c0:W.cell? ⟨w.heap.size,0,none⟩=some (.slice ua n uc):=hO.cell (i:=0) rfl rfl;have c1:W.cell? ⟨w.heap.size,1,none⟩=some (.slice da dn dc):=hO.cell (i:=0) rfl rfl;have c2:W.cell? ⟨w.heap.size,2,none⟩=some (.slice xa xn xc):=hO.cell (i:=0) rfl rfl;have c3:W.cell? ⟨w.heap.size,3,none⟩=some (.slice ba n bc):=hO.cell (i:=0) rfl rfl;have HR:Hid (ahi (aa5 ws)=true):=by unfold Hid ahi;rw [hr];rfl
 have HC:=ax3 (aoc _ (aa5 ws) W (hT.below hB) hb);have HT:=ax3 hT;have aR:=@run_makeMap ZP;have aS:∀V:World,(Instr.makeSlice 30 (.int .i64 n) (.int .i64 n)).run ZP V=.ok (.slice (some ⟨V.heap.size,0,none⟩) n n) (V.alloc (.cells (abW n) 3)):=fun V=>by
  obtain⟨i0,hi,aO,ao,aN⟩:=info_parts ac8;have h:=run_makeSlice (P:=ZP) (w:=V) 30 3 i0 (.int .i64 0) underlying30 hi aO .i64 .i64 (n:Int) (n:Int) (by omega) (by omega) (by rw [ao];omega) (by rw [aN];omega) (by omega);rw [ao] at h;have e1:(n:Int).toNat*1=n:=by omega
  rw [e1,aeP,axs] at h;exact h
 clear hT hr r1 ag;go_enter func176,ntmps176;go_upto_region 1 with fail
 rw [<-hW];clear hW
 go_wp2_with fail
 refine HC.out.mono ?_;rintro e X ⟨rfl,aK⟩;rw [HR.out];have aa:Below w.heap.size w X:=hB.trans (aK.mono hB.size);have A:=hO.below aK;have k0:X.heap[w.heap.size]?=some (.cells #[.slice ua n uc,.slice da dn dc,.slice xa xn xc,.slice ba n bc] 150 (0,0)):=A 0 _ rfl;clear c0 c1 c2 c3;have c0:X.cell? ⟨w.heap.size,0,none⟩=some (.slice ua n uc):=A.cell (i:=0) rfl rfl;have c1:X.cell? ⟨w.heap.size,1,none⟩=some (.slice da dn dc):=A.cell (i:=0) rfl rfl;have c2:X.cell? ⟨w.heap.size,2,none⟩=some (.slice xa xn xc):=A.cell (i:=0) rfl rfl;have c3:X.cell? ⟨w.heap.size,3,none⟩=some (.slice ba n bc):=A.cell (i:=0) rfl rfl;have aD:w.heap.size<X.heap.size:=(awU.1 k0).1;have aC:w.heap.size<X.heap.size+1:=by omega
 have az:w.heap.size≠X.heap.size:=by omega
 have ay:w.heap.size≠X.heap.size+1:=by omega
 go_upto_region 3 with fail
 go_cut [4] (fun s4 wx=>∃g N q:Nat,s4=.pointer (some ⟨g,0,none⟩)/\wx.heap[g]?=some (.cells #[.slice ua n uc,.slice da dn dc,.slice xa xn xc,.slice ba n bc,.map (some N),.slice (some ⟨q,0,none⟩) n n] 277 (0,0))/\FM wx N 0 (fun _=>none)/\aaa q (List.replicate n 0) wx/\g≠N/\g≠q/\N≠q/\w.heap.size<N/\w.heap.size<g/\w.heap.size<q/\Below X.heap.size X wx)
 case first=>
  go_wp2
  go_region
  ·
   go_wp2_with fail
   go_meet
   refine⟨_,X.heap.size,X.heap.size+1,rfl,ad5 (by simp) _,?_,?_,by omega,by omega,by omega,by omega,by omega,by omega,?_⟩
   · exact (((FM.start X).alloc _).alloc _).below ⟨rfl,rfl,rfl,axe _,fun _ _=>rfl⟩
   · have h:=aaa.new (X.alloc (.map #[] 0)) n;rw [ax7] at h;exact (axi _ _ _ (by simp)).trans h
   · exact (((aa1 X _).alloc (by simp) _).alloc (by simp;omega) _).trans ⟨rfl,rfl,rfl,axe _,fun _ _=>rfl⟩
  ·
   go_wp2_with fail
   go_meet
   refine⟨_,X.heap.size+1,X.heap.size,rfl,ad5 (by simp) _,?_,?_,by omega,by omega,by omega,by omega,by omega,by omega,?_⟩
   · have h:=FM.start (X.alloc (.cells (abW n) 3));rw [ax7] at h;exact (h.alloc _).below ⟨rfl,rfl,rfl,axe _,fun _ _=>rfl⟩
   · exact (axi _ _ _ (by simp;omega)).trans ((axi _ _ _ (by simp)).trans (aaa.new X n))
   · exact (((aa1 X _).alloc (by simp) _).alloc (by simp;omega) _).trans ⟨rfl,rfl,rfl,axe _,fun _ _=>rfl⟩
 case rest=>
  obtain⟨g,N,q,rfl,ak,aj,af,aJ,aI,ai,b6,b7,b5,am⟩:=hcut;clear aR aS c0 c1 c2 c3 aC az ay;have bg:=ax3 aa;have ad:=aa.trans (am.mono aa.size);have b2:=ax3 k0;clear aa;have J:wc.heap[w.heap.size]?=some (.cells #[.slice ua n uc,.slice da dn dc,.slice xa xn xc,.slice ba n bc] 150 (0,0)):=(am.block _ aD).trans k0;clear am b2 k0;have bf:g<wc.heap.size:=(awU.1 ak).1;have b8:q<wc.heap.size:=(awU.1 (show wc.heap[q]?=_ from af)).1;have b4:N<wc.heap.size:=aj.lt;go_upto_region 4 with fail
  go_wp2
  go_loopw [5] (fun s5 wr=>∃j:Nat,1<=j/\j<=n/\s5=.int .i64 j/\FM wr N j (acO (aa5 ws).up (aa5 ws).byt (j-1))/\wr.heap[g]?=some (.cells #[.slice ua n uc,.slice da dn dc,.slice xa xn xc,.slice ba n bc,.map (some N),.slice (some ⟨q,0,none⟩) n n] 277 (0,0))/\aaa q (List.replicate n 0) wr/\wr.heap[w.heap.size]?=some (.cells #[.slice ua n uc,.slice da dn dc,.slice xa xn xc,.slice ba n bc] 150 (0,0))/\Below w.heap.size w wr) (fun s5 _=>n-(intOf s5).toNat)
  case atStart=>exact⟨1,axe _,aA,rfl,(show FM wc N 1 (fun _=>none) from aj.mono (by omega)),ak,af,J,ad⟩
  case round=>
   clear aj ak af J ad;obtain⟨j,aH,aU,rfl,hm,D,C,J,Z⟩:=hrel;have k0:wr.cell? ⟨w.heap.size,0,none⟩=some (.slice ua n uc):=by simp [World.cell?,J]
   have k3:wr.cell? ⟨w.heap.size,3,none⟩=some (.slice ba n bc):=by simp [World.cell?,J]
   have g4:wr.cell? ⟨g,4,none⟩=some (.map (some N)):=by simp [World.cell?,D]
   by_cases aG:j<n
   ·
    have hd:decide ((j:Int)<n)=true:=by simp;omega
    obtain⟨y,x⟩:∃y,(aa0 ws)[j]?=some y:=⟨(aa0 ws)[j]'(by have:=Y.out;omega),by simp⟩;obtain⟨b0,o0,u,e0,aF,cu,hu⟩:=abm (HT.out.below Z).up aG;obtain⟨b3,o3,c,e3,aE,cb,hc⟩:=abm (HT.out.below Z).byt.1 aG;dsimp only at e0 e3;subst e0 e3;have al:=HT.out.byt.2 c (ay9 hc);obtain⟨t1,t2,_⟩:=ada x;obtain⟨k,hk⟩:=ayB (ak5 (ay9 x));have I:=aae (aac ws).nodup hk;have bd:k<n:=by have:=(awR.1 hk).1;have:=Y.out;omega
    rw [t1,I] at hu;obtain rfl:(k:Int)=u:=awV hu;have HE:Hid ((fun p=>if p=((k:Int),c) then some (j:Int) else acO (aa5 ws).up (aa5 ws).byt (j-1) p)=acO (aa5 ws).up (aa5 ws).byt (j+1-1)):=by
     obtain⟨i,rfl⟩:∃i,j=i+1:=⟨j-1,by omega⟩
     funext p
     show _=acO _ _ (i+1) p
     conv=>rhs;unfold acO
     rw [t1,I,hc];simp
    have i1:(0:Int)<=(j:Int):=by omega
    have i2:(j:Int)<(n:Int):=by omega
    clear t1 t2 hk I x hu hc;go_upto_region 7 with fail
    refine aak 16 mixed (by kernel_rfl) ?_;dsimp only [List.take_succ_cons,List.take_zero,List.drop_succ_cons,List.drop_zero]
    repeat (go_big_quiet_step (fail))
    refine wpQuiet_nil ?_;rintro _ ⟨nq,rfl⟩;have H:=aa2 wr nq;refine ajH rfl _ _ _ rfl rfl (hm.below H) (by unfold maxLen;omega) (k:Int) c j (by simp [Lit.wf,IntKind.min,IntKind.max,IntKind.signed,IntKind.bits];omega) (by omega) al rfl rfl ?_;intro w5 aB a7;rw [HE.out] at aB;have gg:w5.heap[g]?=_:=(a7.block g (awU.1 D).1 (by intro e;injection e with e;exact aJ e)).trans D;have gq:aaa q (List.replicate n 0) w5:=(a7.block q (awU.1 (show wr.heap[q]?=_ from C)).1 (by intro e;injection e with e;exact ai e.symm)).trans C;have gw:w5.heap[w.heap.size]?=_:=(a7.block _ (awU.1 J).1 (by intro e;injection e with e;omega)).trans J;have aW:Below w.heap.size w w5:=(Z.trans (H.mono Z.size)).grown a7 Z.size (fun k e=>by cases e;omega);go_wp2
    go_roundw
    case rel=>exact⟨j+1,by omega,by omega,by go_num,aB,gg,gq,gw,aW⟩
    case measure=>simp [intOf];omega
   ·
    obtain rfl:j=n:=by omega
    have hd:decide ((j:Int)<j)=false:=by simp
    have ar:aaa q (ahc ws j 1) wr:=by rw [anR Y.out aH];exact C
    have HE:Hid (acO (aa5 ws).up (aa5 ws).byt (j-1)=ac5 ws):=by unfold Hid ac5;rw [Y.out]
    rw [HE.out] at hm;clear C aU hd k3 g4;go_upto_region 8 with fail
    clear k0;go_wp2
    go_loopw [6] (fun s6 wr=>∃i:Nat,1<=i/\i<=j/\s6=.int .i64 i/\FM wr N j (ac5 ws)/\wr.heap[g]?=some (.cells #[.slice ua j uc,.slice da dn dc,.slice xa xn xc,.slice ba j bc,.map (some N),.slice (some ⟨q,0,none⟩) j j] 277 (0,0))/\aaa q (ahc ws j i) wr/\wr.heap[w.heap.size]?=some (.cells #[.slice ua j uc,.slice da dn dc,.slice xa xn xc,.slice ba j bc] 150 (0,0))/\Below w.heap.size w wr) (fun s6 _=>j-(intOf s6).toNat)
    case atStart=>exact⟨1,axe _,aH,rfl,hm,D,ar,J,Z⟩
    case round=>
     clear hm D ar J Z;obtain⟨i,be,a6,rfl,hm,D,C,J,Z⟩:=hrel;have k0:wr.cell? ⟨w.heap.size,0,none⟩=some (.slice ua j uc):=by simp [World.cell?,J]
     by_cases a2:i<j
     ·
      have hd:decide ((i:Int)<j)=true:=by simp;omega
      obtain⟨y,x⟩:∃y,(aa0 ws)[i]?=some y:=⟨(aa0 ws)[i]'(by have:=Y.out;omega),by simp⟩;obtain⟨b0,o0,u,e0,aF,cu,hu⟩:=abm HT.out.up a2;obtain⟨b3,o3,c,e3,aE,cb,hc⟩:=abm HT.out.byt.1 a2;dsimp only at e0 e3;subst e0 e3;have al:=HT.out.byt.2 c (ay9 hc);obtain⟨t1,t2,_⟩:=ada x;obtain⟨k,hk⟩:=ayB (ak5 (ay9 x));have I:=aae (aac ws).nodup hk;rw [t1,I] at hu;obtain rfl:(k:Int)=u:=awV hu;obtain⟨v,o,aQ,aq,aP,ae,ap⟩:=atn x (by omega) (show (aa5 ws).up[i]?=some (k:Int) by rw [t1,I]);rw [t2] at hc aq;obtain rfl:acH y=c:=awV hc;have HP:=ax3 (acd x);have i1:(0:Int)<=(i:Int):=by omega
      have i2:(i:Int)<(j:Int):=by omega
      have c1:wr.cell? ⟨b0,o0+i,none⟩=some (.int .i64 (k:Int)):=(Z.cell (p:=⟨b0,o0+i,none⟩) aF).trans cu;clear t1 t2 I hu hk hc aq aP
      by_cases hz:k=0
      ·
       subst hz;have HS:Hid (ahc ws j i=ahc ws j (i+1)):=aqU Y.out a2 (by rw [HP.out,ae rfl]);clear ae ap o x;rw [HS.out] at C;go_wp2
       go_roundw
       case rel=>exact⟨i+1,by omega,by omega,by go_num,hm,D,C,J,Z⟩
       case measure=>simp [intOf];omega
      ·
       obtain⟨p,s,ax,aw,av⟩:=ap hz;obtain⟨p2,e1,e2,e3⟩:=(aqC ws (k+1)).at_ (Nat.lt_succ_self k) o hz;have a1:=acd o;rw [ax] at a1;have b9:p<k:=by rw [a1] at e1;have:=awV e1;omega
       have ac:(ahc ws j i)[k]?=some (p:Int):=by rw [apB aQ a6 Y.out];exact a1
       obtain⟨V,hV⟩:∃V,agU ws y=V:=⟨_,rfl⟩;have b1:Hid ((aaA ws)[i]?=some V):=by rw [Hid,<-hV];exact HP.out
       have aT:=atc (ws:=ws) (j:=i) Y.out a6;have B:g<wr.heap.size:=(awU.1 D).1;have au:q<wr.heap.size:=(awU.1 (show wr.heap[q]?=_ from C)).1;have ab:w.heap.size<wr.heap.size:=(awU.1 J).1;have row:∀d os,aaa q (ahc ws j i) (grow (redrawn wr d) os):=fun d os=>((below_regrown wr d os).block q au).trans C;have aL:∀d os,Calls ZP 216 #[.pointer (some ⟨g,0,none⟩),.int .i64 (p:Int),.int .u8 (acH y)] (grow (redrawn wr d) os) fun e w'=>e=.returned (.int .i64 V)/\Below (grow (redrawn wr d) os).heap.size (grow (redrawn wr d) os) w':=fun d os=>by
        have hb:=below_regrown wr d os;have:=apv g N q j j i p ws (ahc ws j i) _ s (acH y) (grow (redrawn wr d) os) ((hb.block g B).trans D) rfl rfl (hm.below hb) (row d os) aT Y.out (by omega) (auV a6 Y.out) a6 (by omega) aw al
        rwa [<-av,hV] at this
       have aZ:=ax3 aL;have g5:∀d os,(grow (redrawn wr d) os).cell? ⟨g,5,none⟩=some (.slice (some ⟨q,0,none⟩) j j):=fun d os=>by
        have:(grow (redrawn wr d) os).heap[g]?=_:=((below_regrown wr d os).block g B).trans D;simp [World.cell?,this]
       have k3:∀d os,(grow (redrawn wr d) os).cell? ⟨w.heap.size,3,none⟩=some (.slice (some ⟨b3,o3,none⟩) j bc):=fun d os=>by
        have:(grow (redrawn wr d) os).heap[w.heap.size]?=_:=((below_regrown wr d os).block _ ab).trans J;simp [World.cell?,this]
       have rq:∀d os,(grow (redrawn wr d) os).cell? ⟨q,k,none⟩=some (.int .i64 (p:Int)):=fun d os=>by
        rw [cell_of_row _ q k _ _ _ (row d os)];simp [ac]
       have aX:∀d os,(grow (redrawn wr d) os).cell? ⟨b3,o3+i,none⟩=some (.int .u8 (acH y)):=fun d os=>by
        have h1:=Z.cell (p:=⟨b3,o3+i,none⟩) aE;exact ((below_regrown wr d os).cell (p:=⟨b3,o3+i,none⟩) (by show b3<wr.heap.size;have:=Z.size;omega)).trans (h1.trans cb)
       have aY:=ax3 row;have bb:((k:Int) != 0)=true:=by simp;omega
       have i3:(0:Int)<=(k:Int):=by omega
       have i4:(k:Int)<(j:Int):=by omega
       clear aL ax aw av hV ac e1 e2 e3 a1 row o ae x;go_upto_region 13 with fail
       refine afk 20 mixed (by kernel_rfl) ?_;dsimp only [List.take_succ_cons,List.take_zero,List.drop_succ_cons,List.drop_zero]
       repeat (go_big_quiet_step (exact aax (aZ.out _ _)))
       refine wpQuiet_nil ?_;rintro _ ⟨⟨dq,U⟩,rfl⟩;have a8:=below_regrown wr dq U;have hI:=aY.out dq U;have fq:(grow (redrawn wr dq) U).frozen? ⟨q,i,none⟩=false:=by simp [World.frozen?,show (grow (redrawn wr dq) U).heap[q]?=_ from hI]
       have cq:∃z:Int,(grow (redrawn wr dq) U).cell? ⟨q,i,none⟩=some (.int .i64 z):=by
        refine⟨(ahc ws j i)[i]'(by omega),?_⟩;rw [cell_of_row _ q i _ _ _ hI];simp
       obtain⟨z,cq⟩:=cq;have aM:=hI.set (j:=i) V;rw [an2 Y.out a2 b1.out] at aM;have gg:((grow (redrawn wr dq) U).setCell ⟨q,i,none⟩ (.int .i64 V)).heap[g]?=_:=(axn _ _ _ _ (by show g≠q;exact aI)).trans ((a8.block g B).trans D);have gw:((grow (redrawn wr dq) U).setCell ⟨q,i,none⟩ (.int .i64 V)).heap[w.heap.size]?=_:=(axn _ _ _ _ (by show w.heap.size≠q;omega)).trans ((a8.block _ ab).trans J);have gm:FM ((grow (redrawn wr dq) U).setCell ⟨q,i,none⟩ (.int .i64 V)) N j (ac5 ws):=(hm.below a8).set (Ne.symm ai) _;have aV:Below w.heap.size w ((grow (redrawn wr dq) U).setCell ⟨q,i,none⟩ (.int .i64 V)):=(Z.trans (a8.mono Z.size)).setCell (by show w.heap.size<=q;omega) _;clear g5 k3 rq aX;go_wp2
       go_roundw
       case rel=>exact⟨i+1,by omega,by omega,by go_num,gm,gg,aM,gw,aV⟩
       case measure=>simp [intOf];omega
     ·
      obtain rfl:i=j:=by omega
      have hd:decide ((i:Int)<i)=false:=by simp
      have HF:Hid (ahc ws i i=aaA ws):=by
       unfold Hid ahc;rw [ayh,List.replicate_zero,ayj,axo (by rw [abQ,Y.out];exact axe _)]
      rw [HF.out] at C;go_wp2;go_ret2;exact⟨g,rfl,⟨⟨N,q,i,by rw [Y.out];exact D,hm,C,by rw [abQ],by omega,by omega,by omega,aJ,aI,ai,by omega⟩⟩,Z⟩
section
attribute [local go_sem] Oper.semAt_some
attribute [local simp] aab aa6
attribute [local go_sem] aab aa6
theorem aiv (t:TV)(T:aaN)(V ws:List (List Int))(w:World)(N:Tri w t T)(I:t.un<=140737488351232)(U:abI T=some (V,ws)) :
  Calls ZP 127 #[.agg t.cells] w fun e w'=>∃q,e=.returned (.tuple #[.slice (some ⟨q,0,none⟩) (aa0 ws).length (aa0 ws).length,.int .i64 0])/\aaa q (aaA ws) w'/\w.heap.size<=q/\Below w.heap.size w w':=by
 obtain⟨ua,un,uc,da,dn,dc,xa,xn,xc,ba,bn,bc⟩:=t;have X:=aa1 w (.cells #[.slice ua un uc,.slice da dn dc,.slice xa xn xc,.slice ba bn bc] 150);have H:=ax3 (aqu _ T V ws _ (N.below X) I U);clear N U;go_enter func127,ntmps127
 go_wp2_with fail
 refine H.out.mono ?_;rintro e J ⟨g,rfl,Y,Z⟩;obtain⟨C,q,D,h1,h2,h3,h4,h5,h6,h7,_⟩:=Y.ex;have c5:J.cell? ⟨g,5,none⟩=some (.slice (some ⟨q,0,none⟩) (aa0 ws).length (aa0 ws).length):=by simp [World.cell?,h1]
 simp only [ax7] at h7;clear h1 h2 h4;go_wp2;go_ret2;exact⟨q,rfl,h3,by omega,X.trans (Z.mono X.size)⟩
end
theorem afO {T:aaN}{Y ws:List (List Int)}(Z:abI T=some (Y,ws)):(aa0 ws).length<=400:=by
 obtain⟨_,_,h⟩:=ab6.1 Z;rw [<-h];exact (ahs Z).1
theorem aaa.sl1 {g:Nat}{l:List Int}{W:World}(h:aaa g l W):Sl1 (Value.int .i64) W (some ⟨g,0,none⟩) l.length l:=
 ⟨rfl,.inr ⟨g,0,rfl,(awU.1 (show W.heap[g]?=_ from h)).1,fun i x Z=>by
  rw [cell_of_row W g (0+i) _ _ _ h];simp [Z]⟩⟩
theorem arp {wss:List (List Int)}(h:aca wss=false)(fold:Bool):wss.length<=80/\(∀x∈wss,x.length<=3000)/\(abo fold wss).length<=3000:=by
 unfold aca at h;have h:=of_decide_eq_false h;have h1:wss.length<=80:=by omega
 have h2:agV wss<=3000:=by omega
 have Z:∀(l:List (List Int)),agV l<=3000->(∀x∈l,x.length<=3000)/\((abo fold l).length:Int)=agV l:=by
  intro l
  induction l with
  | nil=>intro _;exact⟨by simp,by simp [abo,agV]⟩
  | cons x l ih=>
   intro U;have e:agV (x :: l)=min (x.length:Int) 4000+agV l:=by simp [agV]
   have H:=aeu l;rw [e] at U ⊢;obtain⟨V,I⟩:=ih (by omega);refine⟨fun y Y=>?_,?_⟩
   ·
    rcases axG.1 Y with rfl | Y
    · omega
    · exact V y Y
   ·
    have N:abo fold (x :: l)=aiX (aai fold x)++abo fold l:=by simp [abo]
    rw [N,List.length_append,abM,aas];omega
 obtain⟨X,J⟩:=Z wss h2;exact⟨h1,X,by omega⟩
def ajE (L:List Int)(m:Int)(row:Value)(t:TV)(lk:Value):List Value:=(L.map (Value.int .i64)++[.int .i64 m])++[row,.slice t.ua t.un t.uc,.slice t.da t.dn t.dc,.slice t.xa t.xn t.xc,.slice t.ba t.bn t.bc,lk]
structure Mk (W:World)(M:Nat)(L:List Int)(m:Int)(row:Value)(t:TV)(lk:Value):Prop where
 box:W.heap[M]?=some (.cells (ajE L m row t lk).toArray 227 (0,0))
 len:L.length=256
theorem Mk.lt {W:World}{M:Nat}{L:List Int}{m:Int}{row lk:Value}{t:TV}(h:Mk W M L m row t lk):M<W.heap.size:=(awU.1 h.box).1
theorem Mk.below {W V:World}{M:Nat}{L:List Int}{m:Int}{row lk:Value}{t:TV}(h:Mk W M L m row t lk)(Z:Below W.heap.size W V):Mk V M L m row t lk:=⟨(Z.block M h.lt).trans h.box,h.len⟩
theorem Mk.cls {W:World}{M:Nat}{L:List Int}{m:Int}{row lk:Value}{t:TV}(h:Mk W M L m row t lk){c:Nat}{v:Int}(Z:L[c]?=some v):W.cell? ⟨M,c,none⟩=some (.int .i64 v):=by
 have Y:c<256:=by have:=(awR.1 Z).1;have:=h.len;omega
 have e:(ajE L m row t lk)[c]?=some (.int .i64 v):=by
  unfold ajE;rw [ax8 (by simp [h.len];omega),ax8 (by simp [h.len];omega),axa,Z]
  rfl
 simp only [World.cell?,h.box];simp [e]
theorem Mk.off {W:World}{M:Nat}{L:List Int}{m:Int}{row lk:Value}{t:TV}(h:Mk W M L m row t lk){i:Nat}{v:Value}(Z:[Value.int .i64 m,row,.slice t.ua t.un t.uc,.slice t.da t.dn t.dc,.slice t.xa t.xn t.xc,.slice t.ba t.bn t.bc,lk][i]?=some v):W.cell? ⟨M,256+i,none⟩=some v:=by
 have e:(ajE L m row t lk)[256+i]?=some v:=by
  unfold ajE;rw [ayi,az9 (by simp [h.len])]
  simpa [h.len] using Z
 simp only [World.cell?,h.box];simp [e]
theorem Mk.cells {W:World}{M:Nat}{L:List Int}{m:Int}{row lk:Value}{t:TV}(h:Mk W M L m row t lk):W.cell? ⟨M,256,none⟩=some (.int .i64 m)/\W.cell? ⟨M,257,none⟩=some row/\W.cell? ⟨M,258,none⟩=some (.slice t.ua t.un t.uc)/\W.cell? ⟨M,259,none⟩=some (.slice t.da t.dn t.dc)/\W.cell? ⟨M,260,none⟩=some (.slice t.xa t.xn t.xc)/\W.cell? ⟨M,261,none⟩=some (.slice t.ba t.bn t.bc)/\W.cell? ⟨M,262,none⟩=some lk:=
 ⟨h.off (i:=0) rfl,h.off (i:=1) rfl,h.off (i:=2) rfl,h.off (i:=3) rfl,h.off (i:=4) rfl,h.off (i:=5) rfl,h.off (i:=6) rfl⟩
theorem aiH {x:Nat}(h:x<=1000000000000):IntKind.i64.wrap (x:Int)=(x:Int):=by simp [IntKind.wrap,IntKind.bits,IntKind.signed];omega
theorem akf (M R n many node:Nat)(L:List Int)(t:TV)(lk:Value)(w:World)(h:Mk w M L (many:Int) (.slice (some ⟨R,0,none⟩) (many*n) (many*n)) t lk)(A:node<n)(y:many<=1000)(z:1<=many)(U:n<=1000000) :
  Calls ZP 178 #[.pointer (some ⟨M,0,none⟩),.int .i64 (node:Int)] w fun e w'=>e=.returned (.slice (some ⟨R,node*many,none⟩) many (many*n-node*many))/\Below w.heap.size w w':=by
 have X:(node+1)*many<=many*n:=by rw [Nat.mul_comm many n];exact azg _ A
 have s:many*n<=1000*1000000:=axA y U;have Y:(node+1)*many=node*many+many:=Nat.succ_mul _ _;have c1:(node:Int)*(many:Int)=((node*many:Nat):Int):=(axB _ _).symm;obtain⟨Q,C⟩:∃Q,many*n=Q:=⟨_,rfl⟩;obtain⟨P,B⟩:∃P,node*many=P:=⟨_,rfl⟩;rw [B] at Y c1 ⊢;rw [C] at h X s ⊢;have o:IntKind.i64.wrap (((node:Int)+1)*(many:Int))=((node:Int)+1)*(many:Int):=by
  have e:((node:Int)+1)*(many:Int)=((P+many:Nat):Int):=by rw [az1,Int.one_mul,c1];omega
  rw [e];exact aiH (by omega)
 have e1:IntKind.i64.wrap ((node:Int)*(many:Int))=(node:Int)*(many:Int):=by rw [c1];exact aiH (by omega)
 have j:IntKind.i64.wrap ((node:Int)+1)=(node:Int)+1:=aiH (x:=node+1) (by omega);have I:Hid (∀V,RowKit.Below w.heap.size w V->V.cell? ⟨M,256,none⟩=some (.int .i64 (many:Int))/\V.cell? ⟨M,257,none⟩=some (.slice (some ⟨R,0,none⟩) Q Q)):=fun V Z=>⟨((h.below Z).cells).1,((h.below Z).cells).2.1⟩;have HC:=ax3 c1;have c3:((node:Int)+1)*(many:Int)=((P+many:Nat):Int):=by rw [az1,Int.one_mul,c1];omega
 obtain⟨E,J⟩:∃E,P+many=E:=⟨_,rfl⟩;rw [J] at c3;have H:=ax3 c3;have HE:=ax3 J;have l1:E<=Q:=by omega
 have l3:P<=E:=by omega
 have l2:¬Q=P:=by omega
 clear Y c1 c3 B C h J;clear X;go_enter func178,ntmps178;go_upto_region 1 with fail
 refine wp_region_noPanic ?_;refine wp_region_held_drew (S:=RowKit.Below w.heap.size w) (by kernel_rfl) (aa2 w 1) (fun hHeld=>?_);refine tkA 0 ?_;refine tkA 1 ?_;refine tkA 2 ?_;refine tkA 3 ?_;refine tkW 4 (v:=?_) ?_ ?_;rotate_left
 ·
  intro V Z;have D:=(I.out V Z).2
  first | (go_simp;done) | (go_simp;with_reducible rfl)
 try simp only [Act.put,pA,pB,pC]
 refine tkA 5 ?_;refine tkA 6 ?_;refine tkA 7 ?_;refine tkA 8 ?_;refine tkA 9 ?_;refine tkW 10 (v:=?_) ?_ ?_;rotate_left
 ·
  intro V Z;have D:=(I.out V Z).1
  first | (go_simp;done) | (go_simp;with_reducible rfl)
 try simp only [Act.put,pA,pB,pC]
 refine tkA 11 ?_;refine tkA 12 ?_;refine tkA 13 ?_;refine tkA 14 ?_;refine tkA 15 ?_;refine tkA 16 ?_;refine tkA 17 ?_;refine tkW 18 (v:=?_) ?_ ?_;rotate_left
 ·
  intro V Z;have D:=(I.out V Z).1
  first | (go_simp;done) | (go_simp;with_reducible rfl)
 try simp only [Act.put,pA,pB,pC]
 refine tkA 19 ?_;rw [HC.out,H.out];clear e1 j o;refine tkA 20 ?_;refine tkA 21 ?_;refine wpAnyH_done (by kernel_rfl) ?_ _;refine ax4 ?_
 go_wp2_with fail
 have N:E-P=many:=by have:=HE.out;omega
 rw [N];go_ret;exact⟨rfl,aa2 w 1⟩
section
attribute [local go_sem] Oper.semAt_some
attribute [local simp] aab aa6
attribute [local go_sem] aab aa6
def ag0 (T:aaN)(node:Int):Nat->List (Int×Nat)
 | 0=>[]
 | k+1=>ag0 T node k++(if 1<=k/\T.up[k]?=some node then [((T.byt[k]?).getD 0,k)] else [])
theorem afF (T:aaN)(node:Int):∀k,(ag0 T node k).length<=k
 | 0=>by simp [ag0]
 | k+1=>by
  have:=afF T node k;unfold ag0;rw [List.length_append]
  split<;>simp<;>omega
theorem ags {T:aaN}{node:Int}{p:Int×Nat}:∀{k:Nat},p∈ag0 T node k↔1<=p.2/\p.2<k/\T.up[p.2]?=some node/\p.1=(T.byt[p.2]?).getD 0
 | 0=>by simp [ag0]
 | k+1=>by
  unfold ag0;rw [ayd,ags (k:=k)]
  constructor
  ·
   rintro (⟨h1,h2,h3⟩ | h)
   · exact⟨h1,by omega,h3⟩
   ·
    split at h
    ·
     rename_i Z
     rw [ayp] at h;subst h;exact⟨Z.1,by dsimp only;omega,Z.2,rfl⟩
    · cases h
  ·
   rintro ⟨h1,h2,h3,h4⟩
   by_cases e:p.2=k
   ·
    right
    subst e;rw [if_pos ⟨h1,h3⟩,ayp];exact Prod.ext h4 rfl
   · exact .inl ⟨h1,by omega,h3,h4⟩
def ae1 (L:List Int)(T:aaN)(node:Int)(k:Nat):List (Nat×Nat):=(ag0 T node k).map fun p=>(((L[p.1.toNat]?).getD 0).toNat,p.2)
abbrev KdQ (many:Nat):={ p:Nat×Nat // p.1<many }
def at9 {many:Nat}(p:KdQ many):Array Value:=#[.int .i64 (p.1.1:Int),.int .i64 (p.1.2:Int)]
theorem aiy (M:Nat)(node:Int)(w:World) :
  Calls ZP 179 #[.pointer (some ⟨M,0,none⟩),.int .i64 node] w fun e w'=>e=.returned (.func (.func 222) #[] #[.pointer (some ⟨w.heap.size,0,none⟩),.pointer (some ⟨w.heap.size+1,0,none⟩)])/\
   w'=(w.alloc (.cells #[.pointer (some ⟨M,0,none⟩)] 285)).alloc (.cells #[.int .i64 node] 3):=by
 go_enter func179,ntmps179;go_wp2;go_ret;exact⟨rfl,rfl⟩
theorem afG (t:TV)(T:aaN)(M R D p2 many:Nat)(node:Int)(m:Int)(row lk:Value)(L:List Int)(n:Nat)(w:World)(o:Tri w t T)(hn:T.byt.length=T.up.length)(a8:T.up.length<=400)
  (z:Mk w M L m row t lk) (hL:∀(c:Nat) (v:Int),L[c]?=some v->0<=v/\v<(many:Int))
  (h1:w.heap[D]?=some (.cells #[.pointer (some ⟨M,0,none⟩)] 285 (0,0))) (h2:w.heap[p2]?=some (.cells #[.int .i64 node] 3 (0,0)))
  (hR:M≠R/\D≠R/\p2≠R/\(∀a,t.ua=some a->a.block≠R)/\(∀a,t.ba=some a->a.block≠R)) :
  SeqStopsK Fence.wide n ZP 222 #[.pointer (some ⟨D,0,none⟩),.pointer (some ⟨p2,0,none⟩)] (at9 (many:=many)) (ab0 (fun k=>k<w.heap.size/\k≠R)) (fun zs=>zs.map Subtype.val=ae1 L T node T.up.length) (fun _=>True) 1000001 w:=by
 intro l J Jx W hW hJ am hY h0;have A:ab0 (fun k=>k<w.heap.size/\k≠R) w W:=aaQ hW (fun k hk=>hk.1);obtain⟨ua,un,uc,da,dn,dc,xa,xn,xc,ba,bn,bc⟩:=t;dsimp only at hR;obtain⟨r0,r1,r2,r3,r4⟩:=hR;have a7:D<w.heap.size:=(awU.1 h1).1;have a6:p2<w.heap.size:=(awU.1 h2).1;have ac:M<w.heap.size:=z.lt;have cells:∀v:World,ab0 (fun k=>k<w.heap.size/\k≠R) w v->v.cell? ⟨D,0,none⟩=some (.pointer (some ⟨M,0,none⟩))/\v.cell? ⟨p2,0,none⟩=some (.int .i64 node)/\v.cell? ⟨M,258,none⟩=some (.slice ua un uc)/\v.cell? ⟨M,261,none⟩=some (.slice ba bn bc)/\(∀(c:Nat) (v':Int),L[c]?=some v'->v.cell? ⟨M,c,none⟩=some (.int .i64 v')):=by
  intro v Y;have e1:=(Y D ⟨a7,r1⟩).trans h1;have e2:=(Y p2 ⟨a6,r2⟩).trans h2;have y:Mk v M L m row ⟨ua,un,uc,da,dn,dc,xa,xn,xc,ba,bn,bc⟩ lk:=⟨(Y M ⟨ac,r0⟩).trans z.box,z.len⟩;refine⟨by simp [World.cell?,e1],by simp [World.cell?,e2],y.cells.2.2.1,y.cells.2.2.2.2.2.1,fun c v' h=>y.cls h⟩
 have kc:∀(v:World) (p:Addr),ab0 (fun k=>k<w.heap.size/\k≠R) w v->p.block<w.heap.size->p.block≠R->v.cell? p=w.cell? p:=fun v p Y hp hr=>axp (Y _ ⟨hp,hr⟩);have KC:=ax3 kc;have HL:=ax3 hL;have ag:=ax3 z.len;have HC:=ax3 cells;have HT:=ax3 o;have U:Hid (T.up.length=un):=o.up.1;have ae:bn=un:=by have h1:T.byt.length=bn:=o.byt.1.1;have:=U.out;omega
 have aj:un<=400:=by have:=U.out;omega
 subst ae;clear o hn a8 z h1 h2 cells hL kc;obtain⟨c1,c2,c3,c4,_⟩:=HC.out W A;refine callsIn_of_wp func222 rfl trivial ?_ rfl;simp only [ntmps222,axT,axU,axV,Nat.reduceAdd,Nat.reduceSub,axW,axX,axY,axZ,ay0,ay1]
 gi_wp2
 clear c1 c2 c3 c4
 gi_loopw [4] (fun i wr=>∃(k:Nat) (Z:List (KdQ many)),1<=k/\i=.int .i64 k/\Hid (Z.map Subtype.val=ae1 L T node k)/\Hid (k<=max bn 1)/\J Z wr/\ab0 (fun k=>k<w.heap.size/\k≠R) w wr) (fun i _=>bn-(intOf i).toNat)
 case atStart=>exact⟨1,[],axe _,rfl,(by simp [Hid,ae1,ag0]),Nat.le_max_right _ _,h0,A⟩
 case round=>
  obtain⟨k,Z,hk,rfl,j,HK,hj,V⟩:=hrel;obtain⟨c1,c2,c3,c4,c5⟩:=HC.out wr V
  by_cases C:k<bn
  ·
   have ad:decide ((k:Int)<bn)=true:=by simp;omega
   obtain⟨b0,o0,u,e0,ab,I,x⟩:=abm HT.out.up C;subst e0;obtain⟨b3,o3,c,y,aa,H,s⟩:=abm HT.out.byt.1 C;subst y;have cu:wr.cell? ⟨b0,o0+k,none⟩=some (.int .i64 u):=(KC.out wr ⟨b0,o0+k,none⟩ V ab (r3 ⟨b0,o0,none⟩ rfl)).trans I;have cb:wr.cell? ⟨b3,o3+k,none⟩=some (.int .u8 c):=(KC.out wr ⟨b3,o3+k,none⟩ V aa (r4 ⟨b3,o3,none⟩ rfl)).trans H;have al:=HT.out.byt.2 c (ay9 s);have a2:Z.length<=k:=by have h1:=congrArg List.length j.out;have:=afF T node k;unfold ae1 at h1;rw [ayq,ayq] at h1;omega
   have i1:(0:Int)<=(k:Int):=by omega
   have i2:(k:Int)<(bn:Int):=by omega
   obtain⟨c,rfl⟩:∃c':Nat,c=(c':Int):=⟨c.toNat,by omega⟩;obtain⟨v,Y⟩:∃v,L[c]?=some v:=⟨L[c]'(by rw [ag.out];omega),by simp⟩;obtain⟨ai,ah⟩:=HL.out c v Y;obtain⟨v,rfl⟩:∃v':Nat,v=(v':Int):=⟨v.toNat,by omega⟩;have cv:=c5 c _ Y;have i3:(0:Int)<=(c:Int):=by omega
   have i4:(c:Int)<256:=by omega
   by_cases X:u=node
   ·
    subst X;have HS:Hid ((Z++[(⟨(v,k),by dsimp only;omega⟩:KdQ many)]).map Subtype.val=ae1 L T u (k+1)):=by
     unfold Hid ae1 ag0;rw [if_pos ⟨hk,x⟩,ay7,ay7,j.out,s];unfold ae1;simp [Y]
    clear I H x s c5 Y
    gi_wp2
    refine aaJ (af1 _ _) 27 mixed (by kernel_rfl) (by kernel_rfl) ?_;dsimp only [List.take_succ_cons,List.take_zero,List.drop_succ_cons,List.drop_zero]
    repeat (go_big_quiet_step (fail))
    refine wpQuiet_nil ?_;rintro _ ⟨nq,rfl⟩;have N:Below wr.heap.size wr (wr.drewN nq):=⟨rfl,rfl,rfl,axe _,fun _ _=>rfl⟩;obtain⟨fn,tmps,assign,body,a1,af⟩:=hY Z ⟨(v,k),by dsimp only;omega⟩ (wr.drewN nq) (aaK hJ hj N) (by omega);dsimp only [at9] at a1
    gi_wp2
    refine af.mono ?_;rintro e W4 (⟨rfl,hJ4,hk4⟩ | ⟨rfl,hJx4⟩)
    ·
     gi_wp2
     go_roundw
     case rel=>exact⟨k+1,_,by omega,by go_num,HS,(by unfold Hid;omega),hJ4,abp V hk4⟩
     case measure=>simp [intOf];omega
    ·
     gi_wp2
     refine bodyPost_ret (results_none rfl _ _ _) rfl ?_;exact⟨⟨_,rfl⟩,.inr ⟨_,trivial,hJx4⟩⟩
   ·
    have hd:(u==node)=false:=by simpa using X
    have HS:Hid (Z.map Subtype.val=ae1 L T node (k+1)):=by
     unfold Hid ae1 ag0;rw [if_neg (fun h=>X (by have:=h.2;rw [x] at this;exact awV this)),j.out,ayj]
     rfl
    clear I H x s c5 Y
    gi_wp2
    refine abc (af1 _ _) mixed (by kernel_rfl) (by kernel_rfl) ?_
    repeat (go_big_quiet_step (fail))
    refine wpQuiet_nil ?_;rintro _ ⟨nq,rfl⟩;have N:Below wr.heap.size wr (wr.drewN nq):=⟨rfl,rfl,rfl,axe _,fun _ _=>rfl⟩;have B:ab0 (fun k=>k<w.heap.size/\k≠R) w (wr.drewN nq):=V
    gi_wp2
    go_roundw
    case rel=>exact⟨k+1,_,by omega,by go_num,HS,(by unfold Hid;omega),aaK hJ hj N,B⟩
    case measure=>simp [intOf];omega
  ·
   have ad:decide ((k:Int)<bn)=false:=by simp;omega
   clear c5
   gi_wp2
   go_end0
   refine⟨⟨_,rfl⟩,.inl ⟨Z,?_,hj⟩⟩;show Z.map Subtype.val=ae1 L T node T.up.length;rw [j.out,U.out];have ak:=HK.out
   by_cases e:bn=0
   ·
    obtain rfl:k=1:=by omega
    subst e;simp [ae1,ag0]
   ·
    obtain rfl:k=bn:=by omega
    rfl
end
def spl (F:List Int)(P:Nat)(r:List Int):List Int:=F.take P++r++F.drop (P+r.length)
theorem amy {F r:List Int}{P:Nat}(h:P+r.length<=F.length):(spl F P r).length=F.length:=by unfold spl;simp;omega
theorem asS {F:List Int}{P m:Nat}(h:P+m<=F.length):spl F P ((F.drop P).take m)=F:=by
 unfold spl;have Z:((F.drop P).take m).length=m:=by simp;omega
 rw [Z,ayi,<-List.drop_drop,axI,axI]
theorem aqH {F r:List Int}{P i:Nat}(h:P+r.length<=F.length)(Z:i<r.length):(spl F P r)[P+i]?=r[i]?:=by
 unfold spl;rw [ayi,az9 (by simp;omega)];rw [ay6,Nat.min_eq_left (by omega),Nat.add_sub_cancel_left,ax8 Z]
theorem apA {F r:List Int}{P i:Nat}(h:P+r.length<=F.length)(Z:i<r.length)(v:Int):(spl F P r).set (P+i) v=spl F P (r.set i v):=by
 unfold spl;have Y:(F.take P).length=P:=by simp;omega
 rw [axb,ayi,ayg _ _ (by omega),Y,Nat.add_sub_cancel_left,List.set_append_left _ _ Z,ayi]
def abs (r:List Int)(Z:List (Nat×Nat)):List Int:=Z.foldl (fun r p=>r.set p.1 (p.2:Int)) r
theorem aff (Z:List (Nat×Nat)):∀r:List Int,(abs r Z).length=r.length:=by
 induction Z with
 | nil=>intro r;rfl
 | cons k Z ih=>intro r;show (abs (r.set k.1 _) Z).length=_;rw [ih];simp
theorem agK (r:List Int)(Z:List (Nat×Nat))(p:Nat×Nat):abs r (Z++[p])=(abs r Z).set p.1 (p.2:Int):=by unfold abs;rw [axJ];rfl
theorem aaa.cell {g:Nat}{l:List Int}{W:World}(h:aaa g l W){i:Nat}{v:Int}(Z:l[i]?=some v):W.cell? ⟨g,i,none⟩=some (.int .i64 v):=by
 rw [cell_of_row W g i _ _ _ h];simp [Z]
theorem aaa.frozen {g:Nat}{l:List Int}{W:World}(h:aaa g l W)(i:Nat):W.frozen? ⟨g,i,none⟩=false:=by
 have h2:W.heap[g]?=some (.cells (l.map (Value.int .i64)).toArray 3 (0,0)):=h;simp [World.frozen?,h2]
theorem aaa.lt {g:Nat}{l:List Int}{W:World}(h:aaa g l W):g<W.heap.size:=(awU.1 h).1
theorem aia {β:Type}(g:Nat)(f:β->List Int):Own (fun s W=>aaa g (f s) W):=fun s X Y row U N V=>by
 have Z:X.heap[g]?=some (.cells ((f s).map (Value.int .i64)).toArray 3 (0,0)):=U;exact (N.block g U.lt (fun e=>by obtain⟨o,ho,J⟩:=V g e.symm;rw [Z] at ho;cases ho;cases J)).trans Z
theorem avv (w:World)(R P K m c1 c2:Nat)(F:List Int)(V:TypeId)(U:aaa R F w)(J:P+m<=F.length)(I:K+m<=F.length) :
  (Builtin.copy_ #[30,30] V #[.slice (some ⟨R,P,none⟩) m c1,.slice (some ⟨R,K,none⟩) m c2]).run ZP w=.ok (.int .i64 m) (w.setRow R ((spl F P ((F.drop K).take m)).map (Value.int .i64)).toArray):=by
 have Y:((F.drop K).take m).length=m:=by simp;omega
 have h:=run_copy_row (P:=ZP) w 30 30 V 3 R P m c1 ⟨R,K,none⟩ m c2 ((F.map (Value.int .i64)).toArray) 3 (((F.drop K).take m).map (Value.int .i64)) underlying30 (by kernel_rfl) U
  (by rw [ayq,Y];exact (Nat.min_self m).symm)
  (fun j v Z=>by
   rw [axa,ayw] at Z;obtain⟨x,X,rfl⟩:=Z;have N:j<m:=by have:=(awR.1 X).1;omega
   rw [azd N,ayP] at X;have e:(⟨R,K,none⟩:Addr).add j=⟨R,K+j,none⟩:=by unfold Addr.add;split<;>simp_all
   rw [e];exact U.cell X)
  (by rw [ayq,Y];simp;omega)
  (fun v Z=>by obtain⟨x,_,rfl⟩:=axE.1 Z;rfl)
 rw [h,ayq,Y];unfold spl;rw [Y];simp [goInt]
theorem aqX (w:World){o:Oper}{a:Act}{K:Act->World->Prop}{Q:Exit->Act->World->Prop}(d s:Operand)(t Z:TypeId)
  (ho:o.op=.call { callee:=.builtin .copy,args:=#[d,s],argTypes:=#[t,Z] }) (v u:Value) (V:a.eval d=v) (Y:a.eval s=u) {v':Value} {w':World}
  (X:(Builtin.copy_ #[t,Z] o.type #[v,u]).run ZP w=.ok v' w') (h:K (a.put o.dst v') w'):o.wp ZP a w K Q:=by
 unfold Oper.wp;simp only [execOp,ho,resolve,invoke,builtin,awX,awY,Result.andThen_ok,awZ,ax0,ax1,V,Y,X];exact h
end Go.Proofs.YtaamacoicojhnaaGreat
