/- Proofs over the given program, part 2. -/
import Derived.Test.YtaamacoicojhnaaGreatZB1
set_option linter.unusedVariables false
set_option linter.unusedSimpArgs false
set_option maxRecDepth 100000
set_option maxHeartbeats 16000000
open Go.Proofs.Tryz
open Go.Proofs.Tryz renaming prog→ZP
namespace Go.Proofs.YtaamacoicojhnaaGreat
open Go.RowKit Go.Sort
theorem atO:ZP.cellsOf 407=0:=by kernel_rfl
theorem adE (w:World)(b:Nat)(cs:Array Value)(t:TypeId)(fr:Nat×Nat)(h:w.heap[b]?=some (.cells cs t fr))(Z:ZP.cellsOf t=0) :
  Sem.run ZP (partAt ⟨b,0,none⟩ 0 0) w=.ok ⟨b,0,none⟩ w:=by
 simp [partAt,byteOf,noView,viewAt,World.shape?,h,Z,go_sem]
theorem aoa (w:World)(t:TypeId)(Z:ZP.cellsOf t=0) :
  Sem.run ZP (partAt ⟨w.heap.size,0,none⟩ 0 0) (w.alloc (.cells #[] t))=.ok ⟨w.heap.size,0,none⟩ (w.alloc (.cells #[] t)):=
 adE _ _ _ _ _ (axg _ _) Z
theorem alj {w:World}{b:Nat}{cs:Array Value}{t:TypeId}{fr:Nat×Nat}(h:w.heap[b]?=some (.cells cs t fr))(Z:ZP.cellsOf t=0)(d:Nat)(os:Array Obj) :
  Sem.run ZP (partAt ⟨b,0,none⟩ 0 0) (grow (redrawn w d) os)=.ok ⟨b,0,none⟩ (grow (redrawn w d) os):=
 adE _ _ _ _ _ (((below_regrown w d os).block b (awU.1 h).1).trans h) Z
theorem ajC (x:Int)(w:World)(h0:0<=x)(h1:x<=255) :
  Calls ZP 230 #[.int .u8 x] w fun e w'=>e=.returned (.int .u8 (aaU x))/\w=w':=by
 by_cases h2:65<=x
 ·
  by_cases h3:x<=90
  all_goals
   go_enter func230,ntmps230;go_wp2;go_ret;exact⟨aez (by unfold aaU;first | rw [if_pos (by omega)] | rw [if_neg (by omega)]),rfl⟩
 · go_enter func230,ntmps230;go_wp2;go_ret;exact⟨aez (by unfold aaU;rw [if_neg (by omega)]),rfl⟩
theorem aqO (x:Int)(w:World)(h0:0<=x)(h1:x<=255) :
  Calls ZP 214 #[.int .u8 x] w fun e w'=>e=.returned (.int .u8 (aaU x))/\w=w':=by
 by_cases h2:65<=x
 ·
  by_cases h3:x<=90
  all_goals
   go_enter func214,ntmps214;go_wp2;go_ret;exact⟨aez (by unfold aaU;first | rw [if_pos (by omega)] | rw [if_neg (by omega)]),rfl⟩
 · go_enter func214,ntmps214;go_wp2;go_ret;exact⟨aez (by unfold aaU;rw [if_neg (by omega)]),rfl⟩
theorem alg (x y:Int)(w:World) :
  Calls ZP 299 #[.agg #[],.int .u8 x,.int .u8 y] w fun e w'=>e=.returned (.bool (decide (x=y)))/\Below w.heap.size w w':=by
 by_cases h:x=y
 all_goals
  go_enter func299,ntmps299;go_wp2;go_ret;exact⟨by simp [h],(axf _ _).alloc (axe _) _⟩
theorem anG (x y:Int)(w:World)(U:0<=x)(V:x<=255)(X:0<=y)(Y:y<=255) :
  Calls ZP 298 #[.agg #[],.int .u8 x,.int .u8 y] w fun e w'=>e=.returned (.bool (decide (aaU x=aaU y)))/\Below w.heap.size w w':=by
 have H:=ad8 ⟨U,V⟩;have I:=ad8 ⟨X,Y⟩;go_enter func298,ntmps298;have J:=alj (axg w (.cells #[] 407)) atO;go_wp2;refine wp_region_quiet_below mixed (by kernel_rfl) ?_
 repeat (go_big_quiet_step (first | exact aob (ajC _ _ (by omega) (by omega)) | exact aax (alg _ _ _)))
 refine wpQuiet_nil ?_;rintro _ ⟨⟨N,Z⟩,rfl⟩;go_wp2;go_ret;exact⟨rfl,((axf _ _).alloc (axe _) _).trans ((below_regrown _ N Z).mono (by simp))⟩
theorem aaT (P:Program)(w:World)(a:Addr)(f:Fn)(Z us:Array Value)(m:Mode):(store a (.func f Z us) m).run P w=stored P w a (.func f Z us) m:=run_store P w a _ m rfl
def adI (fold:Bool):FuncId:=if fold then 298 else 299
theorem avH (fold:Bool)(w:World) :
  Calls ZP 294 #[.bool fold] w fun e w'=>e=.returned (.func (.func (adI fold)) #[.agg #[]] #[])/\Below w.heap.size w w':=by
 cases fold
 all_goals
  go_enter func294,ntmps294;have Z:=aoa w 407 atO;go_wp2;go_ret;exact⟨by simp [adI],(axf _ _).alloc (axe _) _⟩
theorem afx (wk bl rg Y X Z fr L y:Int)(w:World) :
  Calls ZP 48 #[.agg (ae4 wk bl rg Y X Z fr),.int .i64 L,.int .i64 y] w fun e w'=>e=.returned (.tuple #[.int .i64 (atQ wk bl rg Y X Z fr L y),.int .i64 (aty wk bl rg Y X Z fr L y)])/\Below w.heap.size w w':=by
 by_cases h:adm wk bl rg Y X Z fr L y=true
 · rw [atQ,aty,if_pos h,if_pos h];exact anO _ _ _ _ _ _ _ _ _ _ h
 · rw [atQ,aty,if_neg h,if_neg h];exact aqL _ _ _ _ _ _ _ _ _ _ (by simpa using h)
theorem Sl1.one {W:World}{n:Int}{b:Nat}(Y:W.cell? ⟨b,0,none⟩=some (.int .i64 n))(X:b<W.heap.size):Sl1 (Value.int .i64) W (some ⟨b,0,none⟩) 1 [n]:=by
 refine⟨rfl,.inr ⟨b,0,rfl,X,fun i x Z=>?_⟩⟩
 cases i with
 | zero=>simp at Z;subst Z;exact Y
 | succ i=>simp at Z
theorem akz (wk bl rg X V Z fr L y r h:Int)(w:World) :
  Calls ZP 49 #[.agg (ae4 wk bl rg X V Z fr),.int .i64 L,.int .i64 y,.int .i64 r,.int .i64 h] w fun e w'=>e=.returned (.tuple #[.int .i64 (atV wk bl rg X V Z fr L y r h),.int .i64 (atB wk bl rg X V Z fr L y r h)])/\Below w.heap.size w w':=by
 go_enter func49,ntmps49
 go_wp2_with fail
 refine (afx _ _ _ _ _ _ _ _ _ _).mono ?_;rintro e o ⟨rfl,B⟩;obtain⟨j,hf⟩:=arf B;have a1:w.heap.size<o.heap.size:=by have:=B.size;simp at this;omega
 have x:Below w.heap.size w o:=((axf _ _).alloc (axe _) _).trans (B.mono (by simp))
 by_cases N:adm wk bl rg X V Z fr L y=true
 ·
  have A:aty wk bl rg X V Z fr L y=0:=by rw [aty,if_pos N]
  have hN:atQ wk bl rg X V Z fr L y=acs L bl Z y:=by rw [atQ,if_pos N]
  rw [A,hN];clear A hN
  by_cases Y:btw r 0 2147483647=true
  ·
   by_cases z:btw h 0 2147483647=true
   ·
    have I:=N;simp only [adm,ayz,abE,btw,decide_eq_true_eq] at I;obtain⟨⟨⟨⟨_,_⟩,⟨b1,b2⟩,_,_,_,⟨s1,s2⟩,_⟩,l1,l2⟩,y1,y2⟩:=I;have J:=Y;simp only [btw,ayz,decide_eq_true_eq] at J;obtain⟨r1,r2⟩:=J;have H:=z;simp only [btw,ayz,decide_eq_true_eq] at H;obtain⟨h1,h2⟩:=H;have ht:=aph (S:=Z) l1 l2 b1 b2 s1 y1;have ho:=aiV (n:=y) (size:=bl);have v:Hid (atV wk bl rg X V Z fr L y r h=6*adn y bl+r+wk+acs L bl Z y+2*h+5/\atB wk bl rg X V Z fr L y r h=0):=by
     simp [atV,atB,ave,N,Y,z,Hid]
    have C:als bl [y]=adn y bl:=by simp [als]
    have cB:∀(W:World) (b:Nat),W.cell? ⟨b,0,none⟩=some (.int .i64 y)->b<W.heap.size->Calls ZP 51 #[.int .i64 bl,.slice (some ⟨b,0,none⟩) 1 1] W fun e w'=>e=.returned (.int .i64 (adn y bl))/\W=w':=by
     intro W b j B;rw [<-C];exact aew _ _ _ _ _ _ (by omega) (by omega) (by simp;omega) (Sl1.one j B)
    clear C;obtain⟨O,hO⟩:∃O,adn y bl=O:=⟨_,rfl⟩;obtain⟨T,hT⟩:∃T,acs L bl Z y=T:=⟨_,rfl⟩;rw [hT] at ht v ⊢;rw [hO] at ho v cB;clear hT hO
    go_wp2_with (go_at_call 84;refine (acX _ _).mono ?_;rintro e w' ⟨rfl,rfl⟩;first | rw [Y] | rw [z])
    have e1:IntKind.i64.wrap (6*O)=6*O:=IntWalk.i64_in _ (by omega);have e2:IntKind.i64.wrap (6*O+r)=6*O+r:=IntWalk.i64_in _ (by omega);have e3:IntKind.i64.wrap (6*O+r+wk)=6*O+r+wk:=IntWalk.i64_in _ (by omega);have e4:IntKind.i64.wrap (6*O+r+wk+T)=6*O+r+wk+T:=IntWalk.i64_in _ (by omega);have e5:IntKind.i64.wrap (2*h)=2*h:=IntWalk.i64_in _ (by omega);have e6:IntKind.i64.wrap (6*O+r+wk+T+2*h)=6*O+r+wk+T+2*h:=IntWalk.i64_in _ (by omega);have e7:IntKind.i64.wrap (6*O+r+wk+T+2*h+5)=6*O+r+wk+T+2*h+5:=IntWalk.i64_in _ (by omega)
    go_region_held3 (fun w'=>w'.cell? ⟨w.heap.size,0,none⟩=some (.int .i64 wk)/\w'.cell? ⟨w.heap.size,1,none⟩=some (.int .i64 bl)) (go_keep)
     (first | (go_at_call 51;refine (cB _ _ ?_ ?_).mono ?_;(simp);(simp);rintro e w' ⟨rfl,rfl⟩))
    clear e1 e2 e3 e4 e5 e6 e7;go_wp2;go_ret2;exact⟨by rw [v.out.1,v.out.2];rfl,(x.alloc (by omega) _).drew⟩
   ·
    have D:btw h 0 2147483647=false:=by simpa using z
    go_wp2_with (go_at_call 84;refine (acX _ _).mono ?_;rintro e w' ⟨rfl,rfl⟩;first | rw [Y] | rw [D])
    go_ret2;exact⟨by simp [atV,atB,ave,N,Y,D],x⟩
  ·
   have U:btw r 0 2147483647=false:=by simpa using Y
   go_wp2_with (go_at_call 84;refine (acX _ _).mono ?_;rintro e w' ⟨rfl,rfl⟩;rw [U])
   go_ret2;exact⟨by simp [atV,atB,ave,N,U],x⟩
 ·
  have s:adm wk bl rg X V Z fr L y=false:=by simpa using N
  have A:aty wk bl rg X V Z fr L y=2:=by rw [aty,if_neg N]
  rw [A];clear A;go_wp2;go_ret2;exact⟨by simp [atV,atB,ave,s],x⟩
section
def aw4 (a b c d e f:Int):Int:=min (min (min (min (min a b) c) d) e) f
theorem arT {P:Program}(w:World)(Z:Array TypeId)(t:TypeId)(a b c d e f:Int) :
  (Builtin.min_ Z t #[.int .i64 a,.int .i64 b,.int .i64 c,.int .i64 d,.int .i64 e,.int .i64 f]).run P w=.ok (.int .i64 (aw4 a b c d e f)) w:=by
 have m:∀x y:Int,(if y<x then y else x)=min x y:=by intro x y;rw [Int.min_def];split<;>split<;>omega
 simp only [<-m,aw4];simp [Builtin.min_,Builtin.min2]
theorem anj {a b c d e f:Int}:1<=aw4 a b c d e f↔1<=a/\1<=b/\1<=c/\1<=d/\1<=e/\1<=f:=by unfold aw4;omega
attribute [local go_sem high] arT
theorem am0 (wk bl rg X V Y fr:Int)(w:World) :
    Calls ZP 25 #[.agg (ae4 wk bl rg X V Y fr)] w fun e w'=>e=.returned (.bool (ac2 wk bl rg X V Y fr))/\Below w.heap.size w w':=by
  obtain⟨B,U⟩:∃B,ac2 wk bl rg X V Y fr=B:=⟨_,rfl⟩;have N:Hid (ac2 wk bl rg X V Y fr=B):=U;rw [U];clear U;have Z:fr<=4611686018427387904∨¬fr<=4611686018427387904:=Decidable.em _
  rcases Z with Z | Z
  all_goals
    go_enter func25,ntmps25;go_wp2
    all_goals
      go_ret;refine⟨?_,(axf _ _).alloc (axe _) _⟩
      first
        | (show Ending.returned (.bool true)=_
           rw [<-N.out,abE.2 (by simp only [anj] at *;omega)])
        | (show Ending.returned (.bool false)=_
           have e:ac2 wk bl rg X V Y fr=false:=by
             refine Bool.eq_false_iff.2 fun h=>?_;have h1:=abE.1 h;have h2:=anj.2 ⟨h1.1.1,h1.2.1.1,h1.2.2.1.1,h1.2.2.2.1.1,h1.2.2.2.2.1.1,h1.2.2.2.2.2.1.1⟩;omega
           rw [<-N.out,e])
end
section
attribute [local go_sem] Oper.semAt_some
attribute [local simp] aab aa6
attribute [local go_sem] aab aa6
def Bys (w:World)(a:Option Addr)(len:Nat)(xs:List Int):Prop:=Sl1 (Value.int .u8) w a len xs/\∀x∈xs,0<=x/\x<=255
theorem Bys.below {w w':World}{a:Option Addr}{len:Nat}{xs:List Int}(h:Bys w a len xs)(Z:Below w.heap.size w w'):Bys w' a len xs:=⟨h.1.below Z,h.2⟩
theorem Bys.len {w:World}{a:Option Addr}{len:Nat}{xs:List Int}(h:Bys w a len xs):xs.length=len:=h.1.1
theorem Bys.nil (w:World)(a:Option Addr):Bys w a 0 []:=⟨⟨rfl,.inl rfl⟩,by simp⟩
abbrev kept (w W:World):Prop:=ab0 (fun k=>k<w.heap.size) w W
theorem acC {w W:World}(h:kept w W){p:Addr}(Z:p.block<w.heap.size):W.cell? p=w.cell? p:=axp (h _ Z)
theorem ap2 {w W:World}(h:Below w.heap.size w W):kept w W:=aaQ h fun _ h=>h
theorem arl (a b:Option Addr)(Y V Z X:Nat)(w:World) :
  Calls ZP 295 #[.slice a Y V,.slice b Z X] w fun e w'=>e=.returned (.func (.func 300) #[] #[.pointer (some ⟨w.heap.size,0,none⟩),.pointer (some ⟨w.heap.size+1,0,none⟩)])/\
   w'=(w.alloc (.cells #[.slice a Y V] 32)).alloc (.cells #[.slice b Z X] 32):=by
 go_enter func295,ntmps295;go_wp2;go_ret;exact⟨rfl,rfl⟩
abbrev By2:={ p:Int×Int // (0<=p.1/\p.1<=255)/\0<=p.2/\p.2<=255 }
def aqi (p:By2):Array Value:=#[.int .u8 p.1.1,.int .u8 p.1.2]
theorem alW (a b:Option Addr)(Y ca N cb h p2:Nat)(xs ys:List Int)(n:Nat)(w:World)(hA:Bys w a Y xs)(hB:Bys w b N ys)(hl:Y=N)(ad:Y<=1000000)
  (h1:w.heap[h]?=some (.cells #[.slice a Y ca] 32 (0,0))) (h2:w.heap[p2]?=some (.cells #[.slice b N cb] 32 (0,0))) :
  SeqStopsK Fence.wide n ZP 300 #[.pointer (some ⟨h,0,none⟩),.pointer (some ⟨p2,0,none⟩)] aqi (ab0 (fun k=>k<w.heap.size)) (fun zs=>zs.map Subtype.val=xs.zip ys) (fun Z=>∃k,Z.map Subtype.val=(xs.zip ys).take k) 1000001 w:=by
 intro l J Jx W hW hJ ae hY h0;have z:kept w W:=ap2 hW;have a2:h<w.heap.size:=(awU.1 h1).1;have a1:p2<w.heap.size:=(awU.1 h2).1;have cells:∀v:World,kept w v->v.cell? ⟨h,0,none⟩=some (.slice a Y ca)/\v.cell? ⟨p2,0,none⟩=some (.slice b N cb):=by
  intro v hv;rw [acC hv a2,acC hv a1];simp [World.cell?,h1,h2]
 obtain⟨C,D⟩:=hA.1;obtain⟨X,I⟩:=hB.1;have HX:=ax3 hA.2;have HY:=ax3 hB.2;have HL:=ax3 hl;have j:=ax3 C;have aa:=ax3 X;clear hA hB hl C X;obtain⟨c1,c2⟩:=cells W z;refine callsIn_of_wp func300 rfl trivial ?_ rfl;simp only [ntmps300,axT,axU,axV,Nat.reduceAdd,Nat.reduceSub,axW,axX,axY,axZ,ay0,ay1]
 gi_wp2
 clear c1 c2
 gi_loopw [8] (fun i wr=>∃(k:Nat) (Z:List By2),k<=Y/\i=.int .i64 k/\Z.map Subtype.val=(xs.zip ys).take k/\J Z wr/\kept w wr) (fun i _=>Y-(intOf i).toNat)
 case atStart=>exact⟨0,[],axh _,rfl,by simp,h0,z⟩
 case round=>
  obtain⟨k,Z,hk,rfl,U,hj,V⟩:=hrel;have HP:=ax3 U;clear U
  by_cases A:k<Y
  ·
   obtain⟨x,hx⟩:∃x,xs[k]?=some x:=⟨xs[k]'(by rw [j.out];exact A),by simp⟩;obtain⟨y,hy⟩:∃y,ys[k]?=some y:=⟨ys[k]'(by rw [aa.out,<-HL.out];exact A),by simp⟩;obtain⟨ba,oa,rfl,a7,B⟩:=D.resolve_left (by omega);obtain⟨bb,ob,rfl,a6,H⟩:=I.resolve_left (by have:=HL.out;omega);obtain⟨c1,c2⟩:=cells wr V;have cx:wr.cell? ⟨ba,oa+k,none⟩=some (.int .u8 x):=(acC V (p:=⟨ba,oa+k,none⟩) a7).trans (B k x hx);have cy:wr.cell? ⟨bb,ob+k,none⟩=some (.int .u8 y):=(acC V (p:=⟨bb,ob+k,none⟩) a6).trans (H k y hy);have o:=HX.out x (ay9 hx);have s:=HY.out y (ay9 hy);have ac:Z.length<=k:=by have:=congrArg List.length HP.out;simp at this;omega
   have ab:(k:Int)<N:=by have:=HL.out;omega
   obtain⟨fn,tmps,assign,body,X,a8⟩:=hY Z ⟨(x,y),o,s⟩ wr hj (by omega);have HS:Hid ((Z++[(⟨(x,y),o,s⟩:By2)]).map Subtype.val=(xs.zip ys).take (k+1)):=by
    have hz:(xs.zip ys)[k]?=some (x,y):=by rw [List.getElem?_zip_eq_some];exact⟨hx,hy⟩
    rw [aa7 hz,<-HP.out];simp [Hid]
   dsimp only [aqi] at X;clear hx hy B H D I
   gi_wp2
   refine a8.mono ?_;rintro e W4 (⟨rfl,hJ4,hk4⟩ | ⟨rfl,hJx4⟩)
   ·
    gi_wp2
    go_roundw
    case rel=>exact⟨k+1,_,by omega,by go_num,HS.out,hJ4,abp V hk4⟩
    case measure=>simp [intOf];omega
   ·
    gi_wp2
    refine bodyPost_ret (results_none rfl _ _ _) rfl ?_;exact⟨⟨_,rfl⟩,.inr ⟨_,⟨k+1,HS.out⟩,hJx4⟩⟩
  ·
   obtain rfl:k=Y:=by omega
   gi_wp2
   go_end0
   refine⟨⟨_,rfl⟩,.inl ⟨Z,?_,hj⟩⟩;show Z.map Subtype.val=xs.zip ys;rw [HP.out,axo (by simp;have:=j.out;omega)]
end
section
attribute [local go_sem] Oper.semAt_some
attribute [local simp] aab aa6
attribute [local go_sem] aab aa6
attribute [local go_sem] aaT
theorem anL (fold:Bool)(x y:Int)(w:World)(Y:0<=x/\x<=255)(Z:0<=y/\y<=255) :
  Calls ZP (adI fold) #[.agg #[],.int .u8 x,.int .u8 y] w fun e w'=>e=.returned (.bool (anD fold x y))/\Below w.heap.size w w':=by
 cases fold
 · exact alg x y w
 · exact anG x y w Y.1 Y.2 Z.1 Z.2
theorem adv {fn:Func}{p:Tmp}{tmps:Array Value}{W:World}{B:Nat}{t:TypeId}{b:Bool}(h:fn.results=#[.cell p 4])(Y:tmps.getD p undef=.pointer (some ⟨B,0,none⟩))(V:Boxed W B t (.bool b)) :
  (results fn tmps).run ZP W=.ok (.bool b) W:=by
 have Z:tmps[p]?.getD undef=.pointer (some ⟨B,0,none⟩):=by simpa using Y
 have X:=V.cell;simp [results,h,Z,asAddr,X,go_sem,loadVar]
theorem ak2 (fold:Bool)(args:Array Value)(w:World):Sem.run ZP (callFunc (adI fold) args) w=.ok (.enter (adI fold) args) w:=by
 cases fold
 · exact enters_of func299 (by kernel_rfl) rfl args w
 · exact enters_of func298 (by kernel_rfl) rfl args w
theorem af9 {β:Type}(B n:Nat):OwnFrom B (fun (_:β) W=>n<=W.heap.size):=fun s A C row Z Y X=>awT Z Y.size
theorem amM {β:Type}(B:Nat)(p:β->Prop):OwnFrom B (fun s (_:World)=>p s):=fun s A C row Z X Y=>Z
theorem arX (fold:Bool)(a b:Option Addr)(Z N lb U:Nat)(xs ys:List Int)(w:World)(hA:Bys w a Z xs)(H:Bys w b lb ys)(a8:Z<=1000000) :
  Calls ZP 287 #[.bool fold,.slice a Z N,.slice b lb U] w fun e w'=>e=.returned (.bool (abT fold xs ys))/\Below w.heap.size w w':=by
 refine aau func287 rfl ?_;simp only [ntmps287,axT,axU,axV,Nat.reduceAdd,Nat.reduceSub,axW,axX,axY,axZ,ay0,ay1];have a1:=hA;have j:=H
 by_cases hl:Z=lb
 ·
  subst hl
  go_wp2_with fail
  refine (avH fold _).mono ?_;rintro e Y ⟨rfl,hb⟩;have af:Below w.heap.size w Y:=((axf _ _).alloc (axe _) _).trans (hb.mono (by simp));have bR:Boxed Y w.heap.size 4 (.bool false):=(hb.block _ (by simp)).trans (Boxed.new w 4 (.bool false));have a7:w.heap.size<Y.heap.size:=bR.lt
  go_wp2_with (go_at_call 295;refine (arl _ _ _ _ _ _ _).mono ?_;rintro e w' ⟨rfl,rfl⟩)
  have bF:Boxed (((Y.alloc (.cells #[.func (.func (adI fold)) #[.agg #[]] #[]] 395)).alloc (.cells #[.slice a Z N] 32)).alloc (.cells #[.slice b Z U] 32)) Y.heap.size 395 (.func (.func (adI fold)) #[.agg #[]] #[]):=
   ((Boxed.new Y _ _).alloc _).alloc _
  have bA:(((Y.alloc (.cells #[.func (.func (adI fold)) #[.agg #[]] #[]] 395)).alloc (.cells #[.slice a Z N] 32)).alloc (.cells #[.slice b Z U] 32)).heap[Y.heap.size+1]?=some (.cells #[.slice a Z N] 32 (0,0)):=by
   have:=(Boxed.new (Y.alloc (.cells #[.func (.func (adI fold)) #[.agg #[]] #[]] 395)) 32 (.slice a Z N)).alloc (.cells #[.slice b Z U] 32)
   rwa [ax7] at this
  have bB:(((Y.alloc (.cells #[.func (.func (adI fold)) #[.agg #[]] #[]] 395)).alloc (.cells #[.slice a Z N] 32)).alloc (.cells #[.slice b Z U] 32)).heap[Y.heap.size+1+1]?=some (.cells #[.slice b Z U] 32 (0,0)):=by
   have:=(Boxed.new ((Y.alloc (.cells #[.func (.func (adI fold)) #[.agg #[]] #[]] 395)).alloc (.cells #[.slice a Z N] 32)) 32 (.slice b Z U))
   rwa [ax7,ax7] at this
  have ah:=((bR.alloc (.cells #[.func (.func (adI fold)) #[.agg #[]] #[]] 395)).alloc (.cells #[.slice a Z N] 32)).alloc (.cells #[.slice b Z U] 32);have A:=((af.alloc (axd a7) (.cells #[.func (.func (adI fold)) #[.agg #[]] #[]] 395)).alloc (by simp;omega) (.cells #[.slice a Z N] 32)).alloc (by simp;omega) (.cells #[.slice b Z U] 32);have aj:(((Y.alloc (.cells #[.func (.func (adI fold)) #[.agg #[]] #[]] 395)).alloc (.cells #[.slice a Z N] 32)).alloc (.cells #[.slice b Z U] 32)).heap.size=Y.heap.size+3:=by simp
  generalize (((Y.alloc (.cells #[.func (.func (adI fold)) #[.agg #[]] #[]] 395)).alloc (.cells #[.slice a Z N] 32)).alloc (.cells #[.slice b Z U] 32))=w3 at *
  have ag:=hA.below A;have o:=H.below A
  apply ait rfl (enters_of func300 (by kernel_rfl) rfl) (alW a b Z N Z U (Y.heap.size+1) (Y.heap.size+1+1) xs ys 8 w3 ag o rfl a8 bA bB) abp (ad2 fun _ h=>h) (fun _=>rfl)
   (fun J W=>Boxed W Y.heap.size 395 (.func (.func (adI fold)) #[.agg #[]] #[])/\Boxed W w.heap.size 4 (.bool false)/\Below w.heap.size w W/\w3.heap.size<=W.heap.size/\∀p∈J.map Subtype.val,anD fold p.1 p.2=true)
   (fun c J W=>Boxed W w.heap.size 4 (.bool false)/\Below w.heap.size w W/\c=.ret/\∃p∈J.map Subtype.val,anD fold p.1 p.2=false)
  case hI=>exact OwnFrom.and (Own.from (boxed_own _ _ _) _) (OwnFrom.and (Own.from (boxed_own _ _ _) _) (OwnFrom.and (ownFrom_below (axe _) (by omega)) (OwnFrom.and (af9 _ _) (amM _ _))))
  case hIx=>exact fun c=>OwnFrom.and (Own.from (boxed_own _ _ _) _) (OwnFrom.and (ownFrom_below (axe _) (by omega)) (amM _ _))
  case h0=>exact⟨bF,ah,A,axe _,by simp⟩
  case hassign=>
   intro l x W K v;unfold aqi
   gi_wp2
   exact v
  case hbody=>
   rintro l J ⟨⟨x,y⟩,hx,hy⟩ W ⟨hF,I,H,hs,V⟩ ai;have hc:=hF.cell;have ac:=I.cell;have aa:=I.frozen;dsimp only at hx hy ⊢;have a2:=ax3 V;clear V;have he:=ak2 fold
   gi_wp2_with fail
   refine (callsIn_wide.2 (anL fold x y W hx hy)).mono ?_;rintro e W4 ⟨rfl,X⟩;have B:Boxed W4 w.heap.size 4 (.bool false):=(X.block _ I.lt).trans I;have ae:Boxed W4 Y.heap.size 395 (.func (.func (adI fold)) #[.agg #[]] #[]):=(X.block _ hF.lt).trans hF;have am:=B.cell;have al:=B.frozen;have a6:w3.heap.size<=W4.heap.size:=awT hs X.size;have s:Below w.heap.size w W4:=H.trans (X.mono H.size)
   cases e:anD fold x y with
   | true=>
    gi_wp2
    refine⟨ab3 X,aaQ X (fun k hk=>by omega),ae,B,s,a6,?_⟩;rw [ay7];intro p C
    rcases ayd.1 C with C | C
    · exact a2.out p C
    · simp at C;rw [C];exact e
   | false=>
    gi_wp2
    have kO:=(ayI W4 ⟨w.heap.size,0,none⟩ (.bool false)).from w3.heap.size;exact⟨(ab3 X).trans kO,B.set _,s.setCell (axe _) _,rfl,(x,y),by simp,e⟩
  case hdone=>
   rintro D zs W hD hS ⟨hF,I,H,hs,V⟩ v;have ad:(W.setCell ⟨w.heap.size,0,none⟩ (.bool true)).heap[D]?=some (.deferred (some [])):=(axn W ⟨w.heap.size,0,none⟩ _ _ (by simp;omega)).trans v;have ac:=I.cell;have aa:=I.frozen;go_wp2;have bT:Boxed ((W.setCell ⟨w.heap.size,0,none⟩ (.bool true)).putObj D (.deferred none)) w.heap.size 4 (.bool true):=(ayn (by omega)).trans (I.set _);refine ar0 rfl ad (adv rfl rfl bT) ⟨?_,aaS (H.setCell (axe _) _) (by omega) (axe _) _⟩;rw [(agW (by rw [a1.len,j.len])).2 (by rw [<-hS];exact V)]
  case hstop=>
   rintro D c J W hD hS ⟨I,H,rfl,ab⟩ v;go_wp2;have bT:Boxed (W.putObj D (.deferred none)) w.heap.size 4 (.bool false):=(ayn (by omega)).trans I;refine ar0 rfl v (adv rfl rfl bT) ⟨?_,aaS H (by omega) (axe _) _⟩;obtain⟨p,C,z⟩:=ab
   cases e:abT fold xs ys with
   | false=>rfl
   | true=>
    exfalso
    have:=(agW (by rw [a1.len,j.len])).1 e p (by obtain⟨k,hk⟩:=hS;rw [hk] at C;exact axk C);rw [this] at z
    cases z
 ·
  have hE:abT fold xs ys=false:=arD (by rw [hA.len,H.len];exact hl);have ak:((Z:Int) != (lb:Int))=true:=by simp;omega
  go_wp2;refine awD rfl (adv rfl rfl (Boxed.new w 4 _)) ⟨by rw [hE],(axf _ _).alloc (axe _) _⟩
end
theorem aah (b off i:Nat):(⟨b,off,none⟩:Addr).add i=⟨b,off+i,none⟩:=by
 unfold Addr.add
 split<;>simp_all
theorem Sl1.cut {α:Type}{enc:α->Value}{w:World}{a:Option Addr}{n:Nat}{xs:List α}(h:Sl1 enc w a n xs){lo m:Nat}(V:lo+m<=n) :
  Sl1 enc w (a.map (·.add lo)) m ((xs.drop lo).take m):=by
 obtain⟨h1,h2⟩:=h;refine⟨by simp;omega,?_⟩
 by_cases h0:m=0
 · exact .inl h0
 ·
  right
  obtain⟨b,off,rfl,X,Z⟩:=h2.resolve_left (by omega);refine⟨b,off+lo,by simp [aah],X,fun i x Y=>?_⟩;rw [awS] at Y
  split at Y
  · rw [ayP] at Y;rw [Nat.add_assoc];exact Z _ x Y
  · cases Y
theorem Bys.cut {w:World}{a:Option Addr}{n:Nat}{xs:List Int}(h:Bys w a n xs){lo m:Nat}(Y:lo+m<=n):Bys w (a.map (·.add lo)) m ((xs.drop lo).take m):=
 ⟨h.1.cut Y,fun x Z=>h.2 x (ayQ (axk Z))⟩
def Wds (w:World)(a:Option Addr)(len:Nat)(wss:List (List Int)):Prop:=
 ∃Z:List (Option Addr×Nat×Nat),Sl1 (fun v=>Value.slice v.1 v.2.1 v.2.2) w a len Z/\Z.length=wss.length/\∀(i:Nat) (v:Option Addr×Nat×Nat) (xs:List Int),Z[i]?=some v->wss[i]?=some xs->Bys w v.1 v.2.1 xs/\v.2.1<=v.2.2
theorem Wds.below {w w':World}{a:Option Addr}{len:Nat}{wss:List (List Int)}(h:Wds w a len wss)(X:Below w.heap.size w w'):Wds w' a len wss:=by
 obtain⟨V,h1,h2,h3⟩:=h;exact⟨V,h1.below X,h2,fun i v xs Y Z=>⟨(h3 i v xs Y Z).1.below X,(h3 i v xs Y Z).2⟩⟩
theorem Wds.len {w:World}{a:Option Addr}{len:Nat}{wss:List (List Int)}(h:Wds w a len wss):wss.length=len:=by
 obtain⟨Z,h1,h2,h3⟩:=h;rw [<-h2,h1.1]
theorem Wds.at_ {w:World}{a:Option Addr}{len:Nat}{wss:List (List Int)}(h:Wds w a len wss){k:Nat}(I:k<len) :
  ∃b off U l c xs,a=some ⟨b,off,none⟩/\b<w.heap.size/\w.cell? ⟨b,off+k,none⟩=some (.slice U l c)/\wss[k]?=some xs/\Bys w U l xs/\l<=c:=by
 have J:=h.len;obtain⟨Y,⟨h0,h1⟩,h2,h3⟩:=h;obtain⟨b,off,rfl,Z,N⟩:=h1.resolve_left (by omega);obtain⟨v,V⟩:∃v,Y[k]?=some v:=⟨Y[k]'(by omega),by simp⟩;obtain⟨x,X⟩:∃v,wss[k]?=some v:=⟨wss[k]'(by omega),by simp⟩;exact⟨b,off,v.1,v.2.1,v.2.2,x,rfl,Z,N k v V,X,h3 k v x V X⟩
theorem adg {wss:List (List Int)}{M:Nat}(h:∀x∈wss,x.length<=M){k:Nat}{x:List Int}(Z:wss[k]?=some x):x.length<=M:=h x (ay9 Z)
theorem akd (fold:Bool)(a b:Option Addr)(U y Y cb:Nat)(xs:List Int)(wss:List (List Int))(w:World)(hA:Bys w a U xs)(z:Wds w b Y wss)(j:Y<=1000000)(hM:∀x∈wss,x.length<=1000000) :
  Calls ZP 256 #[.bool fold,.slice a U y,.slice b Y cb] w fun e w'=>e=.returned (.int .i64 (aaw fold xs wss))/\Below w.heap.size w w':=by
 have v:=ax3 z.len;go_enter func256,ntmps256;go_wp2
 go_loopw [11] (fun i wr=>∃k:Nat,k<=Y/\i=.int .i64 k/\Hid (aaw fold xs (wss.take k)=-1)/\Below w.heap.size w wr) (fun i _=>Y-(intOf i).toNat)
 case atStart=>exact⟨0,axh _,rfl,by simp [Hid,ai5],axf _ _⟩
 case round=>
  obtain⟨k,hk,rfl,B,Z⟩:=hrel;have C:=hA.below Z;have D:=z.below Z
  by_cases I:k<Y
  ·
   obtain⟨bb,off,a',l,c,x,rfl,a1,H,J,A,o⟩:=D.at_ I;have N:l<=1000000:=by have:=adg hM J;rw [A.len] at this;exact this
   go_wp2_with fail
   refine (arX fold a' a l c U y x xs wr A C N).mono ?_;rintro e s ⟨rfl,hb⟩;have X:Below w.heap.size w s:=Z.trans (hb.mono Z.size)
   cases e:abT fold x xs with
   | true=>
    have V:Hid (aaw fold xs wss=k):=by
     have h:=aie (rest:=wss.drop (k+1)) B (by rw [ahZ];exact e);rw [<-agm J] at h;rw [Hid,h,ay6,v.out];omega
    go_wp2;go_ret;exact⟨by rw [V.out];rfl,X⟩
   | false=>
    have V:Hid (aaw fold xs (wss.take (k+1))=-1):=by
     rw [aa7 J];exact aec B (by rw [ahZ];exact e)
    go_wp2
    go_roundw
    case rel=>exact⟨k+1,by omega,by go_num,V,X⟩
    case measure=>simp [intOf];omega
  ·
   obtain rfl:k=Y:=by omega
   have V:Hid (aaw fold xs wss=-1):=by
    have h:=B
    rwa [axo (by rw [v.out];exact axe _)] at h
   go_wp2;go_ret;exact⟨by rw [V.out];rfl,Z⟩
abbrev ag6 (w:World)(base:Nat)(v:Value)(n:Nat)(xs:List Int):Prop:=w.ownsRow base 5 1 v n (xs.map (Value.int .u8))
theorem acy:(ZP.info? 5).map (fun i=>(i.zero,i.size,i.bytes))=some (some (.int .u8 0),1,1):=by kernel_rfl
theorem aaC {α:Type}{enc:α->Value}{w:World}{base n:Nat}{e:TypeId}{v:Value}{xs:List α}(h:w.ownsRow base e 1 v n (xs.map enc)):∃a c,v=.slice a n c/\n<=c/\Sl1 enc w a n xs:=by
 have Z:xs.length=n:=by have:=h.1;simpa using this
 rcases h.2 with ⟨rfl,rfl⟩ | ⟨g,cap,U,rfl,N,V,X,_,_,J⟩
 · exact⟨none,0,rfl,axe _,Z,.inl rfl⟩
 ·
  refine⟨_,cap,rfl,X,Z,.inr ⟨g,0,rfl,(awU.1 V).1,fun i x Y=>?_⟩⟩;have:=h.cells (g:=g) rfl i (enc x) (by simp [Y])
  rwa [aah] at this
theorem afp {w:World}{base n:Nat}{v:Value}{xs:List Int}(h:ag6 w base v n xs)(Y:∀x∈xs,0<=x/\x<=255):∃a c,v=.slice a n c/\n<=c/\Bys w a n xs:=by
 obtain⟨a,c,e,Z,h1⟩:=aaC h;exact⟨a,c,e,Z,h1,Y⟩
theorem afW {w wr X:World}{o:Obj}{base n size:Nat}{e:TypeId}{v:Value}{xs:List Value}(Y:Below w.heap.size w wr)(Z:wr.ownsRow w.heap.size e size v n xs)(U:(wr.alloc o).grownBy X v.ownBlock):Below w.heap.size w X:=
 (Y.alloc Y.size o).grown U (by simp;have:=Y.size;omega) (fun k V=>(Z.lt k V).1)
theorem Sl1.news {α:Type}{enc:α->Value}{w:World}{X:Addr}{m:Nat}{ys:List α}(h:Sl1 enc w (some X) m ys):∀j u,(ys.map enc)[j]?=some u->w.cell? (X.add j)=some u:=by
 intro j u Y;rw [axa,ayw] at Y;obtain⟨y,Z,rfl⟩:=Y;obtain⟨h1,h2⟩:=h;have N:=(awR.1 Z).1;obtain⟨b,off,e,V,U⟩:=h2.resolve_left (by omega);obtain rfl:=awV e;rw [aah];exact U j y Z
theorem ae7 {P:Program}{α:Type}{enc:α->Value}(U:∀x,(enc x).oneCell'=true)(w:World)(base:Nat)(t s e:TypeId)(i:TypeInfo)(z:Value)(bytes:Nat)(I:P.underlying t=some (.slice e))(D:P.info? e=some i)(o:i.zero=some z)
  (X:i.size=1) (C:i.bytes=bytes) (J:z.cells.size=1) (v:Value) (n:Nat) (xs:List Value) (Z:w.ownsRow base e 1 v n xs)
  (A:Option Addr) (m c:Nat) (ys:List α) (N:Sl1 enc w A m ys) (B:n+m<=maxLen) (Y:(n+m)*bytes<=140737488355328) (V:base<=w.heap.size) :
  ∃v' w',(Builtin.append_ #[t,t] s #[v,.slice A m c]).run P w=.ok v' w'/\w'.ownsRow base e 1 v' (n+m) (xs++ys.map enc)/\w.grownBy w' v.ownBlock/\
   (v'.ownBlock=v.ownBlock∨v'.ownBlock=some w.heap.size):=by
 cases A with
 | some ad=>
  obtain⟨v',w',hr,h2,h3,_,h5⟩:=run_append_own_at (P:=P) w base t s e i z 1 bytes I D o X C J (by decide) v n xs Z ad m c (ys.map enc) (by simp [N.1]) N.news (by intro u h;obtain⟨y,_,rfl⟩:=axE.1 h;exact U y) B Y V;exact⟨v',w',hr,h2,h3,h5⟩
 | none=>
  have hm:m=0:=N.2.elim id fun ⟨b,off,e,_⟩=>by cases e
  subst hm;have j:ys=[]:=ayk N.1;subst j;refine⟨v,w,?_,by simpa using Z,World.grownBy.refl w _,.inl rfl⟩
  rcases Z.2 with ⟨rfl,rfl⟩ | ⟨g,cap,a1,rfl,_,_,H,_⟩
  · simp [Builtin.append_,run_underlying I,sizeOf,typeInfo,D,Builtin.lenOf,Builtin.firstCells]
  · simp [Builtin.append_,run_underlying I,sizeOf,typeInfo,D,Builtin.lenOf,Builtin.firstCells,H,storeCells]
theorem aba {P:Program}{w:World}{V:Array Oper}{rest:List Oper}{o:Oper}{a:Act}{Q:Exit->Act->World->Prop}(H:o.guard=none)(s x:Operand)(t:TypeId)
  (ho:o.op=.call { callee:=.builtin .append,args:=#[s,x],argTypes:=#[t,t] }) {α:Type} {enc:α->Value} (N:∀x,(enc x).oneCell'=true)
  (base:Nat) (e:TypeId) (i:TypeInfo) (z:Value) (bytes:Nat) (j:P.underlying t=some (.slice e)) (hi:P.info? e=some i) (B:i.zero=some z) (Y:i.size=1) (D:i.bytes=bytes) (J:z.cells.size=1)
  (v:Value) (n:Nat) (xs:List Value) (hs:a.eval s=v) (U:w.ownsRow base e 1 v n xs) (A:Option Addr) (m c:Nat) (ys:List α) (y:a.eval x=.slice A m c) (I:Sl1 enc w A m ys)
  (C:n+m<=maxLen) (Z:(n+m)*bytes<=140737488355328) (X:base<=w.heap.size)
  (h:∀v' w',w'.ownsRow base e 1 v' (n+m) (xs++ys.map enc)->w.grownBy w' v.ownBlock->(v'.ownBlock=v.ownBlock∨v'.ownBlock=some w.heap.size)->wpList P V Q rest (a.put o.dst v') w'):wpList P V Q (o :: rest) a w:=by
 refine wpList_plain H fun K hK=>?_;obtain⟨v',w',hr,h2,h3,h4⟩:=ae7 (P:=P) N w base t o.type e i z bytes j hi B Y D J v n xs U A m c ys I C Z X;unfold Oper.wp execOp;simp only [ho,resolve,invoke,builtin,awX,awY,Result.andThen_ok,awZ,ax0,ax1,hs,y,hr];exact hK _ _ (h v' w' h2 h3 h4)
theorem ahn (a:Option Addr)(X ca:Nat)(xs:List Int)(w:World)(j:Bys w a X xs)(a1:X<=1000000) :
    Calls ZP 175 #[.slice a X ca] w fun e w'=>∃v,e=.returned v/\ag6 w' w.heap.size v X (xs.map aaU)/\Below w.heap.size w w':=by
  obtain⟨i0,hi,D,H,I⟩:=info_parts acy;have HL:=ax3 j.len;go_enter func175,ntmps175;go_wp2
  go_loopw [3,4] (fun o i wr=>∃k:Nat,k<=X/\i=.int .i64 k/\ag6 wr w.heap.size o k ((xs.take k).map aaU)/\Below w.heap.size w wr) (fun _ i _=>X-(intOf i).toNat)
  case atStart=>exact⟨0,axh _,rfl,ayy _ _ _ _,axf _ _⟩
  case round=>
    obtain⟨k,hk,rfl,Z,Y⟩:=hrel
    by_cases B:k<X
    ·
      obtain⟨x,J⟩:∃x,xs[k]?=some x:=⟨xs[k]'(by rw [HL.out];exact B),by simp⟩;have N:=j.below Y;have a2:=N.2 x (ay9 J);obtain⟨b,off,rfl,a6,s⟩:=N.1.2.resolve_left (by omega);have A:=s k x J;have C:=ax3 (aa7 J);clear s J
      go_wp2_with (first
        | (go_at_call 214;refine (aqO _ _ (by omega) (by omega)).mono ?_;rintro e w' ⟨rfl,rfl⟩)
        | (at_builtin
           refine wpList_append_own_at _ rfl _ _ 32 rfl w.heap.size 5 i0 (.int .u8 0) 1 1 underlying32 hi D H I rfl (by decide) _ _ _ rfl (Z.alloc _) ⟨wr.heap.size,0,none⟩ 1 1 [.int .u8 (aaU x)] rfl rfl (cell_one_new _ _ _) (by simp [Value.oneCell']) (by unfold maxLen;omega) (by omega) (by have:=Y.size;simp;omega) ?_;intro v' w5 V U y a7))
      have z:=afW (base:=w.heap.size) Y Z U
      go_roundw
      case rel=>exact⟨k+1,by omega,by go_num,by unfold ag6;rw [C.out,ay7,ay7];exact V,z⟩
      case measure=>simp [intOf];omega
    ·
      obtain rfl:k=X:=by omega
      go_wp2;go_ret;refine⟨_,rfl,?_,Y⟩;have h:=Z;rw [axo (by rw [HL.out];exact axe _)] at h;exact h
theorem akh (a:Option Addr)(X ca:Nat)(xs:List Int)(w:World)(j:Bys w a X xs)(a1:X<=1000000) :
    Calls ZP 187 #[.slice a X ca] w fun e w'=>∃v,e=.returned v/\ag6 w' w.heap.size v X (xs.map aaU)/\Below w.heap.size w w':=by
  obtain⟨i0,hi,D,H,I⟩:=info_parts acy;have HL:=ax3 j.len;go_enter func187,ntmps187;go_wp2
  go_loopw [3,8] (fun o i wr=>∃k:Nat,k<=X/\i=.int .i64 k/\ag6 wr w.heap.size o k ((xs.take k).map aaU)/\Below w.heap.size w wr) (fun _ i _=>X-(intOf i).toNat)
  case atStart=>exact⟨0,axh _,rfl,ayy _ _ _ _,axf _ _⟩
  case round=>
    obtain⟨k,hk,rfl,Z,Y⟩:=hrel
    by_cases B:k<X
    ·
      obtain⟨x,J⟩:∃x,xs[k]?=some x:=⟨xs[k]'(by rw [HL.out];exact B),by simp⟩;have N:=j.below Y;have a2:=N.2 x (ay9 J);obtain⟨b,off,rfl,a6,s⟩:=N.1.2.resolve_left (by omega);have A:=s k x J;have C:=ax3 (aa7 J);clear s J
      go_wp2_with (first
        | (go_at_call 230;refine (ajC _ _ (by omega) (by omega)).mono ?_;rintro e w' ⟨rfl,rfl⟩)
        | (at_builtin
           refine wpList_append_own_at _ rfl _ _ 32 rfl w.heap.size 5 i0 (.int .u8 0) 1 1 underlying32 hi D H I rfl (by decide) _ _ _ rfl (Z.alloc _) ⟨wr.heap.size,0,none⟩ 1 1 [.int .u8 (aaU x)] rfl rfl (cell_one_new _ _ _) (by simp [Value.oneCell']) (by unfold maxLen;omega) (by omega) (by have:=Y.size;simp;omega) ?_;intro v' w5 V U y a7))
      have z:=afW (base:=w.heap.size) Y Z U
      go_roundw
      case rel=>exact⟨k+1,by omega,by go_num,by unfold ag6;rw [C.out,ay7,ay7];exact V,z⟩
      case measure=>simp [intOf];omega
    ·
      obtain rfl:k=X:=by omega
      go_wp2;go_ret;refine⟨_,rfl,?_,Y⟩;have h:=Z;rw [axo (by rw [HL.out];exact axe _)] at h;exact h
theorem ah4 (x:Int):(Value.int .u8 x).oneCell'=true:=rfl
theorem aoN (fold:Bool)(a:Option Addr)(X H:Nat)(xs:List Int)(w:World)(D:Bys w a X xs)(I:X<=1000000) :
  Calls ZP 134 #[.bool fold,.slice a X H] w fun e w'=>∃v,e=.returned v/\ag6 w' w.heap.size v X (aai fold xs)/\Below w.heap.size w w':=by
 obtain⟨C,B,J,N,U⟩:=info_parts acy
 cases fold
 ·
  go_enter func134,ntmps134
  go_wp2_with (at_builtin;refine aba rfl _ _ 32 rfl ah4 w.heap.size 5 C (.int .u8 0) 1 underlying32 B J N U rfl _ 0 [] rfl (ayy _ _ _ _) a X H xs rfl D.1 (by unfold maxLen;omega) (by omega) (axe _) ?_;intro v' y Z Y z)
  go_ret;refine⟨_,rfl,?_,(axf _ _).grown Y (axe _) (fun k e=>by cases e)⟩
  simpa [aai,ag6] using Z
 ·
  go_enter func134,ntmps134
  go_wp2_with fail
  refine (akh a X H xs w D I).mono ?_;rintro e x ⟨v,rfl,V,A⟩;go_wp2;go_ret;exact⟨_,rfl,V,A⟩
theorem amD (fold:Bool)(a:Option Addr)(V C:Nat)(xs:List Int)(w:World)(B:Bys w a V xs)(H:V<=1000000) :
  Calls ZP 124 #[.bool fold,.slice a V C] w fun e w'=>∃v,e=.returned v/\ag6 w' w.heap.size v V (aai fold xs)/\Below w.heap.size w w':=by
 obtain⟨A,z,I,J,N⟩:=info_parts acy
 cases fold
 ·
  have D:=B.below ((axf _ _).alloc (axe _) (.cells #[] 5));have Z:ag6 (w.alloc (.cells #[] 5)) w.heap.size (.slice (some ⟨w.heap.size,0,none⟩) 0 0) 0 []:=World.ownsRow_lit w #[] 0 (axe _) (axh _) rfl;go_enter func124,ntmps124
  go_wp2_with (at_builtin;refine aba rfl _ _ 32 rfl ah4 w.heap.size 5 A (.int .u8 0) 1 underlying32 z I J N rfl _ 0 [] rfl Z a V C xs rfl D.1 (by unfold maxLen;omega) (by omega) (by simp) ?_;intro v' s Y X x)
  go_ret;refine⟨_,rfl,?_,((axf _ _).alloc (axe _) _).grown X (by simp) (fun k e=>by cases e;exact axe _)⟩
  simpa [aai,ag6] using Y
 ·
  go_enter func124,ntmps124
  go_wp2_with fail
  refine (ahn a V C xs w B H).mono ?_;rintro e o ⟨v,rfl,U,y⟩;go_wp2;go_ret;exact⟨_,rfl,U,y⟩
theorem ajk {xs ys:List Int}(X:∀x∈xs,0<=x/\x<=255)(Y:∀x∈ys,0<=x/\x<=255)(h1:(strOfNums xs).data.toList=(strOfNums ys).data.toList):xs=ys:=by
 simp only [strOfNums_data] at h1;have h2:=congrArg (List.map fun b:UInt8=>(b.toNat:Int)) h1;simp only [List.map_map] at h2;have f:∀l:List Int,(∀x∈l,0<=x/\x<=255)->l.map ((fun b:UInt8=>(b.toNat:Int)) ∘ fun n=>UInt8.ofNat n.toNat)=l:=by
  intro l V
  conv=>rhs;rw [<-List.map_id l]
  refine axD fun x Z=>?_;have:=V x Z;simp;omega
 rwa [f xs X,f ys Y] at h2
theorem abz {w:World}{a:Option Addr}{len:Nat}{xs:List Int}(h:Bys w a len xs)(cap:Nat) :
  Sem.run ZP (convert 32 9 (.slice a len cap)) w=.ok (.string (strOfNums xs)) w:=by
 obtain⟨⟨h1,h2⟩,J⟩:=h
 by_cases h0:len=0
 ·
  subst h0;have Z:xs=[]:=ayk h1;subst Z
  cases a with
  | none=>exact run_convert_bytes_nil w _ _ underlying32 underlying5 0 cap _ underlying9
  | some ad=>
   rw [run_convert_bytes_string w 32 9 _ _ 0 cap underlying32 underlying5 underlying9];have X:(loadCells ad 0).run ZP w=.ok (([]:List Int).map (Value.int .u8)).toArray w:=by
    simpa using run_loadCells_list (P:=ZP) w ad [] (fun j v V=>by simp at V)
   rw [run_bytesToString w ad 0 cap [] X]
   rfl
 · obtain⟨b,off,rfl,Y,U⟩:=h2.resolve_left h0;refine run_convert_bytes_arg w _ _ underlying32 underlying5 b off len cap xs h1 (fun i N=>?_) _ underlying9;rw [U i (xs[i]'(by omega)) (ay4 _)];simp [List.getD,ay4 (show i<xs.length by omega)]
theorem ajh {xs ys:List Int}(Y:∀x∈xs,0<=x/\x<=255)(Z:∀x∈ys,0<=x/\x<=255):((strOfNums xs).toList==(strOfNums ys).toList)=decide (xs=ys):=by
 by_cases h:xs=ys
 · subst h;simp
 · have:(strOfNums xs).toList≠(strOfNums ys).toList:=fun e=>h (ajk Y Z (by rwa [ByteArray.toList_eq,ByteArray.toList_eq] at e));simp [h,this]
theorem akS (a:Option Addr)(Z N:Nat)(xs:List Int)(w:World)(U:Bys w a Z xs)(V:Z<=1000000) :
  Calls ZP 175 #[.slice a Z N] w fun e w'=>∃X c1,e=.returned (.slice X Z c1)/\Bys w' X Z (xs.map aaU)/\Below w.heap.size w w':=
 (ahn a Z N xs w U V).mono fun e w' ⟨v,H,Y,D⟩=>by
  obtain⟨X,c1,rfl,_,h⟩:=afp Y (fun x I=>by obtain⟨y,J,rfl⟩:=axE.1 I;exact ad8 (U.2 y J));exact⟨X,c1,H,h,D⟩
theorem apg (fold:Bool)(a b:Option Addr)(X h Y j:Nat)(xs ys:List Int)(w:World)(D:Bys w a X xs)(H:Bys w b Y ys)(B:X<=1000000)(C:Y<=1000000) :
  Calls ZP 161 #[.bool fold,.slice a X h,.slice b Y j] w fun e w'=>e=.returned (.bool (abT fold xs ys))/\Below w.heap.size w w':=by
 cases fold
 · have c1:=abz D;have c2:=abz H;go_enter func161,ntmps161;go_wp2;go_ret;exact⟨by simp [abT,aai,ajh D.2 H.2],axf _ _⟩
 ·
  have J:Bys w.drew a X xs:=D;have v:Bys w.drew b Y ys:=H;go_enter func161,ntmps161;go_wp2
  go_region_with (first
   | (go_at_call 175;refine (akS a X h xs w.drew J B).mono ?_;rintro e w1 ⟨a1,c1,rfl,I,Z⟩;have a8:=abz I;have s:=v.below Z;clear J)
   | (go_at_call 175;refine (akS b Y j ys w1 s C).mono ?_;rintro e w2 ⟨a2,c2,rfl,o,N⟩;have a7:=abz (I.below N);have a6:=abz o))
  all_goals
   go_wp2;go_ret;have U:∀x∈xs.map aaU,0<=x/\x<=255:=fun x U=>by obtain⟨y,V,rfl⟩:=axE.1 U;exact ad8 (D.2 y V)
   have V:∀x∈ys.map aaU,0<=x/\x<=255:=fun x U=>by obtain⟨y,V,rfl⟩:=axE.1 U;exact ad8 (H.2 y V)
   have z:Below w.heap.size w w.drew:=⟨rfl,rfl,rfl,axe _,fun _ _=>rfl⟩;have A:Below w.heap.size w w2:=z.trans (Z.trans (N.mono Z.size));refine⟨?_,A⟩;show Ending.returned (.bool ((strOfNums (xs.map aaU)).toList==(strOfNums (ys.map aaU)).toList))=_;rw [ajh U V]
   rfl
theorem ap3 (fold:Bool)(a b:Option Addr)(U v Y cb:Nat)(xs:List Int)(wss:List (List Int))(w:World)(hA:Bys w a U xs)(H:U<=1000000)(y:Wds w b Y wss)(a1:Y<=1000000)(hM:∀x∈wss,x.length<=1000000) :
  Calls ZP 123 #[.bool fold,.slice a U v,.slice b Y cb] w fun e w'=>e=.returned (.int .i64 (aaw fold xs wss))/\Below w.heap.size w w':=by
 have s:=ax3 y.len;go_enter func123,ntmps123;go_wp2
 go_loopw [7] (fun i wr=>∃k:Nat,k<=Y/\i=.int .i64 k/\Hid (aaw fold xs (wss.take k)=-1)/\Below w.heap.size w wr) (fun i _=>Y-(intOf i).toNat)
 case atStart=>exact⟨0,axh _,rfl,by simp [Hid,ai5],axf _ _⟩
 case round=>
  obtain⟨k,hk,rfl,A,Z⟩:=hrel;have B:=hA.below Z;have C:=y.below Z
  by_cases I:k<Y
  ·
   obtain⟨bb,off,a',l,c,x,rfl,a2,D,J,z,j⟩:=C.at_ I;have N:l<=1000000:=by have:=adg hM J;rw [z.len] at this;exact this
   go_wp2_with fail
   refine (apg fold a a' U v l c xs x wr B z H N).mono ?_;rintro e o ⟨rfl,hb⟩;have X:Below w.heap.size w o:=Z.trans (hb.mono Z.size)
   cases e:abT fold xs x with
   | true=>
    have V:Hid (aaw fold xs wss=k):=by
     have h:=aie (rest:=wss.drop (k+1)) A e;rw [<-agm J] at h;rw [Hid,h,ay6,s.out];omega
    go_wp2;go_ret;exact⟨by rw [V.out];rfl,X⟩
   | false=>
    have V:Hid (aaw fold xs (wss.take (k+1))=-1):=by
     rw [aa7 J];exact aec A e
    go_wp2
    go_roundw
    case rel=>exact⟨k+1,by omega,by go_num,V,X⟩
    case measure=>simp [intOf];omega
  ·
   obtain rfl:k=Y:=by omega
   have V:Hid (aaw fold xs wss=-1):=by
    have h:=A
    rwa [axo (by rw [s.out];exact axe _)] at h
   go_wp2;go_ret;exact⟨by rw [V.out];rfl,Z⟩
def aiX:List Int->List (Bool×Int)
 | []=>[]
 | c :: cs=>(true,c) :: cs.map (fun c=>(false,c))
def abo (fold:Bool)(wss:List (List Int)):List (Bool×Int):=wss.flatMap fun w=>aiX (aai fold w)
theorem abM (ys:List Int):(aiX ys).length=ys.length:=by cases ys<;>simp [aiX]
theorem apq {ys:List Int}{i:Nat}{c:Int}(h:ys[i]?=some c):(aiX ys)[i]?=some (((i:Int)==0),c):=by
 cases ys with
 | nil=>simp at h
 | cons y ys=>
  cases i with
  | zero=>simp at h;simp [aiX,h]
  | succ i=>
   simp at h;simp [aiX,h];omega
theorem ah1 (fold:Bool)(wss:List (List Int))(x:List Int):abo fold (wss++[x])=abo fold wss++aiX (aai fold x):=by simp [abo]
theorem al6 (fold:Bool)(wss:List (List Int)){k:Nat}{x:List Int}(h:wss[k]?=some x):(abo fold (wss.take k)).length+x.length<=(abo fold wss).length:=by
 have e:=agm h;have Z:abo fold wss=abo fold (wss.take k)++(aiX (aai fold x)++abo fold (wss.drop (k+1))):=by
  conv=>lhs;rw [e]
  simp [abo]
 rw [Z];simp [abM,aas]
theorem arB {fold:Bool}{xs:List Int}{i:Nat}{c:Int}(h:xs[i]?=some c):(aai fold xs)[i]?=some (if fold then aaU c else c):=by
 rw [af8,axa,h];rfl
structure NSt where
 f:Int×Int->Option Int
 many:Int
 node:Int
def ajg (s:NSt)(p:Bool×Int):NSt:=
 let node:=if p.1 then 0 else s.node
 match s.f (node,p.2) with
 | some m=>{ s with node:=m }
 | none=>{ f:=fun q=>if q=(node,p.2) then some s.many else s.f q,many:=s.many+1,node:=s.many }
def abu (l:List (Bool×Int)):NSt:=l.foldl ajg ⟨fun _=>none,1,0⟩
theorem aeL (l:List (Bool×Int))(p:Bool×Int):abu (l++[p])=ajg (abu l) p:=by simp [abu,axJ]
theorem ael {s:NSt}{p:Bool×Int}{m:Int}(h:s.f (if p.1 then 0 else s.node,p.2)=some m):ajg s p={ s with node:=m }:=by
 unfold ajg;simp only [h]
theorem ah2 {s:NSt}{p:Bool×Int}(h:s.f (if p.1 then 0 else s.node,p.2)=none):ajg s p={ f:=fun q=>if q=(if p.1 then 0 else s.node,p.2) then some s.many else s.f q,many:=s.many+1,node:=s.many }:=by
 unfold ajg;simp only [h]
theorem auG (l:List (Bool×Int)):1<=(abu l).many/\(abu l).many<=l.length+1/\0<=(abu l).node/\(abu l).node<=l.length/\∀q m,(abu l).f q=some m->0<=m/\m<=l.length:=by
 obtain⟨n,V⟩:∃n,l.length=n:=⟨_,rfl⟩
 induction n generalizing l with
 | zero=>
  obtain rfl:=ayk V;simp [abu]
 | succ n ih=>
  obtain⟨Y,x,rfl⟩:∃Y x,l=Y++[x]:=⟨l.dropLast,l.getLast (by intro h;simp [h] at V),(ayO _).symm⟩;obtain⟨h1,h2,h3,h4,h5⟩:=ih Y (by simpa using V);rw [aeL];unfold ajg;simp only [List.length_append,axU,axV]
  cases e:(abu Y).f (if x.1=true then 0 else (abu Y).node,x.2) with
  | some m=>
   have:=h5 _ _ e;refine⟨h1,by dsimp only;omega,this.1,by dsimp only;omega,fun q k Z=>?_⟩;have:=h5 q k Z;omega
  | none=>
   refine⟨by dsimp only;omega,by dsimp only;omega,by dsimp only;omega,by dsimp only;omega,fun q k Z=>?_⟩;dsimp only at Z
   by_cases X:q=(if x.1=true then 0 else (abu Y).node,x.2)
   · rw [if_pos X] at Z;have:=awV Z;omega
   · rw [if_neg X] at Z;have:=h5 q k Z;omega
def anK (c:Int×Int×Int×Int)(x:List Int):Int×Int×Int×Int:=
 (c.1+1,c.2.1+x.length,max c.2.2.1 x.length,if c.1=0∨(x.length:Int)<c.2.2.2 then (x.length:Int) else c.2.2.2)
def cnt (wss:List (List Int)):Int×Int×Int×Int:=wss.foldl anK (0,0,0,0)
theorem aja (l:List (List Int))(x:List Int):cnt (l++[x])=anK (cnt l) x:=by simp [cnt,axJ]
theorem avP {M:Nat}(l:List (List Int))(h:∀x∈l,x.length<=M):(cnt l).1=l.length/\0<=(cnt l).2.1/\(cnt l).2.1<=l.length*(M:Int):=by
 obtain⟨n,Y⟩:∃n,l.length=n:=⟨_,rfl⟩
 induction n generalizing l with
 | zero=>
  obtain rfl:=ayk Y;simp [cnt]
 | succ n ih=>
  obtain⟨Z,x,rfl⟩:∃Z x,l=Z++[x]:=⟨l.dropLast,l.getLast (by intro h;simp [h] at Y),(ayO _).symm⟩;obtain⟨h1,h2,h3⟩:=ih Z (fun y X=>h y (by simp [X])) (by simpa using Y);have V:=h x (by simp);rw [aja];have e:((Z++[x]).length:Int)*(M:Int)=Z.length*(M:Int)+M:=by
   rw [List.length_append,axU,axV,az2,az1];simp
  rw [e];simp only [anK];refine⟨by rw [h1];simp,by omega,by omega⟩
def avb (W Y Z Sh N:Int):Nat->Bool
 | 0=>decide (W=0)
 | 1=>decide (W > 64)
 | 2=>decide (Sh=0)
 | 3=>decide (Z > 32)
 | 4=>decide (Y > 600)
 | _=>decide (N > 400)
def ad6 (f:Nat->Bool):Int:=match (List.range 6).find? f with | some k=>50+k | none=>0
theorem akD {f:Nat->Bool}{k:Nat}(Y:k<6)(h:∀j,j<k->f j=false)(Z:f k=true):ad6 f=50+k:=by
 have:(List.range 6).find? f=some k:=by
  have:k=0∨k=1∨k=2∨k=3∨k=4∨k=5:=by omega
  rcases this with rfl | rfl | rfl | rfl | rfl | rfl<;>simp [List.range,List.range.loop,List.find?,Z,h]
 simp [ad6,this]
theorem aju {f:Nat->Bool}(h:∀j,j<6->f j=false):ad6 f=0:=by
 simp [ad6,List.range,List.range.loop,List.find?,h]
def ac4 (fold:Bool)(wss:List (List Int)):Int:=ad6 (avb (cnt wss).1 (cnt wss).2.1 (cnt wss).2.2.1 (cnt wss).2.2.2 (abu (abo fold wss)).many)
section
attribute [local go_sem] Oper.semAt_some
attribute [local simp] aab aa6
attribute [local go_sem] aab aa6
theorem ahU (fold:Bool)(a:Option Addr)(Z Y:Nat)(w:World) :
  Calls ZP 293 #[.bool fold,.slice a Z Y] w fun e w'=>e=.returned (.func (.func 297) #[] #[.pointer (some ⟨w.heap.size+1,0,none⟩),.pointer (some ⟨w.heap.size,0,none⟩)])/\
   w'=(w.alloc (.cells #[.bool fold] 4)).alloc (.cells #[.slice a Z Y] 22):=by
 go_enter func293,ntmps293;go_wp2;go_ret;exact⟨rfl,rfl⟩
abbrev BgP:={ p:Bool×Int // 0<=p.2/\p.2<=255 }
def asq (p:BgP):Array Value:=#[.bool p.1.1,.int .u8 p.1.2]
theorem aqS (fold:Bool)(a:Option Addr)(H ca o p2:Nat)(wss:List (List Int))(n:Nat)(w0 w:World)(S:Nat->Prop)(hA:Wds w0 a H wss)(ah:Below w0.heap.size w0 w)(hS:∀k,k<w0.heap.size->S k)(ag:S o)(af:S p2)(ae:∀k,S k->k<w.heap.size)
  (al:H<=1000000) (hM:∀x∈wss,x.length<=1000000)
  (h1:w.heap[o]?=some (.cells #[.slice a H ca] 22 (0,0))) (h2:w.heap[p2]?=some (.cells #[.bool fold] 4 (0,0))) :
  SeqStopsK Fence.wide n ZP 297 #[.pointer (some ⟨o,0,none⟩),.pointer (some ⟨p2,0,none⟩)] asq (ab0 S) (fun zs=>zs.map Subtype.val=abo fold wss) (fun _=>True) ((abo fold wss).length+1) w:=by
 intro l J Jx W hW hJ ap hY h0;have a2:ab0 S w W:=aaQ hW ae;have cells:∀v:World,ab0 S w v->v.cell? ⟨o,0,none⟩=some (.slice a H ca)/\v.cell? ⟨p2,0,none⟩=some (.bool fold):=by
  intro v hv;have e1:v.heap[o]?=_:=(hv o ag).trans h1;have e2:v.heap[p2]?=_:=(hv p2 af).trans h2;simp [World.cell?,e1,e2]
 have a6:∀v:World,ab0 S w v->kept w0 v:=fun v hv k hk=>(hv k (hS k hk)).trans (ah.block k hk);have HL:=ax3 hA.len;have ai:=ax3 hA;clear hA;obtain⟨c1,c2⟩:=cells W a2;refine callsIn_of_wp func297 rfl trivial ?_ rfl;simp only [ntmps297,axT,axU,axV,Nat.reduceAdd,Nat.reduceSub,axW,axX,axY,axZ,ay0,ay1]
 gi_wp2
 clear c1 c2
 gi_loopw [10] (fun i wr=>∃(k:Nat) (Z:List BgP),k<=H/\i=.int .i64 k/\Hid (Z.map Subtype.val=abo fold (wss.take k))/\J Z wr/\ab0 S w wr) (fun i _=>H-(intOf i).toNat)
 case atStart=>exact⟨0,[],axh _,rfl,by simp [Hid,abo],h0,a2⟩
 case round=>
  obtain⟨k,Z,hk,rfl,D,B,I⟩:=hrel;obtain⟨c1,c2⟩:=cells wr I
  by_cases ab:k<H
  ·
   obtain⟨bb,off,a',h,c,x,rfl,ad,Y,hx,hX,ak⟩:=ai.out.at_ ab;have z:wr.cell? ⟨bb,off+k,none⟩=some (.slice a' h c):=(acC (a6 wr I) (p:=⟨bb,off+k,none⟩) ad).trans Y;have aj:h<=1000000:=by have:=adg hM hx;rw [hX.len] at this;exact this
   have HX:=ax3 hx;have N:=ax3 hX;clear Y hx hX
   gi_wp2
   gi_loopw [16] (fun i wi=>∃(j:Nat) (Z:List BgP),j<=h/\i=.int .i64 j/\Hid (Z.map Subtype.val=abo fold (wss.take k)++(aiX (aai fold x)).take j)/\J Z wi/\ab0 S w wi) (fun i _=>h-(intOf i).toNat)
   case atStart=>exact⟨0,Z,axh _,rfl,by simpa [Hid] using D,B,I⟩
   case round=>
    clear D B I c1 c2 z;obtain⟨j,Z,am,rfl,D,B,U⟩:=hrel;obtain⟨c1,c2⟩:=cells wr U
    by_cases a7:j<h
    ·
     obtain⟨y,hy⟩:∃y,x[j]?=some y:=⟨x[j]'(by rw [N.out.len];exact a7),by simp⟩;obtain⟨aa,oy,rfl,ac,a1⟩:=N.out.1.2.resolve_left (by omega);have X:=N.out.2 y (ay9 hy);have a8:=ad8 X;have ao:wr.cell? ⟨aa,oy+j,none⟩=some (.int .u8 y):=(acC (a6 wr U) (p:=⟨aa,oy+j,none⟩) ac).trans (a1 j y hy);have V:Z.length<(abo fold wss).length+1:=by
      have h1:=congrArg List.length D.out;have h2:=al6 fold wss HX.out;simp [abM,aas] at h1;have:=N.out.len;omega
     have HB:=ax3 (apq (arB (fold:=fold) hy));clear hy a1
     cases fold
     ·
      obtain⟨fn,tmps,assign,body,C,s⟩:=hY Z ⟨(((j:Int)==0),y),X⟩ wr B V;have HS:Hid ((Z++[(⟨(((j:Int)==0),y),X⟩:BgP)]).map Subtype.val=abo false (wss.take k)++(aiX (aai false x)).take (j+1)):=by
       rw [aa7 HB.out,<-ayi,<-D.out];simp [Hid]
      dsimp only [asq] at C
      gi_wp2
      refine s.mono ?_;rintro e W4 (⟨rfl,hJ4,hk4⟩ | ⟨rfl,hJx4⟩)
      ·
       gi_wp2
       go_roundw
       case rel=>exact⟨j+1,_,by omega,by go_num,HS,hJ4,abp U hk4⟩
       case measure=>simp [intOf];omega
      ·
       gi_wp2
       refine bodyPost_ret (results_none rfl _ _ _) rfl ?_;exact⟨⟨_,rfl⟩,.inr ⟨_,trivial,hJx4⟩⟩
     ·
      obtain⟨fn,tmps,assign,body,C,s⟩:=hY Z ⟨(((j:Int)==0),aaU y),a8⟩ wr B V;have HS:Hid ((Z++[(⟨(((j:Int)==0),aaU y),a8⟩:BgP)]).map Subtype.val=abo true (wss.take k)++(aiX (aai true x)).take (j+1)):=by
       rw [aa7 HB.out,<-ayi,<-D.out];simp [Hid]
      dsimp only [asq] at C
      gi_wp2_with fail
      refine (callsIn_wide.2 (ajC y wr X.1 X.2)).mono ?_;rintro e W3 ⟨rfl,rfl⟩
      gi_wp2
      refine s.mono ?_;rintro e W4 (⟨rfl,hJ4,hk4⟩ | ⟨rfl,hJx4⟩)
      ·
       gi_wp2
       go_roundw
       case rel=>exact⟨j+1,_,by omega,by go_num,HS,hJ4,abp U hk4⟩
       case measure=>simp [intOf];omega
      ·
       gi_wp2
       refine bodyPost_ret (results_none rfl _ _ _) rfl ?_;exact⟨⟨_,rfl⟩,.inr ⟨_,trivial,hJx4⟩⟩
    ·
     obtain rfl:j=h:=by omega
     gi_wp2
     go_roundw
     case rel=>
      refine⟨k+1,Z,by omega,by go_num,?_,B,U⟩;have A:(aiX (aai fold x)).take j=aiX (aai fold x):=axo (by rw [abM,aas,N.out.len];exact axe _);rw [Hid,D.out,aa7 HX.out,ah1,A]
     case measure=>simp [intOf];omega
  ·
   obtain rfl:k=H:=by omega
   gi_wp2
   go_end0
   refine⟨⟨_,rfl⟩,.inl ⟨Z,?_,B⟩⟩;show Z.map Subtype.val=abo fold wss;rw [D.out,axo (by have:=HL.out;omega)]
end
section
open Go.RowKit Go.Sort Go.Maps
attribute [local go_sem] Oper.semAt_some
attribute [local simp] aab aa6
attribute [local go_sem] aab aa6
theorem atm:laidOutB ZP=true:=by kernel_rfl
theorem acp:Keyed ZP 394:=Keyed.of_law (deep_law_laid atm (m:=ZP.types.size+1) (of_decide_eq_true (by kernel_rfl)) (of_decide_eq_true (by kernel_rfl)) (by kernel_rfl) (by kernel_rfl))
theorem agd (w:World):(zeroValue 3).run ZP w=.ok (.int .i64 0) w:=by kernel_rfl
theorem awx (n c:Int)(H:-9223372036854775808<=n/\n<=9223372036854775807)(D:0<=c/\c<=255):∃X,keyOf ZP 394 (.agg #[.int .i64 n,.int .u8 c])=some X:=by
 have U:ZP.keyType 394=true:=by kernel_rfl
 have h0:0<ZP.types.size:=of_decide_eq_true (by kernel_rfl);obtain⟨m,V⟩:∃m,ZP.types.size+1=m+1+1:=⟨ZP.types.size-1,by omega⟩;have I:ZP.cellsOf 394=2:=by kernel_rfl
 have J:ZP.cellsOf 3=1:=by kernel_rfl
 have N:ZP.cellsOf 5=1:=by kernel_rfl
 have Y:(Lit.int .i64 n).wf=true:=by simp [Lit.wf,IntKind.min,IntKind.max,IntKind.signed,IntKind.bits];omega
 have Z:(Lit.int .u8 c).wf=true:=by simp [Lit.wf,IntKind.min,IntKind.max,IntKind.signed,IntKind.bits];omega
 unfold keyOf;rw [underlying394,V];refine⟨.string (keyBytes [.int .i64 n,.int .u8 c]),?_⟩;simp [U,Value.formed,Value.cells,Program.keyLits,underlying394,underlying3,underlying5,I,J,N,Y,Z]
def KM (D:DataW Unit)(f:Int×Int->Option Int):Prop:=IsMap D/\∀n c Z,0<=n->n<=2000000->0<=c->c<=255->keyOf ZP 394 (.agg #[.int .i64 n,.int .u8 c])=some Z->
 Maps.has D Z=(f (n,c)).isSome/\∀m,f (n,c)=some m->D.atKey Z (.lit (.int .i64 0))=.lit (.int .i64 m)
theorem KM.start:KM (.map []) (fun _=>none):=⟨isMap_empty,fun n c Z _ _ _ _ _=>⟨rfl,fun m h=>by cases h⟩⟩
theorem KM.put {D:DataW Unit}{f:Int×Int->Option Int}(h:KM D f){n c m:Int}{U:Lit}(J:keyOf ZP 394 (.agg #[.int .i64 n,.int .u8 c])=some U) :
  KM (D.put U (.lit (.int .i64 m))) (fun q=>if q=(n,c) then some m else f q):=by
 have X:=acp.key J;refine⟨h.1.put _ _,fun I C Y B a2 a3 a4 Z=>?_⟩
 by_cases e:Y=U
 · subst e;have:=acp.inj Z J;simp only [Value.agg.injEq,Array.mk.injEq,axF,Value.int.injEq,true_and,and_true] at this;obtain⟨rfl,rfl⟩:=this;refine⟨by rw [has_put_same h.1 X];simp,fun k V=>?_⟩;simp only [if_true] at V;obtain rfl:=awV V;rw [atKey_put_same h.1 X]
 ·
  have N:¬((I,C)=(n,c)):=by
   intro H;simp only [ayU] at H;obtain⟨rfl,rfl⟩:=H;rw [J] at Z;exact e (awV Z).symm
  simp only [if_neg N];obtain⟨h1,h2⟩:=h.2 I C Y B a2 a3 a4 Z;refine⟨by rw [has_put_other e,h1],fun k V=>?_⟩;rw [atKey_put_other e,h2 k V]
theorem agI {W:World}{b n g:Nat}{D:DataW Unit}{P:Program}{k:TypeId}{R:Value->Option (DataW Unit×List MemPlace)}(h:W.ownsMap P k R b n D)(Z:b≠g)(u:Value):(W.setCell ⟨g,0,none⟩ u).ownsMap P k R b n D:=
 h.kept (grownBy_setCell' W g u) (fun e=>Z (by injection e))
theorem av5 {B b:Nat}{P:Program}{k:TypeId}{R:Value->Option (DataW Unit×List MemPlace)}(V:b<B){β:Type}(f:β->Nat)(p:β->DataW Unit->Prop):OwnFrom B (fun s W=>∃D,W.ownsMap P k R b (f s) D/\p s D):=
 fun s A C row ⟨D,h,Y⟩ X Z=>⟨D,h.kept X (fun e=>by have:=(Z _ e.symm).1;omega),Y⟩
theorem akH {W:World}{k:Nat}(h:W.heap.size=k)(t:TypeId)(v:Value):Boxed (W.alloc (.cells #[v] t)) k t v:=h ▸ Boxed.new W t v
theorem acj (W:World)(g:Nat)(u:Value):W.grownBy (W.setCell ⟨g,0,none⟩ u) (some g):=grownBy_setCell' W g u
structure Tn (n:Nat)(W W':World):Prop where
 os:W'.os=W.os
 tape:W'.tape=W.tape
 output:W'.output=W.output
 size:W.heap.size<=W'.heap.size
 block:∀k,k<W.heap.size->k<n∨n+1+1+1<k∨k=n+1->W'.heap[k]?=W.heap[k]?
theorem Tn.refl (n:Nat)(W:World):Tn n W W:=⟨rfl,rfl,rfl,axe _,fun _ _ _=>rfl⟩
theorem Tn.grown {n:Nat}{A B C:World}{row:Option Nat}(h:Tn n A B)(Z:B.grownBy C row)(X:∀k,row=some k->k=n∨k=n+1+1∨k=n+1+1+1):Tn n A C:=
 ⟨Z.os.trans h.os,Z.tape.trans h.tape,Z.output.trans h.output,awT h.size Z.size,fun k Y ho=>(Z.block k (ax6 Y h.size) (fun e=>by have:=X k e.symm;omega)).trans (h.block k Y ho)⟩
theorem Tn.below {n:Nat}{w A B:World}(h:Tn n A B)(Z:Below n w A)(X:n<=A.heap.size):Below n w B:=
 ⟨h.os.trans Z.os,h.tape.trans Z.tape,h.output.trans Z.output,awT Z.size h.size,fun k Y=>(h.block k (ax6 Y X) (.inl Y)).trans (Z.block k Y)⟩
theorem Tn.keeps {n B:Nat}{A C:World}(h:Tn n A C)(Y:n+1+1+1<B):KeepsFrom B A C:=
 ⟨h.size,fun k o Z ho _=>(h.block k (awU.1 ho).1 (.inr (.inl (by omega)))).trans ho⟩
theorem apP (fold:Bool)(a:Option Addr)(la ca:Nat)(wss:List (List Int))(w:World)(hA:Wds w a la wss)(al:la<=1000000)(hM:∀x∈wss,x.length<=1000000)(hT:(abo fold wss).length<=1000000) :
    Calls ZP 286 #[.bool fold,.slice a la ca] w fun e w'=>e=.returned (.int .i64 (abu (abo fold wss)).many)/\Below w.heap.size w w':=by
  have au:=@run_makeMap ZP;refine aau func286 rfl ?_;simp only [ntmps286,axT,axU,axV,Nat.reduceAdd,Nat.reduceSub,axW,axX,axY,axZ,ay0,ay1]
  go_wp2_with (go_at_call 293;refine (ahU _ _ _ _ _).mono ?_;rintro e w' ⟨rfl,rfl⟩)
  obtain⟨j,J⟩:∃j,j=((((((w.alloc (.map #[] 0)).alloc (.cells #[.map (some w.heap.size)] 389)).alloc (.cells #[.int .i64 1] 3)).alloc (.cells #[.int .i64 0] 3)).alloc (.cells #[.bool fold] 4)).alloc (.cells #[.slice a la ca] 22)):=⟨_,rfl⟩;rw [<-J];have m0:j.ownsMap ZP 394 (plainElem ZP 3) w.heap.size 0 (.map []:DataW Unit):=by
    rw [J];exact (((((ayV w ZP 394 (plainElem ZP 3)).alloc _).alloc _).alloc _).alloc _).alloc _
  have b1:Boxed j (w.heap.size+1) 389 (.map (some w.heap.size)):=by
    rw [J];exact ((((akH (by simp) _ _).alloc _).alloc _).alloc _).alloc _
  have b2:Boxed j (w.heap.size+1+1) 3 (.int .i64 1):=by
    rw [J];exact (((akH (by simp) _ _).alloc _).alloc _).alloc _
  have b3:Boxed j (w.heap.size+1+1+1) 3 (.int .i64 0):=by
    rw [J];exact ((akH (by simp) _ _).alloc _).alloc _
  have b4:Boxed j (w.heap.size+1+1+1+1) 4 (.bool fold):=by
    rw [J];exact (akH (by simp) _ _).alloc _
  have b5:Boxed j (w.heap.size+1+1+1+1+1) 22 (.slice a la ca):=by
    rw [J];exact akH (by simp) _ _
  have aj:Below w.heap.size w j:=by
    rw [J];exact ((((((axf _ _).alloc (axe _) _).alloc (by simp) _).alloc (by simp;omega) _).alloc (by simp;omega) _).alloc (by simp;omega) _).alloc (by simp;omega) _
  have ar:j.heap.size=w.heap.size+1+1+1+1+1+1:=by rw [J];simp
  clear J
  apply ait rfl (enters_of func297 (by kernel_rfl) rfl) (aqS fold a la ca (w.heap.size+1+1+1+1+1) (w.heap.size+1+1+1+1) wss 8 w j (fun k=>k<w.heap.size∨k=w.heap.size+1+1+1+1+1∨k=w.heap.size+1+1+1+1) hA aj (fun k hk=>.inl hk) (.inr (.inl rfl)) (.inr (.inr rfl)) (by intro k hk;omega) al hM b5 b4)
    abp (ad2 (by intro k hk;omega)) (fun _=>rfl)
    (fun Z W=>Boxed W (w.heap.size+1) 389 (.map (some w.heap.size))/\Boxed W (w.heap.size+1+1) 3 (.int .i64 (abu (Z.map Subtype.val)).many)/\Boxed W (w.heap.size+1+1+1) 3 (.int .i64 (abu (Z.map Subtype.val)).node)/\
      (∃D:DataW Unit,W.ownsMap ZP 394 (plainElem ZP 3) w.heap.size Z.length D/\KM D (abu (Z.map Subtype.val)).f)/\Below w.heap.size w W/\j.heap.size<=W.heap.size)
    (fun _ _ _=>False)
  case hI=>exact OwnFrom.and (Own.from (boxed_own _ _ _) _) (OwnFrom.and (Own.from (boxed_own _ _ _) _) (OwnFrom.and (Own.from (boxed_own _ _ _) _) (OwnFrom.and (av5 (by omega) _ (fun (Z:List BgP) D=>KM D (abu (Z.map Subtype.val)).f)) (OwnFrom.and (ownFrom_below (axe _) (by omega)) (af9 _ _)))))
  case hIx=>exact fun _ _ _ _ _ hs _ _=>hs
  case h0=>exact⟨b1,b2,b3,⟨_,m0,KM.start⟩,aj,axe _⟩
  case hassign=>
    intro l x W K hK;unfold asq
    gi_wp2
    exact hK
  case hbody=>
    rintro l Z ⟨⟨first,c⟩,I,v⟩ W ⟨a8,H,s,⟨D,ad,o⟩,hB,hs⟩ aq;dsimp only at I v ⊢;obtain⟨g1,g2,g3,g4,_⟩:=auG (Z.map Subtype.val);rw [ayq] at g2 g4;have ag:(Lit.int .i64 (abu (Z.map Subtype.val)).many).wf=true:=by simp [Lit.wf,IntKind.min,IntKind.max,IntKind.signed,IntKind.bits];omega
    cases first with
      | true=>
        have X:(W.setCell ⟨w.heap.size+1+1+1,0,none⟩ (.int .i64 0)).ownsMap ZP 394 (plainElem ZP 3) w.heap.size Z.length D:=agI ad (by omega) _;have a7:Boxed (W.setCell ⟨w.heap.size+1+1+1,0,none⟩ (.int .i64 0)) (w.heap.size+1) 389 (.map (some w.heap.size)):=a8.other (by omega) _;have a6:Boxed (W.setCell ⟨w.heap.size+1+1+1,0,none⟩ (.int .i64 0)) (w.heap.size+1+1) 3 (.int .i64 (abu (Z.map Subtype.val)).many):=H.other (by omega) _;have a2:Boxed (W.setCell ⟨w.heap.size+1+1+1,0,none⟩ (.int .i64 0)) (w.heap.size+1+1+1) 3 (.int .i64 0):=s.set _;have z:W.grownBy (W.setCell ⟨w.heap.size+1+1+1,0,none⟩ (.int .i64 0)) (some (w.heap.size+1+1+1)):=acj _ _ _;have ak:W.heap.size<=(W.setCell ⟨w.heap.size+1+1+1,0,none⟩ (.int .i64 0)).heap.size:=z.size;have a1:=v;obtain⟨kl,U⟩:=awx 0 c (by omega) ⟨I,v⟩;obtain⟨V,N⟩:=o.2 0 c kl (by omega) (by omega) I v U;have q1:=a7.alloc (.cells #[.int .i64 0,.int .u8 c] 394);have q2:=a6.alloc (.cells #[.int .i64 0,.int .u8 c] 394);have q3:=a2.alloc (.cells #[.int .i64 0,.int .u8 c] 394);have ah:=a8.cell;have ai:=H.cell;have ap:=s.cell;have ao:=H.frozen;have am:=s.frozen;have r1:=q1.cell;have r2:=q2.cell;have r3:=q3.cell;have s2:=q2.frozen;have s3:=q3.frozen;have ac:=ax3 (aeL (Z.map Subtype.val) (true,c))
        cases y:(abu (Z.map Subtype.val)).f (0,c) with
        | some m=>
          have HF:=ax3 y;rw [y] at V;have aa:=N m y;clear y N
          gi_wp2_with (gi_at_lookup;refine wpListIn_lookup_own_ok_int _ rfl _ _ 389 rfl 394 3 .i64 acp underlying389 underlying3 (agd _) w.heap.size Z.length D rfl (X.alloc _) _ kl rfl U ?_;intro c' ab af;rw [V])
          obtain rfl:c'=m:=by
            have hh:=ab.symm.trans aa
            simpa using hh
          have HN:Hid (abu ((Z++[(⟨(true,c),I,a1⟩:BgP)]).map Subtype.val)={ abu (Z.map Subtype.val) with node:=c' }):=by
            rw [ay7,ax0,ax1,ac.out,ael (by simpa using HF.out)]
            rfl
          have T:=(((Tn.refl w.heap.size W).grown z (fun k e=>by first | (cases e;omega) | cases e)).grown (ayl _ (.cells #[.int .i64 0,.int .u8 c] 394) none) (fun k e=>by cases e)).grown (acj _ (w.heap.size+1+1+1) (.int .i64 c')) (fun k e=>by cases e;omega);refine⟨T.keeps (by omega),fun k hk=>T.block k (by omega) (by omega),?_⟩;dsimp only;rw [HN.out];exact⟨q1.other (by omega) _,q2.other (by omega) _,q3.set _,⟨D,by rw [List.length_append];exact (agI (X.alloc _) (by omega) _).mono (Nat.le_succ _),o⟩,T.below hB (by omega),by have:=T.size;omega⟩
        | none=>
          have HF:=ax3 y;rw [y] at V;clear y N
          gi_wp2_with (first
            | (gi_at_lookup;refine wpListIn_lookup_own_ok_int _ rfl _ _ 389 rfl 394 3 .i64 acp underlying389 underlying3 (agd _) w.heap.size Z.length D rfl (X.alloc _) _ kl rfl U ?_;intro c' ab af;rw [V])
            | (gi_at_mapUpdate;refine wpListIn_mapUpdate_own _ rfl _ _ _ 389 rfl 394 3 acp underlying389 _ w.heap.size Z.length D rfl (X.alloc _) (by unfold maxLen;omega) _ _ kl rfl rfl U _ [] (plainElem_int underlying3 ag) ?_;intro w5 A Y
               have ae:=q1.kept Y (by intro e;injection e;omega);have B:=q2.kept Y (by intro e;injection e;omega);have C:=q3.kept Y (by intro e;injection e;omega);have t2:=B.cell;have t3:=C.cell;have u2:=B.frozen;have u3:=C.frozen)
            | gi_in)
          have HN:Hid (abu ((Z++[(⟨(true,c),I,a1⟩:BgP)]).map Subtype.val)={ f:=fun q=>if q=(0,c) then some (abu (Z.map Subtype.val)).many else (abu (Z.map Subtype.val)).f q,many:=(abu (Z.map Subtype.val)).many+1,node:=(abu (Z.map Subtype.val)).many }):=by
            rw [ay7,ax0,ax1,ac.out,ah2 (by simpa using HF.out)]
            rfl
          have T:=(((((Tn.refl w.heap.size W).grown z (fun k e=>by first | (cases e;omega) | cases e)).grown (ayl _ (.cells #[.int .i64 0,.int .u8 c] 394) none) (fun k e=>by cases e)).grown Y (fun k e=>by cases e;omega)).grown (acj _ (w.heap.size+1+1) (.int .i64 ((abu (Z.map Subtype.val)).many+1))) (fun k e=>by cases e;omega)).grown (acj _ (w.heap.size+1+1+1) (.int .i64 (abu (Z.map Subtype.val)).many)) (fun k e=>by cases e;omega);refine⟨T.keeps (by omega),fun k hk=>T.block k (by omega) (by omega),?_⟩;dsimp only;rw [HN.out];exact⟨(ae.other (by omega) _).other (by omega) _,(B.set _).other (by omega) _,(C.other (by omega) _).set _,⟨_,by rw [List.length_append];exact agI (agI A (by omega) _) (by omega) _,o.put U⟩,T.below hB (by omega),by have:=T.size;omega⟩
      | false=>
        have X:W.ownsMap ZP 394 (plainElem ZP 3) w.heap.size Z.length D:=ad;have a7:Boxed W (w.heap.size+1) 389 (.map (some w.heap.size)):=a8;have a6:Boxed W (w.heap.size+1+1) 3 (.int .i64 (abu (Z.map Subtype.val)).many):=H;have a2:Boxed W (w.heap.size+1+1+1) 3 (.int .i64 (abu (Z.map Subtype.val)).node):=s;have z:W.grownBy W (some (w.heap.size+1+1+1)):=World.grownBy.refl W _;have ak:W.heap.size<=W.heap.size:=z.size;have a1:=v;obtain⟨kl,U⟩:=awx (abu (Z.map Subtype.val)).node c (by omega) ⟨I,v⟩;obtain⟨V,N⟩:=o.2 (abu (Z.map Subtype.val)).node c kl (by omega) (by omega) I v U;have q1:=a7.alloc (.cells #[.int .i64 (abu (Z.map Subtype.val)).node,.int .u8 c] 394);have q2:=a6.alloc (.cells #[.int .i64 (abu (Z.map Subtype.val)).node,.int .u8 c] 394);have q3:=a2.alloc (.cells #[.int .i64 (abu (Z.map Subtype.val)).node,.int .u8 c] 394);have ah:=a8.cell;have ai:=H.cell;have ap:=s.cell;have ao:=H.frozen;have am:=s.frozen;have r1:=q1.cell;have r2:=q2.cell;have r3:=q3.cell;have s2:=q2.frozen;have s3:=q3.frozen;have ac:=ax3 (aeL (Z.map Subtype.val) (false,c))
        cases y:(abu (Z.map Subtype.val)).f ((abu (Z.map Subtype.val)).node,c) with
        | some m=>
          have HF:=ax3 y;rw [y] at V;have aa:=N m y;clear y N
          gi_wp2_with (gi_at_lookup;refine wpListIn_lookup_own_ok_int _ rfl _ _ 389 rfl 394 3 .i64 acp underlying389 underlying3 (agd _) w.heap.size Z.length D rfl (X.alloc _) _ kl rfl U ?_;intro c' ab af;rw [V])
          obtain rfl:c'=m:=by
            have hh:=ab.symm.trans aa
            simpa using hh
          have HN:Hid (abu ((Z++[(⟨(false,c),I,a1⟩:BgP)]).map Subtype.val)={ abu (Z.map Subtype.val) with node:=c' }):=by
            rw [ay7,ax0,ax1,ac.out,ael (by simpa using HF.out)]
            rfl
          have T:=(((Tn.refl w.heap.size W).grown z (fun k e=>by first | (cases e;omega) | cases e)).grown (ayl _ (.cells #[.int .i64 (abu (Z.map Subtype.val)).node,.int .u8 c] 394) none) (fun k e=>by cases e)).grown (acj _ (w.heap.size+1+1+1) (.int .i64 c')) (fun k e=>by cases e;omega);refine⟨T.keeps (by omega),fun k hk=>T.block k (by omega) (by omega),?_⟩;dsimp only;rw [HN.out];exact⟨q1.other (by omega) _,q2.other (by omega) _,q3.set _,⟨D,by rw [List.length_append];exact (agI (X.alloc _) (by omega) _).mono (Nat.le_succ _),o⟩,T.below hB (by omega),by have:=T.size;omega⟩
        | none=>
          have HF:=ax3 y;rw [y] at V;clear y N
          gi_wp2_with (first
            | (gi_at_lookup;refine wpListIn_lookup_own_ok_int _ rfl _ _ 389 rfl 394 3 .i64 acp underlying389 underlying3 (agd _) w.heap.size Z.length D rfl (X.alloc _) _ kl rfl U ?_;intro c' ab af;rw [V])
            | (gi_at_mapUpdate;refine wpListIn_mapUpdate_own _ rfl _ _ _ 389 rfl 394 3 acp underlying389 _ w.heap.size Z.length D rfl (X.alloc _) (by unfold maxLen;omega) _ _ kl rfl rfl U _ [] (plainElem_int underlying3 ag) ?_;intro w5 A Y
               have ae:=q1.kept Y (by intro e;injection e;omega);have B:=q2.kept Y (by intro e;injection e;omega);have C:=q3.kept Y (by intro e;injection e;omega);have t2:=B.cell;have t3:=C.cell;have u2:=B.frozen;have u3:=C.frozen)
            | gi_in)
          have HN:Hid (abu ((Z++[(⟨(false,c),I,a1⟩:BgP)]).map Subtype.val)={ f:=fun q=>if q=((abu (Z.map Subtype.val)).node,c) then some (abu (Z.map Subtype.val)).many else (abu (Z.map Subtype.val)).f q,many:=(abu (Z.map Subtype.val)).many+1,node:=(abu (Z.map Subtype.val)).many }):=by
            rw [ay7,ax0,ax1,ac.out,ah2 (by simpa using HF.out)]
            rfl
          have T:=(((((Tn.refl w.heap.size W).grown z (fun k e=>by first | (cases e;omega) | cases e)).grown (ayl _ (.cells #[.int .i64 (abu (Z.map Subtype.val)).node,.int .u8 c] 394) none) (fun k e=>by cases e)).grown Y (fun k e=>by cases e;omega)).grown (acj _ (w.heap.size+1+1) (.int .i64 ((abu (Z.map Subtype.val)).many+1))) (fun k e=>by cases e;omega)).grown (acj _ (w.heap.size+1+1+1) (.int .i64 (abu (Z.map Subtype.val)).many)) (fun k e=>by cases e;omega);refine⟨T.keeps (by omega),fun k hk=>T.block k (by omega) (by omega),?_⟩;dsimp only;rw [HN.out];exact⟨(ae.other (by omega) _).other (by omega) _,(B.set _).other (by omega) _,(C.other (by omega) _).set _,⟨_,by rw [List.length_append];exact agI (agI A (by omega) _) (by omega) _,o.put U⟩,T.below hB (by omega),by have:=T.size;omega⟩
  case hdone=>
    rintro D xs W hD hS ⟨a8,H,s,hm,hB,hs⟩ hK;have ai:=H.cell;go_wp2;refine ar0 rfl hK (results_tmp rfl _ _ _) ⟨?_,aaS hB (by omega) (axe _) _⟩;rw [<-hS]
    rfl
  case hstop=>exact fun _ _ _ _ _ _ h _=>h.elim
end
abbrev anJ (W Bs Lg Sh:Int)(f Z:Value):Array Value:=#[.int .i64 W,.int .i64 Bs,.int .i64 Lg,.int .i64 Sh,f,Z]
theorem abL {w:World}{b:Nat}{t:TypeId}{W Bs Lg Sh:Int}{f Z:Value}(h:w.heap[b]?=some (.cells (anJ W Bs Lg Sh f Z) t (0,0))) :
  w.cell? ⟨b,0,none⟩=some (.int .i64 W)/\w.cell? ⟨b,1,none⟩=some (.int .i64 Bs)/\w.cell? ⟨b,2,none⟩=some (.int .i64 Lg)/\w.cell? ⟨b,3,none⟩=some (.int .i64 Sh)/\w.cell? ⟨b,4,none⟩=some f/\w.cell? ⟨b,5,none⟩=some Z/\
  w.frozen? ⟨b,0,none⟩=false/\w.frozen? ⟨b,1,none⟩=false/\w.frozen? ⟨b,2,none⟩=false/\w.frozen? ⟨b,3,none⟩=false:=by
 simp [World.cell?,World.frozen?,h]
theorem aa4 {w:World}{b i:Nat}{cs:Array Value}{t:TypeId}(h:w.heap[b]?=some (.cells cs t (0,0)))(u:Value):(w.setCell ⟨b,i,none⟩ u).heap[b]?=some (.cells (cs.setIfInBounds i u) t (0,0)):=by
 simp [World.setCell,axy,h]
theorem aa9 (W:World)(g i:Nat)(u:Value):W.grownBy (W.setCell ⟨g,i,none⟩ u) (some g):=
 ⟨rfl,rfl,rfl,by simp [World.setCell],fun k _ Z=>axn W ⟨g,i,none⟩ u k (by intro e;exact Z (by rw [e]))⟩
theorem aqD (b:Nat)(W Bs Lg Sh:Int)(f X:Value)(a:Option Addr)(l c:Nat)(w:World)(hb:w.heap[b]?=some (.cells (anJ W Bs Lg Sh f X) 348 (0,0)))
  (h1:0<=W) (h2:W<=1000000) (h3:0<=Bs) (h4:Bs<=1000000000000) (h5:l<=1000000) :
  Calls ZP 254 #[.pointer (some ⟨b,0,none⟩),.slice a l c] w fun e w'=>(∃v,e=.returned v)/\
   w'.heap[b]?=some (.cells (anJ (W+1) (Bs+l) (max Lg l) (if W=0∨(l:Int)<Sh then l else Sh) f X) 348 (0,0))/\w.grownBy w' (some b):=by
 obtain⟨c0,c1,c2,c3,c4,c5,I,J,N,U⟩:=abL hb;obtain⟨M,Z⟩:∃M,(if W=0∨(l:Int)<Sh then (l:Int) else Sh)=M:=⟨_,rfl⟩;have Y:Hid ((if W=0∨(l:Int)<Sh then (l:Int) else Sh)=M):=Z;rw [Z];clear Z
 by_cases hW:W=0
 ·
  subst hW;obtain rfl:(l:Int)=M:=by rw [<-Y.out,if_pos (.inl rfl)]
  go_enter func254,ntmps254;go_wp2
  go_end0
  refine⟨⟨_,rfl⟩,?_,(((aa9 _ _ _ _).trans (aa9 _ _ _ _)).trans (aa9 _ _ _ _)).trans (aa9 _ _ _ _)⟩
  simpa using aa4 (i:=1) (aa4 (i:=0) (aa4 (i:=2) (aa4 (i:=3) hb (.int .i64 l)) (.int .i64 (max Lg l))) (.int .i64 1)) (.int .i64 (Bs+l))
 ·
  by_cases V:(l:Int)<Sh
  ·
   obtain rfl:(l:Int)=M:=by rw [<-Y.out,if_pos (.inr V)]
   go_enter func254,ntmps254;go_wp2
   go_end0
   refine⟨⟨_,rfl⟩,?_,(((aa9 _ _ _ _).trans (aa9 _ _ _ _)).trans (aa9 _ _ _ _)).trans (aa9 _ _ _ _)⟩
   simpa using aa4 (i:=1) (aa4 (i:=0) (aa4 (i:=2) (aa4 (i:=3) hb (.int .i64 l)) (.int .i64 (max Lg l))) (.int .i64 (W+1))) (.int .i64 (Bs+l))
  ·
   obtain rfl:Sh=M:=by rw [<-Y.out,if_neg (by omega)]
   go_enter func254,ntmps254;go_wp2
   go_end0
   refine⟨⟨_,rfl⟩,?_,((aa9 _ _ _ _).trans (aa9 _ _ _ _)).trans (aa9 _ _ _ _)⟩
   simpa using aa4 (i:=1) (aa4 (i:=0) (aa4 (i:=2) hb (.int .i64 (max Lg l))) (.int .i64 (W+1))) (.int .i64 (Bs+l))
def afY:Nat->FuncId
 | 0=>280
 | 1=>281
 | 2=>282
 | 3=>283
 | 4=>284
 | _=>285
theorem ajO (k:Nat)(args:Array Value)(w:World):Sem.run ZP (callFunc (afY k) args) w=.ok (.enter (afY k) args) w:=by
 unfold afY
 split
 · exact enters_of func280 (by kernel_rfl) rfl args w
 · exact enters_of func281 (by kernel_rfl) rfl args w
 · exact enters_of func282 (by kernel_rfl) rfl args w
 · exact enters_of func283 (by kernel_rfl) rfl args w
 · exact enters_of func284 (by kernel_rfl) rfl args w
 · exact enters_of func285 (by kernel_rfl) rfl args w
section
variable (p b:Nat)(W Bs Lg Sh:Int)(fold:Bool)(a:Option Addr)(la ca:Nat)(w:World)(hp:Boxed w p 380 (.pointer (some ⟨b,0,none⟩)))(hb:w.heap[b]?=some (.cells (anJ W Bs Lg Sh (.bool fold) (.slice a la ca)) 348 (0,0)))
include hp hb
theorem arE:Calls ZP 280 #[.pointer (some ⟨p,0,none⟩)] w fun e w'=>e=.returned (.bool (decide (W=0)))/\w=w':=by
 have U:=hp.cell;obtain⟨c0,c1,c2,c3,c4,c5,V,X,Y,Z⟩:=abL hb;go_enter func280,ntmps280;go_wp2;go_ret;exact⟨rfl,rfl⟩
theorem as4:Calls ZP 281 #[.pointer (some ⟨p,0,none⟩)] w fun e w'=>e=.returned (.bool (decide (W > 64)))/\w=w':=by
 have U:=hp.cell;obtain⟨c0,c1,c2,c3,c4,c5,V,X,Y,Z⟩:=abL hb;go_enter func281,ntmps281;go_wp2;go_ret;exact⟨rfl,rfl⟩
theorem asu:Calls ZP 282 #[.pointer (some ⟨p,0,none⟩)] w fun e w'=>e=.returned (.bool (decide (Sh=0)))/\w=w':=by
 have U:=hp.cell;obtain⟨c0,c1,c2,c3,c4,c5,V,X,Y,Z⟩:=abL hb;go_enter func282,ntmps282;go_wp2;go_ret;exact⟨rfl,rfl⟩
theorem ate:Calls ZP 283 #[.pointer (some ⟨p,0,none⟩)] w fun e w'=>e=.returned (.bool (decide (Lg > 32)))/\w=w':=by
 have U:=hp.cell;obtain⟨c0,c1,c2,c3,c4,c5,V,X,Y,Z⟩:=abL hb;go_enter func283,ntmps283;go_wp2;go_ret;exact⟨rfl,rfl⟩
theorem as6:Calls ZP 284 #[.pointer (some ⟨p,0,none⟩)] w fun e w'=>e=.returned (.bool (decide (Bs > 600)))/\w=w':=by
 have U:=hp.cell;obtain⟨c0,c1,c2,c3,c4,c5,V,X,Y,Z⟩:=abL hb;go_enter func284,ntmps284;go_wp2;go_ret;exact⟨rfl,rfl⟩
theorem arQ (wss:List (List Int))(U:Wds w a la wss)(Y:la<=1000000)(V:∀x∈wss,x.length<=1000000)(X:(abo fold wss).length<=1000000) :
  Calls ZP 285 #[.pointer (some ⟨p,0,none⟩)] w fun e w'=>e=.returned (.bool (decide ((abu (abo fold wss)).many > 400)))/\Below w.heap.size w w':=by
 have J:=hp.cell;obtain⟨c0,c1,c2,c3,c4,c5,y,z,A,B⟩:=abL hb;have H:=cell_regrown J;have C:=cell_regrown c4;have D:=cell_regrown c5;have I:∀d os,Calls ZP 286 #[.bool fold,.slice a la ca] (grow (redrawn w d) os) fun e w''=>e=.returned (.int .i64 (abu (abo fold wss)).many)/\∃p:Regrown,w''=grow (redrawn w p.d) p.os:=
  fun d os=>Calls.regrown_of (apP fold a la ca wss _ (U.below (below_regrown w d os)) Y V X)
 go_enter func285,ntmps285;go_wp2;refine wp_region_quiet_below mixed (by kernel_rfl) ?_
 repeat (go_big_quiet_step (exact I _ _))
 refine wpQuiet_nil ?_;rintro _ ⟨⟨N,Z⟩,rfl⟩;go_wp2;go_ret;exact⟨rfl,below_regrown _ N Z⟩
end
end Go.Proofs.YtaamacoicojhnaaGreat
