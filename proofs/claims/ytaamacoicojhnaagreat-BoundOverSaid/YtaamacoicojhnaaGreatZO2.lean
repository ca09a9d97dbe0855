/- Proofs over the given program, part 2. -/
import Derived.Test.YtaamacoicojhnaaGreatZO1
set_option linter.unusedVariables false
set_option linter.unusedSimpArgs false
set_option maxRecDepth 100000
set_option maxHeartbeats 16000000
open Go.Proofs.Tryz
open Go.Proofs.Tryz renaming prog→ZP
open Go.World(cell? frozen?)
open Go.Value(int slice pointer bool)
open Go.IntKind(i64)
namespace Go.Proofs.YtaamacoicojhnaaGreat
open Go.RowKit Go.Sort
theorem aaT(wk bl rg Y X Z fr L y:Int)(w:World) :Calls ZP 48 #[.agg (Ee wk bl rg Y X Z fr),int i64 L,int i64 y] w λe w'=>e=.returned (.tuple #[int i64 (IU wk bl rg Y X Z fr L y),int i64 (Hv wk bl rg Y X Z fr L y)])/\Br w w':=by
 by_cases h:FY wk bl rg Y X Z fr L y=true
 ·rw[IU,Hv,Vb h,Vb h];exact aic _ _ _ _ _ _ _ _ _ _ h
 ·rw[IU,Hv,Va h,Va h];exact aka _ _ _ _ _ _ _ _ _ _ (by simpa using h)
theorem Sl1.one{W:World}{n:Int}{b:Nat}(Y:W.cell? ⟨b,0,none⟩=some (int i64 n))(X:b<W.heap.size):Sl1 (int i64) W (some ⟨b,0,none⟩) 1 [n]:=by
 refine⟨rfl,.inr ⟨b,0,rfl,X,λi x Z=>?_⟩⟩
 cases i with
 |zero=>simp at Z;subst Z;exact Y
 |succ i=>simp at Z
theorem Og(wk bl rg X V Z fr L y r h:Int)(w:World) :Calls ZP 49 #[.agg (Ee wk bl rg X V Z fr),int i64 L,int i64 y,int i64 r,int i64 h] w λe w'=>e=.returned (.tuple #[int i64 (Hs wk bl rg X V Z fr L y r h),int i64 (Ht wk bl rg X V Z fr L y r h)])/\Br w w':=by
 go_enter func49,ntmps49
 go_wp2_with fail
 refine(aaT _ _ _ _ _ _ _ _ _ _).mono ?_;rintro e j ⟨rfl,B⟩;obtain⟨hc,hf⟩:=MH B;have a1:w.heap.size<j.heap.size:=by have:=B.size;simp at this;omega
 have hB:Br w j:=((AH _ _).alloc (AC _) _).trans (B.mono sm)
 by_cases N:FY wk bl rg X V Z fr L y=true
 ·have A:Hv wk bl rg X V Z fr L y=0:=by rw[Hv,Vb N]
  have hN:IU wk bl rg X V Z fr L y=EA L bl Z y:=by rw[IU,Vb N]
  rw[A,hN];clear A hN
  by_cases Y:btw r 0 2147483647=true
  ·by_cases v:btw h 0 2147483647=true
   ·have I:=N;simp only[FY,Bq,Gi,btw,decide_eq_true_eq]at I;obtain⟨⟨⟨⟨_,_⟩,⟨b1,b2⟩,_,_,_,⟨s1,s2⟩,_⟩,l1,l2⟩,y1,y2⟩:=I;have J:=Y;simp only[btw,Bq,decide_eq_true_eq]at J;obtain⟨r1,r2⟩:=J;have H:=v;simp only[btw,Bq,decide_eq_true_eq]at H;obtain⟨h1,h2⟩:=H;have ht:=ak4 (S:=Z) l1 l2 b1 b2 s1 y1;have ho:=ad3 (n:=y) (size:=bl);have s:Hid (Hs wk bl rg X V Z fr L y r h=6*Cz y bl+r+wk+EA L bl Z y+2*h+5/\Ht wk bl rg X V Z fr L y r h=0):=by
     simp[Hs,Ht,IS,N,Y,v,Hid]
    have C:Ez bl [y]=Cz y bl:=by simp[Ez]
    have cB:∀(W:World)(b:Nat),W.cell? ⟨b,0,none⟩=some (int i64 y)->b<W.heap.size->Calls ZP 51 #[int i64 bl,slice (some ⟨b,0,none⟩) 1 1] W λe w'=>e=.returned (int i64 (Cz y bl))/\W=w':=by intro W b hc B;rw[<-C];exact aap _ _ _ _ _ _ om om (by simp;omega) (Sl1.one hc B)
    clear C;obtain⟨O,hO⟩:∃O,Cz y bl=O:=⟨_,rfl⟩;obtain⟨T,hT⟩:∃T,EA L bl Z y=T:=⟨_,rfl⟩;rw[hT]at ht s⊢;rw[hO]at ho s cB;clear hT hO
    go_wp2_with (go_at_call 84;refine(Nr _ _).mono ?_;rintro e w' ⟨rfl,rfl⟩;first|rw[Y]|rw[v])
    have e1:IntKind.i64.wrap (6*O)=6*O:=IntWalk.i64_in _ om;have e2:IntKind.i64.wrap (6*O+r)=6*O+r:=IntWalk.i64_in _ om;have e3:IntKind.i64.wrap (6*O+r+wk)=6*O+r+wk:=IntWalk.i64_in _ om;have e4:IntKind.i64.wrap (6*O+r+wk+T)=6*O+r+wk+T:=IntWalk.i64_in _ om;have e5:IntKind.i64.wrap (2*h)=2*h:=IntWalk.i64_in _ om;have e6:IntKind.i64.wrap (6*O+r+wk+T+2*h)=6*O+r+wk+T+2*h:=IntWalk.i64_in _ om;have e7:IntKind.i64.wrap (6*O+r+wk+T+2*h+5)=6*O+r+wk+T+2*h+5:=IntWalk.i64_in _ om
    go_region_held3 (λw'=>w'.cell? ⟨w.heap.size,0,none⟩=some (.int .i64 wk)/\w'.cell? ⟨w.heap.size,1,none⟩=some (.int .i64 bl)) (go_keep)
     (first|(go_at_call 51;refine(cB _ _ ?_ ?_).mono ?_;(simp);(simp);rintro e w' ⟨rfl,rfl⟩))
    clear e1 e2 e3 e4 e5 e6 e7;go_wp2;go_ret2;exact⟨by rw[s.out.1,s.out.2];rfl,(hB.alloc om _).drew⟩
   ·have D:btw h 0 2147483647=false:=by simpa using v
    go_wp2_with (go_at_call 84;refine(Nr _ _).mono ?_;rintro e w' ⟨rfl,rfl⟩;first|rw[Y]|rw[D])
    go_ret2;exact⟨by simp[Hs,Ht,IS,N,Y,D],hB⟩
  ·have U:btw r 0 2147483647=false:=by simpa using Y
   go_wp2_with (go_at_call 84;refine(Nr _ _).mono ?_;rintro e w' ⟨rfl,rfl⟩;rw[U])
   go_ret2;exact⟨by simp[Hs,Ht,IS,N,U],hB⟩
 ·have o:FY wk bl rg X V Z fr L y=false:=by simpa using N
  have A:Hv wk bl rg X V Z fr L y=2:=by rw[Hv,Va N]
  rw[A];clear A;go_wp2;go_ret2;exact⟨by simp[Hs,Ht,IS,o],hB⟩
section
def NZ(a b c d e f:Int):Int:=min (min (min (min (min a b) c) d) e) f
theorem amz{P:Program}(w:World)(Z:Array TypeId)(t:TypeId)(a b c d e f:Int) :(Builtin.min_ Z t #[int i64 a,int i64 b,int i64 c,int i64 d,int i64 e,int i64 f]).run P w=.ok (int i64 (NZ a b c d e f)) w:=by
 have m:∀x y:Int,(if y<x then y else x)=min x y:=by intro x y;rw[Int.min_def];split<;>split<;>omega
 simp only[<-m,NZ];simp[Builtin.min_,Builtin.min2]
theorem agN{a b c d e f:Int}:1<=NZ a b c d e f↔1<=a/\1<=b/\1<=c/\1<=d/\1<=e/\1<=f:=by unfold NZ;omega
attribute[local go_sem high] amz
theorem afn(wk bl rg X V Y fr:Int)(w:World) :Calls ZP 25 #[.agg (Ee wk bl rg X V Y fr)] w λe w'=>e=.returned (bool (Ce wk bl rg X V Y fr))/\Br w w':=by
  obtain⟨B,hB⟩:∃B,Ce wk bl rg X V Y fr=B:=⟨_,rfl⟩;have U:Hid (Ce wk bl rg X V Y fr=B):=hB;rw[hB];clear hB;have Z:fr<=4611686018427387904∨¬fr<=4611686018427387904:=Decidable.em _
  rcases Z with Z|Z
  all_goals
    go_enter func25,ntmps25;go_wp2
    all_goals
      go_ret;refine⟨?_,(AH _ _).alloc (AC _) _⟩
      first
        | (show Ending.returned (.bool true)=_
           rw[<-U.out,Gi.2 (by simp only[agN]at *;omega)])
        | (show Ending.returned (.bool false)=_
           have e:Ce wk bl rg X V Y fr=false:=by refine Bool.eq_false_iff.2 λh=>?_;have h1:=Gi.1 h;have h2:=agN.2 ⟨h1.1.1,h1.2.1.1,h1.2.2.1.1,h1.2.2.2.1.1,h1.2.2.2.2.1.1,h1.2.2.2.2.2.1.1⟩;omega
           rw[<-U.out,e])
end
section
attribute[local go_sem] Oper.semAt_some
attribute[local simp] Ak Al
attribute[local go_sem] Ak Al
def Bys(w:World)(a:Option Addr)(len:Nat)(xs:List Int):Prop:=Sl1 (Value.int .u8) w a len xs/\∀x∈xs,0<=x/\x<=255
theorem Bys.below{w w':World}{a:Option Addr}{len:Nat}{xs:List Int}(h:Bys w a len xs)(Z:Br w w'):Bys w' a len xs:=⟨h.1.below Z,h.2⟩
theorem Bys.len{w:World}{a:Option Addr}{len:Nat}{xs:List Int}(h:Bys w a len xs):xs.length=len:=h.1.1
theorem Bys.nil(w:World)(a:Option Addr):Bys w a 0 []:=⟨⟨rfl,.inl rfl⟩,by simp⟩
abbrev kept(w W:World):Prop:=Cc (λk=>k<w.heap.size) w W
theorem Kd{w W:World}(h:kept w W){p:Addr}(Z:p.block<w.heap.size):W.cell? p=w.cell? p:=BC (h _ Z)
theorem ahL{w W:World}(h:Br w W):kept w W:=Ke h λ_ h=>h
theorem akz(a b:Option Addr)(Y V Z X:Nat)(w:World) :Calls ZP 295 #[.slice a Y V,.slice b Z X] w λe w'=>e=.returned (.func (.func 300) #[] #[.pointer (some ⟨w.heap.size,0,none⟩),.pointer (some ⟨w.heap.size+1,0,none⟩)])/\
   w'=(w.alloc (.cells #[slice a Y V] 32)).alloc (.cells #[slice b Z X] 32):=by
 go_enter func295,ntmps295;go_wp2;go_ret;exact⟨rfl,rfl⟩
abbrev By2:={p:Int×Int // (0<=p.1/\p.1<=255)/\0<=p.2/\p.2<=255}
def aiG(p:By2):Array Value:=#[.int .u8 p.1.1,.int .u8 p.1.2]
theorem afv(a b:Option Addr)(Y ca N cb p1 p2:Nat)(xs ys:List Int)(n:Nat)(w:World)(hA:Bys w a Y xs)(hB:Bys w b N ys)(hl:Y=N)(af:Y<=1000000)
  (h1:w.heap[p1]?=some (.cells #[slice a Y ca] 32 (0,0))) (h2:w.heap[p2]?=some (.cells #[slice b N cb] 32 (0,0))) :
  SeqStopsK Fence.wide n ZP 300 #[pointer (some ⟨p1,0,none⟩),pointer (some ⟨p2,0,none⟩)] aiG (Cc (λk=>k<w.heap.size)) (λzs=>zs.map Subtype.val=xs.zip ys) (λZ=>∃k,Z.map Subtype.val=(xs.zip ys).take k) 1000001 w:=by
 intro l J Jx W hW hJ ag hY h0;have s:kept w W:=ahL hW;have a6:p1<w.heap.size:=(AD.1 h1).1;have a2:p2<w.heap.size:=(AD.1 h2).1;have cells:∀v:World,kept w v->v.cell? ⟨p1,0,none⟩=some (slice a Y ca)/\v.cell? ⟨p2,0,none⟩=some (slice b N cb):=by intro v hv;rw[Kd hv a6,Kd hv a2];simp[cell?,h1,h2]
 obtain⟨C,D⟩:=hA.1;obtain⟨X,I⟩:=hB.1;have HX:=AA hA.2;have HY:=AA hB.2;have HL:=AA hl;have a1:=AA C;have ab:=AA X;clear hA hB hl C X;obtain⟨c1,c2⟩:=cells W s;refine callsIn_of_wp func300 rfl trivial ?_ rfl;simp only[ntmps300,Cw,Ao,Bw,Nat.reduceAdd,Nat.reduceSub,Dd,Dc,DX,Da,Av,CT]
 gi_wp2
 clear c1 c2
 gi_loopw[8] (λi wr=>∃(k:Nat)(Z:List By2),k<=Y/\i=int i64 k/\Z.map Subtype.val=(xs.zip ys).take k/\J Z wr/\kept w wr) (λi _=>Y-(intOf i).toNat)
 case atStart=>exact⟨0,[],AR _,rfl,by simp,h0,s⟩
 case round=>
  obtain⟨k,Z,hk,rfl,U,hj,V⟩:=hrel;have HP:=AA U;clear U
  by_cases A:k<Y
  ·obtain⟨x,hx⟩:∃x,xs[k]?=some x:=⟨xs[k]'(by rw[a1.out];exact A),by simp⟩;obtain⟨y,hy⟩:∃y,ys[k]?=some y:=⟨ys[k]'(by rw[ab.out,<-HL.out];exact A),by simp⟩;obtain⟨ba,oa,rfl,a8,B⟩:=D.resolve_left om;obtain⟨bb,ob,rfl,a7,H⟩:=I.resolve_left (by have:=HL.out;omega);obtain⟨c1,c2⟩:=cells wr V;have cx:wr.cell? ⟨ba,oa+k,none⟩=some (.int .u8 x):=(Kd V (p:=⟨ba,oa+k,none⟩) a8).trans (B k x hx);have cy:wr.cell? ⟨bb,ob+k,none⟩=some (.int .u8 y):=(Kd V (p:=⟨bb,ob+k,none⟩) a7).trans (H k y hy);have j:=HX.out x (AX hx);have o:=HY.out y (AX hy);have ae:Z.length<=k:=by have:=congrArg List.length HP.out;simp at this;omega
   have ac:(k:Int)<N:=by have:=HL.out;omega
   obtain⟨fn,tmps,assign,body,X,aa⟩:=hY Z ⟨(x,y),j,o⟩ wr hj om;have HS:Hid ((Z++[(⟨(x,y),j,o⟩:By2)]).map Subtype.val=(xs.zip ys).take (k+1)):=by
    have hz:(xs.zip ys)[k]?=some (x,y):=by rw[List.getElem?_zip_eq_some];exact⟨hx,hy⟩
    rw[As hz,<-HP.out];simp[Hid]
   dsimp only[aiG]at X;clear hx hy B H D I
   gi_wp2
   refine aa.mono ?_;rintro e W4 (⟨rfl,hJ4,hk4⟩|⟨rfl,hJx4⟩)
   ·gi_wp2
    go_roundw
    case rel=>exact⟨k+1,_,by omega,by go_num,HS.out,hJ4,GD V hk4⟩
    case measure=>simp[intOf];omega
   ·gi_wp2
    refine Vl (results_none rfl _ _ _) rfl ?_;exact⟨⟨_,rfl⟩,.inr ⟨_,⟨k+1,HS.out⟩,hJx4⟩⟩
  ·obtain rfl:k=Y:=by omega
   gi_wp2
   go_end0
   refine⟨⟨_,rfl⟩,.inl ⟨Z,?_,hj⟩⟩;show Z.map Subtype.val=xs.zip ys;rw[HP.out,Ap (by simp;have:=a1.out;omega)]
end
section
attribute[local go_sem] Oper.semAt_some
attribute[local simp] Ak Al
attribute[local go_sem] Ak Al
attribute[local go_sem] IW
theorem ahG(fold:Bool)(x y:Int)(w:World)(Y:0<=x/\x<=255)(Z:0<=y/\y<=255) :Calls ZP (EP fold) #[.agg #[],.int .u8 x,.int .u8 y] w λe w'=>e=.returned (bool (KD fold x y))/\Br w w':=by
 cases fold
 ·exact adW x y w
 ·exact ahq x y w Y.1 Y.2 Z.1 Z.2
theorem aac{fn:Func}{p:Tmp}{tmps:Array Value}{W:World}{B:Nat}{t:TypeId}{b:Bool}(h:fn.results=#[.cell p 4])(Y:tmps.getD p undef=pointer (some ⟨B,0,none⟩))(hB:Boxed W B t (bool b)) :(results fn tmps).run ZP W=.ok (bool b) W:=by
 have Z:tmps[p]?.getD undef=pointer (some ⟨B,0,none⟩):=by simpa using Y
 have X:=hB.cell;simp[results,h,Z,asAddr,X,go_sem,loadVar]
theorem aeI(fold:Bool)(args:Array Value)(w:World):Sem.run ZP (callFunc (EP fold) args) w=.ok (.enter (EP fold) args) w:=by
 cases fold
 ·exact Vm func299 kr rfl args w
 ·exact Vm func298 kr rfl args w
theorem Li{β:Type}(B n:Nat):OwnFrom B (λ(_:β) W=>n<=W.heap.size):=λs A C row Z Y X=>AS Z Y.size
theorem agE{β:Type}(B:Nat)(p:β->Prop):OwnFrom B (λs (_:World)=>p s):=λs A C row Z X Y=>Z
theorem am2(fold:Bool)(a b:Option Addr)(Z N lb U:Nat)(xs ys:List Int)(w:World)(hA:Bys w a Z xs)(hB:Bys w b lb ys)(a8:Z<=1000000) :Calls ZP 287 #[bool fold,slice a Z N,slice b lb U] w λe w'=>e=.returned (bool (CH fold xs ys))/\Br w w':=by
 refine Hc func287 rfl ?_;simp only[ntmps287,Cw,Ao,Bw,Nat.reduceAdd,Nat.reduceSub,Dd,Dc,DX,Da,Av,CT];have a1:=hA;have j:=hB
 by_cases hl:Z=lb
 ·subst hl
  go_wp2_with fail
  refine(aoA fold _).mono ?_;rintro e Y ⟨rfl,hb⟩;have ag:Br w Y:=((AH _ _).alloc (AC _) _).trans (hb.mono sm);have bR:Boxed Y w.heap.size 4 (bool false):=(hb.block _ sm).trans (Boxed.new w 4 (bool false));have a7:w.heap.size<Y.heap.size:=bR.lt
  go_wp2_with (go_at_call 295;refine(akz _ _ _ _ _ _ _).mono ?_;rintro e w' ⟨rfl,rfl⟩)
  have bF:Boxed (((Y.alloc (.cells #[.func (.func (EP fold)) #[.agg #[]] #[]] 395)).alloc (.cells #[slice a Z N] 32)).alloc (.cells #[slice b Z U] 32)) Y.heap.size 395 (.func (.func (EP fold)) #[.agg #[]] #[]):=
   ((Boxed.new Y _ _).alloc _).alloc _
  have bA:(((Y.alloc (.cells #[.func (.func (EP fold)) #[.agg #[]] #[]] 395)).alloc (.cells #[slice a Z N] 32)).alloc (.cells #[slice b Z U] 32)).heap[Y.heap.size+1]?=some (.cells #[slice a Z N] 32 (0,0)):=by
   have:=(Boxed.new (Y.alloc (.cells #[.func (.func (EP fold)) #[.agg #[]] #[]] 395)) 32 (slice a Z N)).alloc (.cells #[slice b Z U] 32)
   rwa[DN]at this
  have bB:(((Y.alloc (.cells #[.func (.func (EP fold)) #[.agg #[]] #[]] 395)).alloc (.cells #[slice a Z N] 32)).alloc (.cells #[slice b Z U] 32)).heap[Y.heap.size+1+1]?=some (.cells #[slice b Z U] 32 (0,0)):=by
   have:=(Boxed.new ((Y.alloc (.cells #[.func (.func (EP fold)) #[.agg #[]] #[]] 395)).alloc (.cells #[slice a Z N] 32)) 32 (slice b Z U))
   rwa[DN,DN]at this
  have aj:=((bR.alloc (.cells #[.func (.func (EP fold)) #[.agg #[]] #[]] 395)).alloc (.cells #[slice a Z N] 32)).alloc (.cells #[slice b Z U] 32);have B:=((ag.alloc (DP a7) (.cells #[.func (.func (EP fold)) #[.agg #[]] #[]] 395)).alloc (by simp;omega) (.cells #[slice a Z N] 32)).alloc (by simp;omega) (.cells #[slice b Z U] 32);have al:(((Y.alloc (.cells #[.func (.func (EP fold)) #[.agg #[]] #[]] 395)).alloc (.cells #[slice a Z N] 32)).alloc (.cells #[slice b Z U] 32)).heap.size=Y.heap.size+3:=by simp
  generalize (((Y.alloc (.cells #[.func (.func (EP fold)) #[.agg #[]] #[]] 395)).alloc (.cells #[slice a Z N] 32)).alloc (.cells #[slice b Z U] 32))=w3 at *
  have ai:=hA.below B;have o:=hB.below B
  apply KI rfl (enters_of func300 kr rfl) (afv a b Z N Z U (Y.heap.size+1) (Y.heap.size+1+1) xs ys 8 w3 ai o rfl a8 bA bB) GD (JR λ_ h=>h) (λ_=>rfl)
   (λJ W=>Boxed W Y.heap.size 395 (.func (.func (EP fold)) #[.agg #[]] #[])/\Boxed W w.heap.size 4 (bool false)/\Br w W/\w3.heap.size<=W.heap.size/\∀p∈J.map Subtype.val,KD fold p.1 p.2=true)
   (λc J W=>Boxed W w.heap.size 4 (bool false)/\Br w W/\c=.ret/\∃p∈J.map Subtype.val,KD fold p.1 p.2=false)
  case hI=>exact OwnFrom.and (Own.from (boxed_own _ _ _) _) (OwnFrom.and (Own.from (boxed_own _ _ _) _) (OwnFrom.and (ownFrom_below (AC _) om) (OwnFrom.and (Li _ _) (agE _ _))))
  case hIx=>exact λc=>OwnFrom.and (Own.from (boxed_own _ _ _) _) (OwnFrom.and (ownFrom_below (AC _) om) (agE _ _))
  case h0=>exact⟨bF,aj,B,AC _,by simp⟩
  case hassign=>
   intro l x W K v;unfold aiG
   gi_wp2
   exact v
  case hbody=>
   rintro l J ⟨⟨x,y⟩,hx,hy⟩ W ⟨hF,I,hB,hs,V⟩ ak;have hc:=hF.cell;have ac:=I.cell;have aa:=I.frozen;dsimp only at hx hy⊢;have a2:=AA V;clear V;have he:=aeI fold
   gi_wp2_with fail
   refine(callsIn_wide.2 (ahG fold x y W hx hy)).mono ?_;rintro e W4 ⟨rfl,X⟩;have C:Boxed W4 w.heap.size 4 (bool false):=(X.block _ I.lt).trans I;have af:Boxed W4 Y.heap.size 395 (.func (.func (EP fold)) #[.agg #[]] #[]):=(X.block _ hF.lt).trans hF;have ap:=C.cell;have ao:=C.frozen;have a6:w3.heap.size<=W4.heap.size:=AS hs X.size;have s:Br w W4:=hB.trans (X.mono hB.size)
   cases e:KD fold x y with
   |true=>
    gi_wp2
    refine⟨Nj X,Ke X (λk hk=>by omega),af,C,s,a6,?_⟩;rw[Aj];intro p H
    rcases Bf.1 H with H|H
    ·exact a2.out p H
    ·simp at H;rw[H];exact e
   |false=>
    gi_wp2
    have kO:=(Jp W4 ⟨w.heap.size,0,none⟩ (bool false)).from w3.heap.size;exact⟨(Nj X).trans kO,C.set _,s.setCell (AC _) _,rfl,(x,y),by simp,e⟩
  case hdone=>
   rintro D zs W hD hS ⟨hF,I,hB,hs,V⟩ v;have ae:(W.setCell ⟨w.heap.size,0,none⟩ (bool true)).heap[D]?=some (.deferred (some [])):=(AQ W ⟨w.heap.size,0,none⟩ _ _ (by simp;omega)).trans v;have ac:=I.cell;have aa:=I.frozen;go_wp2;have bT:Boxed ((W.setCell ⟨w.heap.size,0,none⟩ (bool true)).putObj D (.deferred none)) w.heap.size 4 (bool true):=(Cm om).trans (I.set _);refine Gg rfl ae (aac rfl rfl bT) ⟨?_,FZ (hB.setCell (AC _) _) om (AC _) _⟩;rw[(abl (by rw[a1.len,j.len])).2 (by rw[<-hS];exact V)]
  case hstop=>
   rintro D c J W hD hS ⟨I,hB,rfl,ab⟩ v;go_wp2;have bT:Boxed (W.putObj D (.deferred none)) w.heap.size 4 (bool false):=(Cm om).trans I;refine Gg rfl v (aac rfl rfl bT) ⟨?_,FZ hB om (AC _) _⟩;obtain⟨p,H,A⟩:=ab
   cases e:CH fold xs ys with
   |false=>rfl
   |true=>
    exfalso
    have:=(abl (by rw[a1.len,j.len])).1 e p (by obtain⟨k,hk⟩:=hS;rw[hk]at H;exact EG H);rw[this]at A
    cases A
 ·have hE:CH fold xs ys=false:=amu (by rw[hA.len,hB.len];exact hl);have am:((Z:Int) != (lb:Int))=true:=by simp;omega
  go_wp2;refine aps rfl (aac rfl rfl (Boxed.new w 4 _)) ⟨by rw[hE],(AH _ _).alloc (AC _) _⟩
end
theorem Cf(b off i:Nat):(⟨b,off,none⟩:Addr).add i=⟨b,off+i,none⟩:=by
 unfold Addr.add
 split<;>simp_all
theorem Sl1.cut{α:Type}{enc:α->Value}{w:World}{a:Option Addr}{n:Nat}{xs:List α}(h:Sl1 enc w a n xs){lo m:Nat}(V:lo+m<=n) :Sl1 enc w (a.map (·.add lo)) m ((xs.drop lo).take m):=by
 obtain⟨h1,h2⟩:=h;refine⟨by simp;omega,?_⟩
 by_cases h0:m=0
 ·exact .inl h0
 ·right
  obtain⟨b,off,rfl,X,Z⟩:=h2.resolve_left om;refine⟨b,off+lo,by simp[Cf],X,λi x Y=>?_⟩;rw[FT]at Y
  split at Y
  ·rw[Hm]at Y;rw[Nat.add_assoc];exact Z _ x Y
  ·cases Y
theorem Sl1.cut0{α:Type}{enc:α->Value}{w:World}{a:Option Addr}{xs:List α}{lo m:Nat}(Z:m=0):Sl1 enc w a m ((xs.drop lo).take m):=⟨by simp;omega,.inl Z⟩
theorem Bys.cut{w:World}{a:Option Addr}{n:Nat}{xs:List Int}(h:Bys w a n xs){lo m:Nat}(Y:lo+m<=n):Bys w (a.map (·.add lo)) m ((xs.drop lo).take m):=⟨h.1.cut Y,λx Z=>h.2 x (Iq (EG Z))⟩
theorem Bys.cut0{w:World}{a X:Option Addr}{n:Nat}{xs:List Int}(h:Bys w a n xs){lo m:Nat}(Y:m=0):Bys w X m ((xs.drop lo).take m):=⟨Sl1.cut0 Y,λx Z=>h.2 x (Iq (EG Z))⟩
def Wds(w:World)(a:Option Addr)(len:Nat)(wss:Lq):Prop:=
 ∃Z:List (Option Addr×Nat×Nat),Sl1 (λv=>slice v.1 v.2.1 v.2.2) w a len Z/\Z.length=wss.length/\∀(i:Nat)(v:Option Addr×Nat×Nat)(xs:List Int),Z[i]?=some v->wss[i]?=some xs->Bys w v.1 v.2.1 xs/\v.2.1<=v.2.2
theorem Wds.below{w w':World}{a:Option Addr}{len:Nat}{wss:Lq}(h:Wds w a len wss)(X:Br w w'):Wds w' a len wss:=by obtain⟨V,h1,h2,h3⟩:=h;exact⟨V,h1.below X,h2,λi v xs Y Z=>⟨(h3 i v xs Y Z).1.below X,(h3 i v xs Y Z).2⟩⟩
theorem Wds.len{w:World}{a:Option Addr}{len:Nat}{wss:Lq}(h:Wds w a len wss):wss.length=len:=by obtain⟨Z,h1,h2,h3⟩:=h;rw[<-h2,h1.1]
theorem Wds.at_{w:World}{a:Option Addr}{len:Nat}{wss:Lq}(h:Wds w a len wss){k:Nat}(hk:k<len) :∃b off U l c xs,a=some ⟨b,off,none⟩/\b<w.heap.size/\w.cell? ⟨b,off+k,none⟩=some (slice U l c)/\wss[k]?=some xs/\Bys w U l xs/\l<=c:=by have J:=h.len;obtain⟨Y,⟨h0,h1⟩,h2,h3⟩:=h;obtain⟨b,off,rfl,Z,N⟩:=h1.resolve_left om;obtain⟨v,V⟩:∃v,Y[k]?=some v:=⟨Y[k]'om,by simp⟩;obtain⟨x,X⟩:∃v,wss[k]?=some v:=⟨wss[k]'om,by simp⟩;exact⟨b,off,v.1,v.2.1,v.2.2,x,rfl,Z,N k v V,X,h3 k v x V X⟩
theorem Ff{wss:Lq}{M:Nat}(h:∀x∈wss,x.length<=M){k:Nat}{x:List Int}(Z:wss[k]?=some x):x.length<=M:=h x (AX Z)
theorem aeb(fold:Bool)(a b:Option Addr)(U y Y cb:Nat)(xs:List Int)(wss:Lq)(w:World)(hA:Bys w a U xs)(hB:Wds w b Y wss)(j:Y<=1000000)(hM:∀x∈wss,x.length<=1000000) :Calls ZP 256 #[bool fold,slice a U y,slice b Y cb] w λe w'=>e=.returned (int i64 (BV fold xs wss))/\Br w w':=by
 have v:=AA hB.len;go_enter func256,ntmps256;go_wp2
 go_loopw[11] (λi wr=>∃k:Nat,k<=Y/\i=int i64 k/\Hid (BV fold xs (wss.take k)=-1)/\Br w wr) (λi _=>Y-(intOf i).toNat)
 case atStart=>exact⟨0,AR _,rfl,by simp[Hid,acn],AH _ _⟩
 case round=>
  obtain⟨k,hk,rfl,B,Z⟩:=hrel;have C:=hA.below Z;have D:=hB.below Z
  by_cases I:k<Y
  ·obtain⟨bb,off,a',l,c,x,rfl,a1,H,J,A,o⟩:=D.at_ I;have N:l<=1000000:=by have:=Ff hM J;rw[A.len]at this;exact this
   go_wp2_with fail
   refine(am2 fold a' a l c U y x xs wr A C N).mono ?_;rintro e s ⟨rfl,hb⟩;have X:Br w s:=Z.trans (hb.mono Z.size)
   cases e:CH fold x xs with
   |true=>
    have V:Hid (BV fold xs wss=k):=by have h:=acK (rest:=wss.drop (k+1)) B (by rw[aci];exact e);rw[<-Mu J]at h;rw[Hid,h,Ag,v.out];omega
    go_wp2;go_ret;exact⟨by rw[V.out];rfl,X⟩
   |false=>
    have V:Hid (BV fold xs (wss.take (k+1))=-1):=by rw[As J];exact aai B (by rw[aci];exact e)
    go_wp2
    go_roundw
    case rel=>exact⟨k+1,by omega,by go_num,V,X⟩
    case measure=>simp[intOf];omega
  ·obtain rfl:k=Y:=by omega
   have V:Hid (BV fold xs wss=-1):=by
    have h:=B
    rwa[Ap (by rw[v.out];exact AC _)]at h
   go_wp2;go_ret;exact⟨by rw[V.out];rfl,Z⟩
abbrev Ch(w:World)(base:Nat)(v:Value)(n:Nat)(xs:List Int):Prop:=w.ownsRow base 5 1 v n (xs.map (Value.int .u8))
theorem Gs:(ZP.info? 5).map (λi=>(i.zero,i.size,i.bytes))=some (some (.int .u8 0),1,1):=by kernel_rfl
theorem Co{α:Type}{enc:α->Value}{w:World}{base n:Nat}{e:TypeId}{v:Value}{xs:List α}(h:w.ownsRow base e 1 v n (xs.map enc)):∃a c,v=slice a n c/\n<=c/\Sl1 enc w a n xs:=by
 have Z:xs.length=n:=by have:=h.1;simpa using this
 rcases h.2 with⟨rfl,rfl⟩|⟨g,cap,U,rfl,N,V,X,_,_,J⟩
 ·exact⟨none,0,rfl,AC _,Z,.inl rfl⟩
 ·refine⟨_,cap,rfl,X,Z,.inr ⟨g,0,rfl,(AD.1 V).1,λi x Y=>?_⟩⟩;have:=h.cells (g:=g) rfl i (enc x) (by simp[Y])
  rwa[Cf]at this
theorem KL{w:World}{base n:Nat}{v:Value}{xs:List Int}(h:Ch w base v n xs)(Y:∀x∈xs,0<=x/\x<=255):∃a c,v=slice a n c/\n<=c/\Bys w a n xs:=by obtain⟨a,c,e,Z,h1⟩:=Co h;exact⟨a,c,e,Z,h1,Y⟩
theorem aa7{w wr Y:World}{o:Obj}{base n size:Nat}{e:TypeId}{v:Value}{xs:List Value}(hB:Br w wr)(Z:wr.ownsRow w.heap.size e size v n xs)(X:(wr.alloc o).grownBy Y v.ownBlock):Br w Y:=(hB.alloc hB.size o).grown X (by simp;have:=hB.size;omega) (λk hk=>(Z.lt k hk).1)
theorem Sl1.news{α:Type}{enc:α->Value}{w:World}{ad:Addr}{m:Nat}{ys:List α}(h:Sl1 enc w (some ad) m ys):∀j u,(ys.map enc)[j]?=some u->w.cell? (ad.add j)=some u:=by intro j u Y;rw[BU,Fo]at Y;obtain⟨y,Z,rfl⟩:=Y;obtain⟨h1,h2⟩:=h;have U:=(AP.1 Z).1;obtain⟨b,off,e,X,V⟩:=h2.resolve_left om;obtain rfl:=AK e;rw[Cf];exact V j y Z
theorem aak{P:Program}{α:Type}{enc:α->Value}(U:∀x,(enc x).oneCell'=true)(w:World)(base:Nat)(t s e:TypeId)(i:TypeInfo)(z:Value)(bytes:Nat)(I:P.underlying t=some (.slice e))(D:P.info? e=some i)(o:i.zero=some z)
  (X:i.size=1) (C:i.bytes=bytes) (J:z.cells.size=1) (v:Value) (n:Nat) (xs:List Value) (Z:w.ownsRow base e 1 v n xs)
  (A:Option Addr) (m c:Nat) (ys:List α) (N:Sl1 enc w A m ys) (B:n+m<=maxLen) (Y:(n+m)*bytes<=140737488355328) (V:base<=w.heap.size) :
  ∃v' w',(Builtin.append_ #[t,t] s #[v,.slice A m c]).run P w=.ok v' w'/\w'.ownsRow base e 1 v' (n+m) (xs++ys.map enc)/\w.grownBy w' v.ownBlock/\
   (v'.ownBlock=v.ownBlock∨v'.ownBlock=some w.heap.size):=by
 cases A with
 |some ad=>
  obtain⟨v',w',hr,h2,h3,_,h5⟩:=run_append_own_at (P:=P) w base t s e i z 1 bytes I D o X C J (by decide) v n xs Z ad m c (ys.map enc) (by simp[N.1]) N.news (by intro u hu;obtain⟨y,_,rfl⟩:=Be.1 hu;exact U y) B Y V;exact⟨v',w',hr,h2,h3,h5⟩
 |none=>
  have hm:m=0:=N.2.elim id λ⟨b,off,e,_⟩=>by cases e
  subst hm;have j:ys=[]:=Bz N.1;subst j;refine⟨v,w,?_,by simpa using Z,World.grownBy.refl w _,.inl rfl⟩
  rcases Z.2 with⟨rfl,rfl⟩|⟨g,cap,a1,rfl,_,_,H,_⟩
  ·simp[Builtin.append_,run_underlying I,sizeOf,typeInfo,D,Builtin.lenOf,Builtin.firstCells]
  ·simp[Builtin.append_,run_underlying I,sizeOf,typeInfo,D,Builtin.lenOf,Builtin.firstCells,H,storeCells]
theorem Mf{P:Program}{w:World}{V:Array Oper}{rest:List Oper}{o:Oper}{a:Act}{Q:Exit->Act->World->Prop}(H:o.guard=none)(s x:Operand)(t:TypeId)
  (ho:o.op=.call {callee:=.builtin .append,args:=#[s,x],argTypes:=#[t,t]}) {α:Type} {enc:α->Value} (N:∀x,(enc x).oneCell'=true)
  (base:Nat) (e:TypeId) (i:TypeInfo) (z:Value) (bytes:Nat) (j:P.underlying t=some (.slice e)) (hi:P.info? e=some i) (B:i.zero=some z) (Y:i.size=1) (D:i.bytes=bytes) (J:z.cells.size=1)
  (v:Value) (n:Nat) (xs:List Value) (hs:a.eval s=v) (U:w.ownsRow base e 1 v n xs) (A:Option Addr) (m c:Nat) (ys:List α) (y:a.eval x=slice A m c) (I:Sl1 enc w A m ys)
  (C:n+m<=maxLen) (Z:(n+m)*bytes<=140737488355328) (X:base<=w.heap.size)
  (h:∀v' w',w'.ownsRow base e 1 v' (n+m) (xs++ys.map enc)->w.grownBy w' v.ownBlock->(v'.ownBlock=v.ownBlock∨v'.ownBlock=some w.heap.size)->wpList P V Q rest (a.put o.dst v') w'):wpList P V Q (o::rest) a w:=by
 refine wpList_plain H λK hK=>?_;obtain⟨v',w',hr,h2,h3,h4⟩:=aak (P:=P) N w base t o.type e i z bytes j hi B Y D J v n xs U A m c ys I C Z X;unfold Oper.wp execOp;simp only[ho,resolve,invoke,builtin,IN,IM,Result.andThen_ok,LI,BO,DE,hs,y,hr];exact hK _ _ (h v' w' h2 h3 h4)
theorem abv(a:Option Addr)(X ca:Nat)(xs:List Int)(w:World)(hA:Bys w a X xs)(a1:X<=1000000) :Calls ZP 175 #[slice a X ca] w λe w'=>∃v,e=.returned v/\Ch w' w.heap.size v X (xs.map BE)/\Br w w':=by
  obtain⟨i0,hi,D,H,I⟩:=Vk Gs;have HL:=AA hA.len;go_enter func175,ntmps175;go_wp2
  go_loopw[3,4] (λo i wr=>∃k:Nat,k<=X/\i=int i64 k/\Ch wr w.heap.size o k ((xs.take k).map BE)/\Br w wr) (λ_ i _=>X-(intOf i).toNat)
  case atStart=>exact⟨0,AR _,rfl,BN _ _ _ _,AH _ _⟩
  case round=>
    obtain⟨k,hk,rfl,Z,Y⟩:=hrel
    by_cases B:k<X
    ·
      obtain⟨x,J⟩:∃x,xs[k]?=some x:=⟨xs[k]'(by rw[HL.out];exact B),by simp⟩;have N:=hA.below Y;have a2:=N.2 x (AX J);obtain⟨b,off,rfl,a6,j⟩:=N.1.2.resolve_left om;have A:=j k x J;have C:=AA (As J);clear j J
      go_wp2_with (first
        |(go_at_call 214;refine(akw _ _ om om).mono ?_;rintro e w' ⟨rfl,rfl⟩)
        | (at_builtin
           refine wpList_append_own_at _ rfl _ _ 32 rfl w.heap.size 5 i0 (.int .u8 0) 1 1 underlying32 hi D H I rfl (by decide) _ _ _ rfl (Z.alloc _) ⟨wr.heap.size,0,none⟩ 1 1 [.int .u8 (BE x)] rfl rfl (cell_one_new _ _ _) (by simp[Value.oneCell']) (by unfold maxLen;omega) om (by have:=Y.size;simp;omega) ?_;intro v' w5 V U s a7))
      have y:=aa7 (base:=w.heap.size) Y Z U
      go_roundw
      case rel=>exact⟨k+1,by omega,by go_num,by unfold Ch;rw[C.out,Aj,Aj];exact V,y⟩
      case measure=>simp[intOf];omega
    ·
      obtain rfl:k=X:=by omega
      go_wp2;go_ret;refine⟨_,rfl,?_,Y⟩;have h:=Z;rw[Ap (by rw[HL.out];exact AC _)]at h;exact h
theorem aea(a:Option Addr)(X ca:Nat)(xs:List Int)(w:World)(hA:Bys w a X xs)(a1:X<=1000000) :Calls ZP 187 #[slice a X ca] w λe w'=>∃v,e=.returned v/\Ch w' w.heap.size v X (xs.map BE)/\Br w w':=by
  obtain⟨i0,hi,D,H,I⟩:=Vk Gs;have HL:=AA hA.len;go_enter func187,ntmps187;go_wp2
  go_loopw[3,8] (λo i wr=>∃k:Nat,k<=X/\i=int i64 k/\Ch wr w.heap.size o k ((xs.take k).map BE)/\Br w wr) (λ_ i _=>X-(intOf i).toNat)
  case atStart=>exact⟨0,AR _,rfl,BN _ _ _ _,AH _ _⟩
  case round=>
    obtain⟨k,hk,rfl,Z,Y⟩:=hrel
    by_cases B:k<X
    ·
      obtain⟨x,J⟩:∃x,xs[k]?=some x:=⟨xs[k]'(by rw[HL.out];exact B),by simp⟩;have N:=hA.below Y;have a2:=N.2 x (AX J);obtain⟨b,off,rfl,a6,j⟩:=N.1.2.resolve_left om;have A:=j k x J;have C:=AA (As J);clear j J
      go_wp2_with (first
        |(go_at_call 230;refine(ads _ _ om om).mono ?_;rintro e w' ⟨rfl,rfl⟩)
        | (at_builtin
           refine wpList_append_own_at _ rfl _ _ 32 rfl w.heap.size 5 i0 (.int .u8 0) 1 1 underlying32 hi D H I rfl (by decide) _ _ _ rfl (Z.alloc _) ⟨wr.heap.size,0,none⟩ 1 1 [.int .u8 (BE x)] rfl rfl (cell_one_new _ _ _) (by simp[Value.oneCell']) (by unfold maxLen;omega) om (by have:=Y.size;simp;omega) ?_;intro v' w5 V U s a7))
      have y:=aa7 (base:=w.heap.size) Y Z U
      go_roundw
      case rel=>exact⟨k+1,by omega,by go_num,by unfold Ch;rw[C.out,Aj,Aj];exact V,y⟩
      case measure=>simp[intOf];omega
    ·
      obtain rfl:k=X:=by omega
      go_wp2;go_ret;refine⟨_,rfl,?_,Y⟩;have h:=Z;rw[Ap (by rw[HL.out];exact AC _)]at h;exact h
theorem JB(x:Int):(Value.int .u8 x).oneCell'=true:=rfl
theorem ai8(fold:Bool)(a:Option Addr)(X H:Nat)(xs:List Int)(w:World)(D:Bys w a X xs)(I:X<=1000000) :Calls ZP 134 #[bool fold,slice a X H] w λe w'=>∃v,e=.returned v/\Ch w' w.heap.size v X (AO fold xs)/\Br w w':=by
 obtain⟨C,B,J,N,U⟩:=Vk Gs
 cases fold
 ·go_enter func134,ntmps134
  go_wp2_with (at_builtin;refine Mf rfl _ _ 32 rfl JB w.heap.size 5 C (.int .u8 0) 1 underlying32 B J N U rfl _ 0 [] rfl (BN _ _ _ _) a X H xs rfl D.1 (by unfold maxLen;omega) om (AC _) ?_;intro v' s Z Y y)
  go_ret;refine⟨_,rfl,?_,(AH _ _).grown Y (AC _) (λk e=>by cases e)⟩
  simpa[AO,Ch]using Z
 ·go_enter func134,ntmps134
  go_wp2_with fail
  refine(aea a X H xs w D I).mono ?_;rintro e o ⟨v,rfl,V,A⟩;go_wp2;go_ret;exact⟨_,rfl,V,A⟩
theorem ags(fold:Bool)(a:Option Addr)(V C:Nat)(xs:List Int)(w:World)(B:Bys w a V xs)(H:V<=1000000) :Calls ZP 124 #[bool fold,slice a V C] w λe w'=>∃v,e=.returned v/\Ch w' w.heap.size v V (AO fold xs)/\Br w w':=by
 obtain⟨A,y,I,J,N⟩:=Vk Gs
 cases fold
 ·have D:=B.below ((AH _ _).alloc (AC _) (.cells #[] 5));have Z:Ch (w.alloc (.cells #[] 5)) w.heap.size (slice (some ⟨w.heap.size,0,none⟩) 0 0) 0 []:=World.ownsRow_lit w #[] 0 (AC _) (AR _) rfl;go_enter func124,ntmps124
  go_wp2_with (at_builtin;refine Mf rfl _ _ 32 rfl JB w.heap.size 5 A (.int .u8 0) 1 underlying32 y I J N rfl _ 0 [] rfl Z a V C xs rfl D.1 (by unfold maxLen;omega) om sm ?_;intro v' j Y X o)
  go_ret;refine⟨_,rfl,?_,((AH _ _).alloc (AC _) _).grown X sm (λk e=>by cases e;exact AC _)⟩
  simpa[AO,Ch]using Y
 ·go_enter func124,ntmps124
  go_wp2_with fail
  refine(abv a V C xs w B H).mono ?_;rintro e w1 ⟨v,rfl,U,s⟩;go_wp2;go_ret;exact⟨_,rfl,U,s⟩
theorem adc{xs ys:List Int}(X:∀x∈xs,0<=x/\x<=255)(Y:∀x∈ys,0<=x/\x<=255)(h1:(strOfNums xs).data.toList=(strOfNums ys).data.toList):xs=ys:=by
 simp only[strOfNums_data]at h1;have h2:=congrArg (List.map λb:UInt8=>(b.toNat:Int)) h1;simp only[List.map_map]at h2;have f:∀l:List Int,(∀x∈l,0<=x/\x<=255)->l.map ((λb:UInt8=>(b.toNat:Int)) ∘ λn=>UInt8.ofNat n.toNat)=l:=by
  intro l V
  conv=>rhs;rw[<-List.map_id l]
  refine OJ λx Z=>?_;have:=V x Z;simp;omega
 rwa[f xs X,f ys Y]at h2
theorem Gh{w:World}{a:Option Addr}{len:Nat}{xs:List Int}(h:Bys w a len xs)(cap:Nat) :Sem.run ZP (convert 32 9 (slice a len cap)) w=.ok (.string (strOfNums xs)) w:=by
 obtain⟨⟨h1,h2⟩,J⟩:=h
 by_cases h0:len=0
 ·subst h0;have Z:xs=[]:=Bz h1;subst Z
  cases a with
  |none=>exact run_convert_bytes_nil w _ _ underlying32 underlying5 0 cap _ underlying9
  |some ad=>
   rw[run_convert_bytes_string w 32 9 _ _ 0 cap underlying32 underlying5 underlying9];have X:(loadCells ad 0).run ZP w=.ok (([]:List Int).map (Value.int .u8)).toArray w:=by simpa using run_loadCells_list (P:=ZP) w ad [] (λj v V=>by simp at V)
   rw[run_bytesToString w ad 0 cap [] X]
   rfl
 ·obtain⟨b,off,rfl,Y,U⟩:=h2.resolve_left h0;refine run_convert_bytes_arg w _ _ underlying32 underlying5 b off len cap xs h1 (λi N=>?_) _ underlying9;rw[U i (xs[i]'om) (Ar _)];simp[List.getD,Ar (show i<xs.length by omega)]
theorem Ms{xs ys:List Int}(Y:∀x∈xs,0<=x/\x<=255)(Z:∀x∈ys,0<=x/\x<=255):((strOfNums xs).toList==(strOfNums ys).toList)=decide (xs=ys):=by
 by_cases h:xs=ys
 ·subst h;simp
 ·have:(strOfNums xs).toList≠(strOfNums ys).toList:=λe=>h (adc Y Z (by rwa[ByteArray.toList_eq,ByteArray.toList_eq]at e));simp[h,this]
theorem ae1(a:Option Addr)(Z N:Nat)(xs:List Int)(w:World)(U:Bys w a Z xs)(V:Z<=1000000) :Calls ZP 175 #[slice a Z N] w λe w'=>∃X c1,e=.returned (slice X Z c1)/\Bys w' X Z (xs.map BE)/\Br w w':=
 (abv a Z N xs w U V).mono λe w' ⟨v,H,Y,D⟩=>by obtain⟨X,c1,rfl,_,h⟩:=KL Y (λx I=>by obtain⟨y,J,rfl⟩:=Be.1 I;exact JW (U.2 y J));exact⟨X,c1,H,h,D⟩
theorem abK(fold:Bool)(a b:Option Addr)(X ca Y j:Nat)(xs ys:List Int)(w:World)(H:Bys w a X xs)(hB:Bys w b Y ys)(C:X<=1000000)(D:Y<=1000000) :Calls ZP 161 #[bool fold,slice a X ca,slice b Y j] w λe w'=>e=.returned (bool (CH fold xs ys))/\Br w w':=by
 cases fold
 ·have c1:=Gh H;have c2:=Gh hB;go_enter func161,ntmps161;go_wp2;go_ret;exact⟨by simp[CH,AO,Ms H.2 hB.2],AH _ _⟩
 ·have J:Bys w.drew a X xs:=H;have v:Bys w.drew b Y ys:=hB;go_enter func161,ntmps161;go_wp2
  go_region_with (first
   |(go_at_call 175;refine(ae1 a X ca xs w.drew J C).mono ?_;rintro e w1 ⟨a1,c1,rfl,I,Z⟩;have a8:=Gh I;have s:=v.below Z;clear J)
   |(go_at_call 175;refine(ae1 b Y j ys w1 s D).mono ?_;rintro e w2 ⟨a2,c2,rfl,o,N⟩;have a7:=Gh (I.below N);have a6:=Gh o))
  all_goals
   go_wp2;go_ret;have U:∀x∈xs.map BE,0<=x/\x<=255:=λx U=>by obtain⟨y,V,rfl⟩:=Be.1 U;exact JW (H.2 y V)
   have V:∀x∈ys.map BE,0<=x/\x<=255:=λx U=>by obtain⟨y,V,rfl⟩:=Be.1 U;exact JW (hB.2 y V)
   have A:Br w w.drew:=⟨rfl,rfl,rfl,AC _,λ_ _=>rfl⟩;have B:Br w w2:=A.trans (Z.trans (N.mono Z.size));refine⟨?_,B⟩;show Ending.returned (bool ((strOfNums (xs.map BE)).toList==(strOfNums (ys.map BE)).toList))=_;rw[Ms U V]
   rfl
theorem ao1(fold:Bool)(a b:Option Addr)(U D Z H:Nat)(place:Int)(xs ys:List Int)(w:World)(I:Bys w a U xs)(hB:Bys w b Z ys)(A:U<=D)(B:U<=1000000)(N:Z<=1000000)(y:-9223372036854775808<=place/\place<=9223372036854775807) :Calls ZP 105 #[bool fold,slice a U D,int i64 place,slice b Z H] w λe w'=>e=.returned (bool (atL fold xs place ys))/\Br w w':=by
 have X:=I.len;have Y:=hB.len
 by_cases h1:(Z:Int)<=place
 ·by_cases h2:place<=(U:Int)
  ·obtain⟨p,rfl⟩:∃p:Nat,place=p:=⟨place.toNat,by omega⟩;have V:Hid (atL fold xs p ys=CH fold ((xs.drop (p-Z)).take (p-(p-Z))) ys):=by
    unfold Hid atL;rw[X,Y,Ve ⟨h1,h2⟩,FJ,Aa,show p-(p-Z)=Z by omega]
   clear X Y;go_enter func105,ntmps105
   go_wp2_with fail
   ·refine(abK fold _ b _ _ Z H _ ys w (I.cut0 (lo:=p-Z) (m:=p-(p-Z)) om) hB om N).mono ?_;rintro e C ⟨rfl,J⟩;go_wp2;go_ret;exact⟨by rw[V.out];rfl,J⟩
   ·refine(abK fold _ b _ _ Z H _ ys w (I.cut (lo:=p-Z) (m:=p-(p-Z)) om) hB om N).mono ?_;rintro e C ⟨rfl,J⟩;go_wp2;go_ret;exact⟨by rw[V.out];rfl,J⟩
  ·have V:Hid (atL fold xs place ys=false):=by
    unfold Hid atL;rw[X,Y,decide_eq_false om,Bool.false_and]
   clear X Y;go_enter func105,ntmps105;go_wp2;go_ret;exact⟨by rw[V.out];rfl,AH _ _⟩
 ·have V:Hid (atL fold xs place ys=false):=by
   unfold Hid atL;rw[X,Y,decide_eq_false om,Bool.false_and]
  clear X Y;go_enter func105,ntmps105;go_wp2;go_ret;exact⟨by rw[V.out];rfl,AH _ _⟩
theorem ahF(fold:Bool)(a b:Option Addr)(U v Y cb:Nat)(xs:List Int)(wss:Lq)(w:World)(hA:Bys w a U xs)(H:U<=1000000)(hB:Wds w b Y wss)(a1:Y<=1000000)(hM:∀x∈wss,x.length<=1000000) :Calls ZP 123 #[bool fold,slice a U v,slice b Y cb] w λe w'=>e=.returned (int i64 (BV fold xs wss))/\Br w w':=by
 have s:=AA hB.len;go_enter func123,ntmps123;go_wp2
 go_loopw[7] (λi wr=>∃k:Nat,k<=Y/\i=int i64 k/\Hid (BV fold xs (wss.take k)=-1)/\Br w wr) (λi _=>Y-(intOf i).toNat)
 case atStart=>exact⟨0,AR _,rfl,by simp[Hid,acn],AH _ _⟩
 case round=>
  obtain⟨k,hk,rfl,A,Z⟩:=hrel;have B:=hA.below Z;have C:=hB.below Z
  by_cases I:k<Y
  ·obtain⟨bb,off,a',l,c,x,rfl,a2,D,J,y,j⟩:=C.at_ I;have N:l<=1000000:=by have:=Ff hM J;rw[y.len]at this;exact this
   go_wp2_with fail
   refine(abK fold a a' U v l c xs x wr B y H N).mono ?_;rintro e o ⟨rfl,hb⟩;have X:Br w o:=Z.trans (hb.mono Z.size)
   cases e:CH fold xs x with
   |true=>
    have V:Hid (BV fold xs wss=k):=by have h:=acK (rest:=wss.drop (k+1)) A e;rw[<-Mu J]at h;rw[Hid,h,Ag,s.out];omega
    go_wp2;go_ret;exact⟨by rw[V.out];rfl,X⟩
   |false=>
    have V:Hid (BV fold xs (wss.take (k+1))=-1):=by rw[As J];exact aai A e
    go_wp2
    go_roundw
    case rel=>exact⟨k+1,by omega,by go_num,V,X⟩
    case measure=>simp[intOf];omega
  ·obtain rfl:k=Y:=by omega
   have V:Hid (BV fold xs wss=-1):=by
    have h:=A
    rwa[Ap (by rw[s.out];exact AC _)]at h
   go_wp2;go_ret;exact⟨by rw[V.out];rfl,Z⟩
def Dt:List Int->List (Bool×Int)
 |[]=>[]
 |c::cs=>(true,c)::cs.map (λc=>(false,c))
def Ad(fold:Bool)(wss:Lq):List (Bool×Int):=wss.flatMap λw=>Dt (AO fold w)
theorem Ks(ys:List Int):(Dt ys).length=ys.length:=by cases ys<;>simp[Dt]
theorem aja{ys:List Int}{i:Nat}{c:Int}(h:ys[i]?=some c):(Dt ys)[i]?=some (((i:Int)==0),c):=by
 cases ys with
 |nil=>simp at h
 |cons y ys=>
  cases i with
  |zero=>simp at h;simp[Dt,h]
  |succ i=>
   simp at h;simp[Dt,h];omega
theorem abQ(fold:Bool)(wss:Lq)(x:List Int):Ad fold (wss++[x])=Ad fold wss++Dt (AO fold x):=by simp[Ad]
theorem aeM(fold:Bool)(wss:Lq){k:Nat}{x:List Int}(h:wss[k]?=some x):(Ad fold (wss.take k)).length+x.length<=(Ad fold wss).length:=by
 have e:=Mu h;have e2:Ad fold wss=Ad fold (wss.take k)++(Dt (AO fold x)++Ad fold (wss.drop (k+1))):=by
  conv=>lhs;rw[e]
  simp[Ad]
 rw[e2];simp[Ks,Ew]
theorem amF{fold:Bool}{xs:List Int}{i:Nat}{c:Int}(h:xs[i]?=some c):(AO fold xs)[i]?=some (if fold then BE c else c):=by rw[Fg,BU,h];rfl
structure NSt where
 f:Int×Int->Option Int
 many:Int
 node:Int
def IA(s:NSt)(p:Bool×Int):NSt:=
 let node:=if p.1 then 0 else s.node
 match s.f (node,p.2)with
 |some m=>{s with node:=m}
 |none=>{f:=λq=>if q=(node,p.2) then some s.many else s.f q,many:=s.many+1,node:=s.many}
def Ae(l:List (Bool×Int)):NSt:=l.foldl IA ⟨λ_=>none,1,0⟩
theorem NV(l:List (Bool×Int))(p:Bool×Int):Ae (l++[p])=IA (Ae l) p:=by simp[Ae,FI]
theorem aas{s:NSt}{p:Bool×Int}{m:Int}(h:s.f (if p.1 then 0 else s.node,p.2)=some m):IA s p={s with node:=m}:=by unfold IA;simp only[h]
theorem abu{s:NSt}{p:Bool×Int}(h:s.f (if p.1 then 0 else s.node,p.2)=none):IA s p={f:=λq=>if q=(if p.1 then 0 else s.node,p.2) then some s.many else s.f q,many:=s.many+1,node:=s.many}:=by unfold IA;simp only[h]
theorem anV(l:List (Bool×Int)):1<=(Ae l).many/\(Ae l).many<=l.length+1/\0<=(Ae l).node/\(Ae l).node<=l.length/\∀q m,(Ae l).f q=some m->0<=m/\m<=l.length:=by
 obtain⟨n,V⟩:∃n,l.length=n:=⟨_,rfl⟩
 induction n generalizing l with
 |zero=>
  obtain rfl:=Bz V;simp[Ae]
 |succ n ih=>
  obtain⟨Y,x,rfl⟩:∃Y x,l=Y++[x]:=⟨l.dropLast,l.getLast (by intro h;simp[h]at V),(Em _).symm⟩;obtain⟨h1,h2,h3,h4,h5⟩:=ih Y (by simpa using V);rw[NV];unfold IA;simp only[List.length_append,Ao,Bw]
  cases e:(Ae Y).f (if x.1=true then 0 else(Ae Y).node,x.2)with
  |some m=>
   have:=h5 _ _ e;refine⟨h1,by dsimp only;omega,this.1,by dsimp only;omega,λq k Z=>?_⟩;have:=h5 q k Z;omega
  |none=>
   refine⟨by dsimp only;omega,by dsimp only;omega,by dsimp only;omega,by dsimp only;omega,λq k Z=>?_⟩;dsimp only at Z
   by_cases X:q=(if x.1=true then 0 else(Ae Y).node,x.2)
   ·rw[Vb X]at Z;have:=AK Z;omega
   ·rw[Va X]at Z;have:=h5 q k Z;omega
def Kq(c:Int×Int×Int×Int)(x:List Int):Int×Int×Int×Int:=
 (c.1+1,c.2.1+x.length,max c.2.2.1 x.length,if c.1=0∨(x.length:Int)<c.2.2.2 then(x.length:Int) else c.2.2.2)
def cnt(wss:Lq):Int×Int×Int×Int:=wss.foldl Kq (0,0,0,0)
theorem ad5(l:Lq)(x:List Int):cnt (l++[x])=Kq (cnt l) x:=by simp[cnt,FI]
theorem aoM{M:Nat}(l:Lq)(h:∀x∈l,x.length<=M):(cnt l).1=l.length/\0<=(cnt l).2.1/\(cnt l).2.1<=l.length*(M:Int):=by
 obtain⟨n,Y⟩:∃n,l.length=n:=⟨_,rfl⟩
 induction n generalizing l with
 |zero=>
  obtain rfl:=Bz Y;simp[cnt]
 |succ n ih=>
  obtain⟨Z,x,rfl⟩:∃Z x,l=Z++[x]:=⟨l.dropLast,l.getLast (by intro h;simp[h]at Y),(Em _).symm⟩;obtain⟨h1,h2,h3⟩:=ih Z (λy X=>h y (by simp[X])) (by simpa using Y);have V:=h x sm;rw[ad5];have e:((Z++[x]).length:Int)*(M:Int)=Z.length*(M:Int)+M:=by rw[List.length_append,Ao,Bw,LK,Jr];simp
  rw[e];simp only[Kq];refine⟨by rw[h1];simp,by omega,by omega⟩
def Ku(W Y Z Sh N:Int):Nat->Bool
 |0=>decide (W=0)
 |1=>decide (W > 64)
 |2=>decide (Sh=0)
 |3=>decide (Z > 32)
 |4=>decide (Y > 600)
 |_=>decide (N > 400)
def JX(f:Nat->Bool):Int:=match (List.range 6).find? f with|some k=>50+k|none=>0
theorem ae6{f:Nat->Bool}{k:Nat}(hk:k<6)(h:∀j,j<k->f j=false)(Z:f k=true):JX f=50+k:=by
 have:(List.range 6).find? f=some k:=by
  have:k=0∨k=1∨k=2∨k=3∨k=4∨k=5:=by omega
  rcases this with rfl|rfl|rfl|rfl|rfl|rfl<;>simp[List.range,List.range.loop,List.find?,Z,h]
 simp[JX,this]
theorem acT{f:Nat->Bool}(h:∀j,j<6->f j=false):JX f=0:=by simp[JX,List.range,List.range.loop,List.find?,h]
def Ey(fold:Bool)(wss:Lq):Int:=JX (Ku (cnt wss).1 (cnt wss).2.1 (cnt wss).2.2.1 (cnt wss).2.2.2 (Ae (Ad fold wss)).many)
section
attribute[local go_sem] Oper.semAt_some
attribute[local simp] Ak Al
attribute[local go_sem] Ak Al
theorem ac6(fold:Bool)(a:Option Addr)(Z Y:Nat)(w:World) :Calls ZP 293 #[.bool fold,.slice a Z Y] w λe w'=>e=.returned (.func (.func 297) #[] #[.pointer (some ⟨w.heap.size+1,0,none⟩),.pointer (some ⟨w.heap.size,0,none⟩)])/\
   w'=(w.alloc (.cells #[bool fold] 4)).alloc (.cells #[slice a Z Y] 22):=by
 go_enter func293,ntmps293;go_wp2;go_ret;exact⟨rfl,rfl⟩
abbrev BgP:={p:Bool×Int // 0<=p.2/\p.2<=255}
def Nt(p:BgP):Array Value:=#[bool p.1.1,.int .u8 p.1.2]
theorem aiE(fold:Bool)(a:Option Addr)(H ca p1 p2:Nat)(wss:Lq)(n:Nat)(w0 w:World)(S:Nat->Prop)(hA:Wds w0 a H wss)(aj:Br w0 w)(hS:∀k,k<w0.heap.size->S k)(ai:S p1)(ag:S p2)(af:∀k,S k->k<w.heap.size)
  (ao:H<=1000000) (hM:∀x∈wss,x.length<=1000000)
  (h1:w.heap[p1]?=some (.cells #[slice a H ca] 22 (0,0))) (h2:w.heap[p2]?=some (.cells #[bool fold] 4 (0,0))) :
  SeqStopsK Fence.wide n ZP 297 #[pointer (some ⟨p1,0,none⟩),pointer (some ⟨p2,0,none⟩)] Nt (Cc S) (λzs=>zs.map Subtype.val=Ad fold wss) (λ_=>True) ((Ad fold wss).length+1) w:=by
 intro l J Jx W hW hJ ar hY h0;have a2:Cc S w W:=Ke hW af;have cells:∀v:World,Cc S w v->v.cell? ⟨p1,0,none⟩=some (slice a H ca)/\v.cell? ⟨p2,0,none⟩=some (bool fold):=by intro v hv;have e1:v.heap[p1]?=_:=(hv p1 ai).trans h1;have e2:v.heap[p2]?=_:=(hv p2 ag).trans h2;simp[cell?,e1,e2]
 have a6:∀v:World,Cc S w v->kept w0 v:=λv hv k hk=>(hv k (hS k hk)).trans (aj.block k hk);have HL:=AA hA.len;have ak:=AA hA;clear hA;obtain⟨c1,c2⟩:=cells W a2;refine callsIn_of_wp func297 rfl trivial ?_ rfl;simp only[ntmps297,Cw,Ao,Bw,Nat.reduceAdd,Nat.reduceSub,Dd,Dc,DX,Da,Av,CT]
 gi_wp2
 clear c1 c2
 gi_loopw[10] (λi wr=>∃(k:Nat)(Z:List BgP),k<=H/\i=int i64 k/\Hid (Z.map Subtype.val=Ad fold (wss.take k))/\J Z wr/\Cc S w wr) (λi _=>H-(intOf i).toNat)
 case atStart=>exact⟨0,[],AR _,rfl,by simp[Hid,Ad],h0,a2⟩
 case round=>
  obtain⟨k,Z,hk,rfl,D,B,I⟩:=hrel;obtain⟨c1,c2⟩:=cells wr I
  by_cases ab:k<H
  ·obtain⟨bb,off,a',l',c,x,rfl,ae,Y,hx,hX,am⟩:=ak.out.at_ ab;have s:wr.cell? ⟨bb,off+k,none⟩=some (slice a' l' c):=(Kd (a6 wr I) (p:=⟨bb,off+k,none⟩) ae).trans Y;have al:l'<=1000000:=by have:=Ff hM hx;rw[hX.len]at this;exact this
   have HX:=AA hx;have N:=AA hX;clear Y hx hX
   gi_wp2
   gi_loopw[16] (λi wi=>∃(j:Nat)(Z:List BgP),j<=l'/\i=int i64 j/\Hid (Z.map Subtype.val=Ad fold (wss.take k)++(Dt (AO fold x)).take j)/\J Z wi/\Cc S w wi) (λi _=>l'-(intOf i).toNat)
   case atStart=>exact⟨0,Z,AR _,rfl,by simpa[Hid]using D,B,I⟩
   case round=>
    clear D B I c1 c2 s;obtain⟨j,Z,ap,rfl,D,B,U⟩:=hrel;obtain⟨c1,c2⟩:=cells wr U
    by_cases a7:j<l'
    ·obtain⟨y,hy⟩:∃y,x[j]?=some y:=⟨x[j]'(by rw[N.out.len];exact a7),by simp⟩;obtain⟨aa,oy,rfl,ac,a1⟩:=N.out.1.2.resolve_left om;have X:=N.out.2 y (AX hy);have a8:=JW X;have aq:wr.cell? ⟨aa,oy+j,none⟩=some (.int .u8 y):=(Kd (a6 wr U) (p:=⟨aa,oy+j,none⟩) ac).trans (a1 j y hy);have V:Z.length<(Ad fold wss).length+1:=by
      have h1:=congrArg List.length D.out;have h2:=aeM fold wss HX.out;simp[Ks,Ew]at h1;have:=N.out.len;omega
     have HB:=AA (aja (amF (fold:=fold) hy));clear hy a1
     cases fold
     ·obtain⟨fn,tmps,assign,body,C,o⟩:=hY Z ⟨(((j:Int)==0),y),X⟩ wr B V;have HS:Hid ((Z++[(⟨(((j:Int)==0),y),X⟩:BgP)]).map Subtype.val=Ad false (wss.take k)++(Dt (AO false x)).take (j+1)):=by
       rw[As HB.out,<-CE,<-D.out];simp[Hid]
      dsimp only[Nt]at C
      gi_wp2
      refine o.mono ?_;rintro e W4 (⟨rfl,hJ4,hk4⟩|⟨rfl,hJx4⟩)
      ·gi_wp2
       go_roundw
       case rel=>exact⟨j+1,_,by omega,by go_num,HS,hJ4,GD U hk4⟩
       case measure=>simp[intOf];omega
      ·gi_wp2
       refine Vl (results_none rfl _ _ _) rfl ?_;exact⟨⟨_,rfl⟩,.inr ⟨_,trivial,hJx4⟩⟩
     ·obtain⟨fn,tmps,assign,body,C,o⟩:=hY Z ⟨(((j:Int)==0),BE y),a8⟩ wr B V;have HS:Hid ((Z++[(⟨(((j:Int)==0),BE y),a8⟩:BgP)]).map Subtype.val=Ad true (wss.take k)++(Dt (AO true x)).take (j+1)):=by
       rw[As HB.out,<-CE,<-D.out];simp[Hid]
      dsimp only[Nt]at C
      gi_wp2_with fail
      refine(callsIn_wide.2 (ads y wr X.1 X.2)).mono ?_;rintro e W3 ⟨rfl,rfl⟩
      gi_wp2
      refine o.mono ?_;rintro e W4 (⟨rfl,hJ4,hk4⟩|⟨rfl,hJx4⟩)
      ·gi_wp2
       go_roundw
       case rel=>exact⟨j+1,_,by omega,by go_num,HS,hJ4,GD U hk4⟩
       case measure=>simp[intOf];omega
      ·gi_wp2
       refine Vl (results_none rfl _ _ _) rfl ?_;exact⟨⟨_,rfl⟩,.inr ⟨_,trivial,hJx4⟩⟩
    ·obtain rfl:j=l':=by omega
     gi_wp2
     go_roundw
     case rel=>
      refine⟨k+1,Z,by omega,by go_num,?_,B,U⟩;have A:(Dt (AO fold x)).take j=Dt (AO fold x):=Ap (by rw[Ks,Ew,N.out.len];exact AC _);rw[Hid,D.out,As HX.out,abQ,A]
     case measure=>simp[intOf];omega
  ·obtain rfl:k=H:=by omega
   gi_wp2
   go_end0
   refine⟨⟨_,rfl⟩,.inl ⟨Z,?_,B⟩⟩;show Z.map Subtype.val=Ad fold wss;rw[D.out,Ap (by have:=HL.out;omega)]
end
section
open Go.RowKit Go.Sort Go.Maps
attribute[local go_sem] Oper.semAt_some
attribute[local simp] Ak Al
attribute[local go_sem] Ak Al
theorem akO:laidOutB ZP=true:=by kernel_rfl
theorem Ih:Keyed ZP 394:=Keyed.of_law (deep_law_laid akO (m:=ZP.types.size+1) (Vc kr) (Vc kr) kr kr)
theorem Me(w:World):(zeroValue 3).run ZP w=.ok (int i64 0) w:=by kernel_rfl
theorem apg(n c:Int)(J:-9223372036854775808<=n/\n<=9223372036854775807)(I:0<=c/\c<=255):∃X,keyOf ZP 394 (.agg #[int i64 n,.int .u8 c])=some X:=by
 have hk:ZP.keyType 394=true:=by kernel_rfl
 have h0:0<ZP.types.size:=Vc kr;obtain⟨m,V⟩:∃m,ZP.types.size+1=m+1+1:=⟨ZP.types.size-1,by omega⟩;have N:ZP.cellsOf 394=2:=by kernel_rfl
 have e2:ZP.cellsOf 3=1:=by kernel_rfl
 have U:ZP.cellsOf 5=1:=by kernel_rfl
 have Y:(Lit.int .i64 n).wf=true:=by simp[Lit.wf,IntKind.min,IntKind.max,IntKind.signed,IntKind.bits];omega
 have Z:(Lit.int .u8 c).wf=true:=by simp[Lit.wf,IntKind.min,IntKind.max,IntKind.signed,IntKind.bits];omega
 unfold keyOf;rw[underlying394,V];refine⟨.string (keyBytes [.int .i64 n,.int .u8 c]),?_⟩;simp[hk,Value.formed,Value.cells,Program.keyLits,underlying394,underlying3,underlying5,N,e2,U,Y,Z]
def KM(D:DataW Unit)(f:Int×Int->Option Int):Prop:=IsMap D/\∀n c Z,0<=n->n<=2000000->0<=c->c<=255->keyOf ZP 394 (.agg #[int i64 n,.int .u8 c])=some Z->
 Maps.has D Z=(f (n,c)).isSome/\∀m,f (n,c)=some m->D.atKey Z (.lit (.int .i64 0))=.lit (.int .i64 m)
theorem KM.start:KM (.map []) (λ_=>none):=⟨isMap_empty,λn c Z _ _ _ _ _=>⟨rfl,λm h=>by cases h⟩⟩
theorem KM.put{D:DataW Unit}{f:Int×Int->Option Int}(h:KM D f){n c m:Int}{U:Lit}(hk:keyOf ZP 394 (.agg #[.int .i64 n,.int .u8 c])=some U) :KM (D.put U (.lit (.int .i64 m))) (λq=>if q=(n,c) then some m else f q):=by
 have X:=Ih.key hk;refine⟨h.1.put _ _,λJ I Y H a2 a3 a4 Z=>?_⟩
 by_cases e:Y=U
 ·subst e;have:=Ih.inj Z hk;simp only[Value.agg.injEq,Array.mk.injEq,MY,Value.int.injEq,true_and,and_true]at this;obtain⟨rfl,rfl⟩:=this;refine⟨by rw[has_put_same h.1 X];simp,λk V=>?_⟩;simp only[if_true]at V;obtain rfl:=AK V;rw[atKey_put_same h.1 X]
 ·have N:¬((J,I)=(n,c)):=by
   intro e2;simp only[Jk]at e2;obtain⟨rfl,rfl⟩:=e2;rw[hk]at Z;exact e (AK Z).symm
  simp only[Va N];obtain⟨h1,h2⟩:=h.2 J I Y H a2 a3 a4 Z;refine⟨by rw[has_put_other e,h1],λk V=>?_⟩;rw[atKey_put_other e,h2 k V]
theorem JQ{W:World}{b n g:Nat}{D:DataW Unit}{P:Program}{k:TypeId}{R:Value->Option (DataW Unit×List MemPlace)}(h:W.ownsMap P k R b n D)(Z:b≠g)(u:Value):(W.setCell ⟨g,0,none⟩ u).ownsMap P k R b n D:=h.kept (grownBy_setCell' W g u) (λe=>Z (by injection e))
theorem anW{B b:Nat}{P:Program}{k:TypeId}{R:Value->Option (DataW Unit×List MemPlace)}(V:b<B){β:Type}(f:β->Nat)(p:β->DataW Unit->Prop):OwnFrom B (λs W=>∃D,W.ownsMap P k R b (f s) D/\p s D):=λs A C row ⟨D,h,Y⟩ X Z=>⟨D,h.kept X (λe=>by have:=(Z _ e.symm).1;omega),Y⟩
theorem Lr{W:World}{k:Nat}(h:W.heap.size=k)(t:TypeId)(v:Value):Boxed (W.alloc (.cells #[v] t)) k t v:=h ▸ Boxed.new W t v
theorem JU(W:World)(g:Nat)(u:Value):W.grownBy (W.setCell ⟨g,0,none⟩ u) (some g):=grownBy_setCell' W g u
structure Tn(n:Nat)(W W':World):Prop where
 os:W'.os=W.os
 tape:W'.tape=W.tape
 output:W'.output=W.output
 size:W.heap.size<=W'.heap.size
 block:∀k,k<W.heap.size->k<n∨n+1+1+1<k∨k=n+1->W'.heap[k]?=W.heap[k]?
theorem Tn.refl(n:Nat)(W:World):Tn n W W:=⟨rfl,rfl,rfl,AC _,λ_ _ _=>rfl⟩
theorem Tn.grown{n:Nat}{A B C:World}{row:Option Nat}(h:Tn n A B)(Z:B.grownBy C row)(Y:∀k,row=some k->k=n∨k=n+1+1∨k=n+1+1+1):Tn n A C:=⟨Z.os.trans h.os,Z.tape.trans h.tape,Z.output.trans h.output,AS h.size Z.size,λk hk ho=>(Z.block k (Af hk h.size) (λe=>by have:=Y k e.symm;omega)).trans (h.block k hk ho)⟩
theorem Tn.below{n:Nat}{w A B:World}(h:Tn n A B)(Z:Below n w A)(Y:n<=A.heap.size):Below n w B:=⟨h.os.trans Z.os,h.tape.trans Z.tape,h.output.trans Z.output,AS Z.size h.size,λk hk=>(h.block k (Af hk Y) (.inl hk)).trans (Z.block k hk)⟩
theorem Tn.keeps{n B:Nat}{A C:World}(h:Tn n A C)(hB:n+1+1+1<B):KeepsFrom B A C:=⟨h.size,λk o hk ho _=>(h.block k (AD.1 ho).1 (.inr (.inl om))).trans ho⟩
theorem aks(fold:Bool)(a:Option Addr)(la ca:Nat)(wss:Lq)(w:World)(hA:Wds w a la wss)(ao:la<=1000000)(hM:∀x∈wss,x.length<=1000000)(hT:(Ad fold wss).length<=1000000) :Calls ZP 286 #[bool fold,slice a la ca] w λe w'=>e=.returned (int i64 (Ae (Ad fold wss)).many)/\Br w w':=by
  have aw:=@run_makeMap ZP;refine Hc func286 rfl ?_;simp only[ntmps286,Cw,Ao,Bw,Nat.reduceAdd,Nat.reduceSub,Dd,Dc,DX,Da,Av,CT]
  go_wp2_with (go_at_call 293;refine(ac6 _ _ _ _ _).mono ?_;rintro e w' ⟨rfl,rfl⟩)
  obtain⟨W3,J⟩:∃W3,W3=((((((w.alloc (.map #[] 0)).alloc (.cells #[.map (some w.heap.size)] 389)).alloc (.cells #[int i64 1] 3)).alloc (.cells #[int i64 0] 3)).alloc (.cells #[bool fold] 4)).alloc (.cells #[slice a la ca] 22)):=⟨_,rfl⟩;rw[<-J];have m0:W3.ownsMap ZP 394 (plainElem ZP 3) w.heap.size 0 (.map []:DataW Unit):=by rw[J];exact(((((MQ w ZP 394 (plainElem ZP 3)).alloc _).alloc _).alloc _).alloc _).alloc _
  have b1:Boxed W3 (w.heap.size+1) 389 (.map (some w.heap.size)):=by rw[J];exact((((Lr sm _ _).alloc _).alloc _).alloc _).alloc _
  have b2:Boxed W3 (w.heap.size+1+1) 3 (int i64 1):=by rw[J];exact(((Lr sm _ _).alloc _).alloc _).alloc _
  have b3:Boxed W3 (w.heap.size+1+1+1) 3 (int i64 0):=by rw[J];exact((Lr sm _ _).alloc _).alloc _
  have b4:Boxed W3 (w.heap.size+1+1+1+1) 4 (bool fold):=by rw[J];exact(Lr sm _ _).alloc _
  have b5:Boxed W3 (w.heap.size+1+1+1+1+1) 22 (slice a la ca):=by rw[J];exact Lr sm _ _
  have al:Br w W3:=by rw[J];exact((((((AH _ _).alloc (AC _) _).alloc sm _).alloc (by simp;omega) _).alloc (by simp;omega) _).alloc (by simp;omega) _).alloc (by simp;omega) _
  have av:W3.heap.size=w.heap.size+1+1+1+1+1+1:=by rw[J];simp
  clear J
  apply KI rfl (enters_of func297 kr rfl) (aiE fold a la ca (w.heap.size+1+1+1+1+1) (w.heap.size+1+1+1+1) wss 8 w W3 (λk=>k<w.heap.size∨k=w.heap.size+1+1+1+1+1∨k=w.heap.size+1+1+1+1) hA al (λk hk=>.inl hk) (.inr (.inl rfl)) (.inr (.inr rfl)) (by intro k hk;omega) ao hM b5 b4)
    GD (JR (by intro k hk;omega)) (λ_=>rfl)
    (λZ W=>Boxed W (w.heap.size+1) 389 (.map (some w.heap.size))/\Boxed W (w.heap.size+1+1) 3 (.int .i64 (Ae (Z.map Subtype.val)).many)/\Boxed W (w.heap.size+1+1+1) 3 (.int .i64 (Ae (Z.map Subtype.val)).node)/\
      (∃D:DataW Unit,W.ownsMap ZP 394 (plainElem ZP 3) w.heap.size Z.length D/\KM D (Ae (Z.map Subtype.val)).f)/\Br w W/\W3.heap.size<=W.heap.size)
    (λ_ _ _=>False)
  case hI=>exact OwnFrom.and (Own.from (boxed_own _ _ _) _) (OwnFrom.and (Own.from (boxed_own _ _ _) _) (OwnFrom.and (Own.from (boxed_own _ _ _) _) (OwnFrom.and (anW om _ (λ(Z:List BgP) D=>KM D (Ae (Z.map Subtype.val)).f)) (OwnFrom.and (ownFrom_below (AC _) om) (Li _ _)))))
  case hIx=>exact λ_ _ _ _ _ hs _ _=>hs
  case h0=>exact⟨b1,b2,b3,⟨_,m0,KM.start⟩,al,AC _⟩
  case hassign=>
    intro l x W K hK;unfold Nt
    gi_wp2
    exact hK
  case hbody=>
    rintro l Z ⟨⟨first,c⟩,I,s⟩ W ⟨a8,H,o,⟨D,ae,j⟩,hB,hs⟩ au;dsimp only at I s⊢;obtain⟨g1,g2,g3,g4,_⟩:=anV (Z.map Subtype.val);rw[BP]at g2 g4;have ai:(Lit.int .i64 (Ae (Z.map Subtype.val)).many).wf=true:=by simp[Lit.wf,IntKind.min,IntKind.max,IntKind.signed,IntKind.bits];omega
    cases first with
      |true=>
        have X:(W.setCell ⟨w.heap.size+1+1+1,0,none⟩ (int i64 0)).ownsMap ZP 394 (plainElem ZP 3) w.heap.size Z.length D:=JQ ae om _;have a7:Boxed (W.setCell ⟨w.heap.size+1+1+1,0,none⟩ (int i64 0)) (w.heap.size+1) 389 (.map (some w.heap.size)):=a8.other om _;have a6:Boxed (W.setCell ⟨w.heap.size+1+1+1,0,none⟩ (int i64 0)) (w.heap.size+1+1) 3 (int i64 (Ae (Z.map Subtype.val)).many):=H.other om _;have a2:Boxed (W.setCell ⟨w.heap.size+1+1+1,0,none⟩ (int i64 0)) (w.heap.size+1+1+1) 3 (int i64 0):=o.set _;have y:W.grownBy (W.setCell ⟨w.heap.size+1+1+1,0,none⟩ (int i64 0)) (some (w.heap.size+1+1+1)):=JU _ _ _;have am:W.heap.size<=(W.setCell ⟨w.heap.size+1+1+1,0,none⟩ (int i64 0)).heap.size:=y.size;have a1:=s;obtain⟨kl,U⟩:=apg 0 c om ⟨I,s⟩;obtain⟨V,N⟩:=j.2 0 c kl om om I s U;have q1:=a7.alloc (.cells #[int i64 0,.int .u8 c] 394);have q2:=a6.alloc (.cells #[int i64 0,.int .u8 c] 394);have q3:=a2.alloc (.cells #[int i64 0,.int .u8 c] 394);have aj:=a8.cell;have ak:=H.cell;have ar:=o.cell;have aq:=H.frozen;have ap:=o.frozen;have r1:=q1.cell;have r2:=q2.cell;have r3:=q3.cell;have s2:=q2.frozen;have s3:=q3.frozen;have ac:=AA (NV (Z.map Subtype.val) (true,c))
        cases v:(Ae (Z.map Subtype.val)).f (0,c)with
        |some m=>
          have HF:=AA v;rw[v]at V;have aa:=N m v;clear v N
          gi_wp2_with (gi_at_lookup;refine wpListIn_lookup_own_ok_int _ rfl _ _ 389 rfl 394 3 .i64 Ih underlying389 underlying3 (Me _) w.heap.size Z.length D rfl (X.alloc _) _ kl rfl U ?_;intro c' ab ag;rw[V])
          obtain rfl:c'=m:=by
            have hh:=ab.symm.trans aa
            simpa using hh
          have HN:Hid (Ae ((Z++[(⟨(true,c),I,a1⟩:BgP)]).map Subtype.val)={Ae (Z.map Subtype.val)with node:=c'}):=by
            rw[Aj,BO,DE,ac.out,aas (by simpa using HF.out)]
            rfl
          have T:=(((Tn.refl w.heap.size W).grown y (λk e=>by first|(cases e;omega)|cases e)).grown (MR _ (.cells #[int i64 0,.int .u8 c] 394) none) (λk e=>by cases e)).grown (JU _ (w.heap.size+1+1+1) (int i64 c')) (λk e=>by cases e;omega);refine⟨T.keeps om,λk hk=>T.block k om om,?_⟩;dsimp only;rw[HN.out];exact⟨q1.other om _,q2.other om _,q3.set _,⟨D,by rw[List.length_append];exact(JQ (X.alloc _) om _).mono (Nat.le_succ _),j⟩,T.below hB om,by have:=T.size;omega⟩
        |none=>
          have HF:=AA v;rw[v]at V;clear v N
          gi_wp2_with (first
            |(gi_at_lookup;refine wpListIn_lookup_own_ok_int _ rfl _ _ 389 rfl 394 3 .i64 Ih underlying389 underlying3 (Me _) w.heap.size Z.length D rfl (X.alloc _) _ kl rfl U ?_;intro c' ab ag;rw[V])
            | (gi_at_mapUpdate;refine wpListIn_mapUpdate_own _ rfl _ _ _ 389 rfl 394 3 Ih underlying389 _ w.heap.size Z.length D rfl (X.alloc _) (by unfold maxLen;omega) _ _ kl rfl rfl U _ [] (plainElem_int underlying3 ai) ?_;intro w5 A Y
               have af:=q1.kept Y (by intro e;injection e;omega);have B:=q2.kept Y (by intro e;injection e;omega);have C:=q3.kept Y (by intro e;injection e;omega);have t2:=B.cell;have t3:=C.cell;have u2:=B.frozen;have u3:=C.frozen)
            |gi_in)
          have HN:Hid (Ae ((Z++[(⟨(true,c),I,a1⟩:BgP)]).map Subtype.val)={f:=λq=>if q=(0,c) then some (Ae (Z.map Subtype.val)).many else(Ae (Z.map Subtype.val)).f q,many:=(Ae (Z.map Subtype.val)).many+1,node:=(Ae (Z.map Subtype.val)).many}):=by
            rw[Aj,BO,DE,ac.out,abu (by simpa using HF.out)]
            rfl
          have T:=(((((Tn.refl w.heap.size W).grown y (λk e=>by first|(cases e;omega)|cases e)).grown (MR _ (.cells #[int i64 0,.int .u8 c] 394) none) (λk e=>by cases e)).grown Y (λk e=>by cases e;omega)).grown (JU _ (w.heap.size+1+1) (int i64 ((Ae (Z.map Subtype.val)).many+1))) (λk e=>by cases e;omega)).grown (JU _ (w.heap.size+1+1+1) (int i64 (Ae (Z.map Subtype.val)).many)) (λk e=>by cases e;omega);refine⟨T.keeps om,λk hk=>T.block k om om,?_⟩;dsimp only;rw[HN.out];exact⟨(af.other om _).other om _,(B.set _).other om _,(C.other om _).set _,⟨_,by rw[List.length_append];exact JQ (JQ A om _) om _,j.put U⟩,T.below hB om,by have:=T.size;omega⟩
      |false=>
        have X:W.ownsMap ZP 394 (plainElem ZP 3) w.heap.size Z.length D:=ae;have a7:Boxed W (w.heap.size+1) 389 (.map (some w.heap.size)):=a8;have a6:Boxed W (w.heap.size+1+1) 3 (int i64 (Ae (Z.map Subtype.val)).many):=H;have a2:Boxed W (w.heap.size+1+1+1) 3 (int i64 (Ae (Z.map Subtype.val)).node):=o;have y:W.grownBy W (some (w.heap.size+1+1+1)):=World.grownBy.refl W _;have am:W.heap.size<=W.heap.size:=y.size;have a1:=s;obtain⟨kl,U⟩:=apg (Ae (Z.map Subtype.val)).node c om ⟨I,s⟩;obtain⟨V,N⟩:=j.2 (Ae (Z.map Subtype.val)).node c kl om om I s U;have q1:=a7.alloc (.cells #[int i64 (Ae (Z.map Subtype.val)).node,.int .u8 c] 394);have q2:=a6.alloc (.cells #[int i64 (Ae (Z.map Subtype.val)).node,.int .u8 c] 394);have q3:=a2.alloc (.cells #[int i64 (Ae (Z.map Subtype.val)).node,.int .u8 c] 394);have aj:=a8.cell;have ak:=H.cell;have ar:=o.cell;have aq:=H.frozen;have ap:=o.frozen;have r1:=q1.cell;have r2:=q2.cell;have r3:=q3.cell;have s2:=q2.frozen;have s3:=q3.frozen;have ac:=AA (NV (Z.map Subtype.val) (false,c))
        cases v:(Ae (Z.map Subtype.val)).f ((Ae (Z.map Subtype.val)).node,c)with
        |some m=>
          have HF:=AA v;rw[v]at V;have aa:=N m v;clear v N
          gi_wp2_with (gi_at_lookup;refine wpListIn_lookup_own_ok_int _ rfl _ _ 389 rfl 394 3 .i64 Ih underlying389 underlying3 (Me _) w.heap.size Z.length D rfl (X.alloc _) _ kl rfl U ?_;intro c' ab ag;rw[V])
          obtain rfl:c'=m:=by
            have hh:=ab.symm.trans aa
            simpa using hh
          have HN:Hid (Ae ((Z++[(⟨(false,c),I,a1⟩:BgP)]).map Subtype.val)={Ae (Z.map Subtype.val)with node:=c'}):=by
            rw[Aj,BO,DE,ac.out,aas (by simpa using HF.out)]
            rfl
          have T:=(((Tn.refl w.heap.size W).grown y (λk e=>by first|(cases e;omega)|cases e)).grown (MR _ (.cells #[int i64 (Ae (Z.map Subtype.val)).node,.int .u8 c] 394) none) (λk e=>by cases e)).grown (JU _ (w.heap.size+1+1+1) (int i64 c')) (λk e=>by cases e;omega);refine⟨T.keeps om,λk hk=>T.block k om om,?_⟩;dsimp only;rw[HN.out];exact⟨q1.other om _,q2.other om _,q3.set _,⟨D,by rw[List.length_append];exact(JQ (X.alloc _) om _).mono (Nat.le_succ _),j⟩,T.below hB om,by have:=T.size;omega⟩
        |none=>
          have HF:=AA v;rw[v]at V;clear v N
          gi_wp2_with (first
            |(gi_at_lookup;refine wpListIn_lookup_own_ok_int _ rfl _ _ 389 rfl 394 3 .i64 Ih underlying389 underlying3 (Me _) w.heap.size Z.length D rfl (X.alloc _) _ kl rfl U ?_;intro c' ab ag;rw[V])
            | (gi_at_mapUpdate;refine wpListIn_mapUpdate_own _ rfl _ _ _ 389 rfl 394 3 Ih underlying389 _ w.heap.size Z.length D rfl (X.alloc _) (by unfold maxLen;omega) _ _ kl rfl rfl U _ [] (plainElem_int underlying3 ai) ?_;intro w5 A Y
               have af:=q1.kept Y (by intro e;injection e;omega);have B:=q2.kept Y (by intro e;injection e;omega);have C:=q3.kept Y (by intro e;injection e;omega);have t2:=B.cell;have t3:=C.cell;have u2:=B.frozen;have u3:=C.frozen)
            |gi_in)
          have HN:Hid (Ae ((Z++[(⟨(false,c),I,a1⟩:BgP)]).map Subtype.val)={f:=λq=>if q=((Ae (Z.map Subtype.val)).node,c) then some (Ae (Z.map Subtype.val)).many else(Ae (Z.map Subtype.val)).f q,many:=(Ae (Z.map Subtype.val)).many+1,node:=(Ae (Z.map Subtype.val)).many}):=by
            rw[Aj,BO,DE,ac.out,abu (by simpa using HF.out)]
            rfl
          have T:=(((((Tn.refl w.heap.size W).grown y (λk e=>by first|(cases e;omega)|cases e)).grown (MR _ (.cells #[int i64 (Ae (Z.map Subtype.val)).node,.int .u8 c] 394) none) (λk e=>by cases e)).grown Y (λk e=>by cases e;omega)).grown (JU _ (w.heap.size+1+1) (int i64 ((Ae (Z.map Subtype.val)).many+1))) (λk e=>by cases e;omega)).grown (JU _ (w.heap.size+1+1+1) (int i64 (Ae (Z.map Subtype.val)).many)) (λk e=>by cases e;omega);refine⟨T.keeps om,λk hk=>T.block k om om,?_⟩;dsimp only;rw[HN.out];exact⟨(af.other om _).other om _,(B.set _).other om _,(C.other om _).set _,⟨_,by rw[List.length_append];exact JQ (JQ A om _) om _,j.put U⟩,T.below hB om,by have:=T.size;omega⟩
  case hdone=>
    rintro D xs W hD hS ⟨a8,H,o,hm,hB,hs⟩ hK;have ak:=H.cell;go_wp2;refine Gg rfl hK (results_tmp rfl _ _ _) ⟨?_,FZ hB om (AC _) _⟩;rw[<-hS]
    rfl
  case hstop=>exact λ_ _ _ _ _ _ h _=>h.elim
end
abbrev Kc(W Bs Lg Sh:Int)(f Z:Value):Array Value:=#[int i64 W,int i64 Bs,int i64 Lg,int i64 Sh,f,Z]
theorem JN{w:World}{b:Nat}{t:TypeId}{W Bs Lg Sh:Int}{f Z:Value}(h:w.heap[b]?=some (.cells (Kc W Bs Lg Sh f Z) t (0,0))) :w.cell? ⟨b,0,none⟩=some (int i64 W)/\w.cell? ⟨b,1,none⟩=some (int i64 Bs)/\w.cell? ⟨b,2,none⟩=some (int i64 Lg)/\w.cell? ⟨b,3,none⟩=some (int i64 Sh)/\w.cell? ⟨b,4,none⟩=some f/\w.cell? ⟨b,5,none⟩=some Z/\
  w.frozen? ⟨b,0,none⟩=false/\w.frozen? ⟨b,1,none⟩=false/\w.frozen? ⟨b,2,none⟩=false/\w.frozen? ⟨b,3,none⟩=false:=by
 simp[cell?,frozen?,h]
theorem AJ{w:World}{b i:Nat}{cs:Array Value}{t:TypeId}(h:w.heap[b]?=some (.cells cs t (0,0)))(u:Value):(w.setCell ⟨b,i,none⟩ u).heap[b]?=some (.cells (cs.setIfInBounds i u) t (0,0)):=by simp[World.setCell,Js,h]
theorem BH(W:World)(g i:Nat)(u:Value):W.grownBy (W.setCell ⟨g,i,none⟩ u) (some g):=⟨rfl,rfl,rfl,by simp[World.setCell],λk _ Z=>AQ W ⟨g,i,none⟩ u k (by intro e;exact Z (by rw[e]))⟩
theorem aiX(b:Nat)(W Bs Lg Sh:Int)(f X:Value)(a:Option Addr)(l c:Nat)(w:World)(hb:w.heap[b]?=some (.cells (Kc W Bs Lg Sh f X) 348 (0,0)))
  (h1:0<=W) (h2:W<=1000000) (h3:0<=Bs) (h4:Bs<=1000000000000) (h5:l<=1000000) :
  Calls ZP 254 #[.pointer (some ⟨b,0,none⟩),.slice a l c] w λe w'=>(∃v,e=.returned v)/\
   w'.heap[b]?=some (.cells (Kc (W+1) (Bs+l) (max Lg l) (if W=0∨(l:Int)<Sh then l else Sh) f X) 348 (0,0))/\w.grownBy w' (some b):=by
 obtain⟨c0,c1,c2,c3,c4,c5,I,J,N,U⟩:=JN hb;obtain⟨M,Z⟩:∃M,(if W=0∨(l:Int)<Sh then(l:Int) else Sh)=M:=⟨_,rfl⟩;have Y:Hid ((if W=0∨(l:Int)<Sh then(l:Int) else Sh)=M):=Z;rw[Z];clear Z
 by_cases hW:W=0
 ·subst hW;obtain rfl:(l:Int)=M:=by rw[<-Y.out,Vb (.inl rfl)]
  go_enter func254,ntmps254;go_wp2
  go_end0
  refine⟨⟨_,rfl⟩,?_,(((BH _ _ _ _).trans (BH _ _ _ _)).trans (BH _ _ _ _)).trans (BH _ _ _ _)⟩
  simpa using AJ (i:=1) (AJ (i:=0) (AJ (i:=2) (AJ (i:=3) hb (int i64 l)) (int i64 (max Lg l))) (int i64 1)) (int i64 (Bs+l))
 ·by_cases V:(l:Int)<Sh
  ·obtain rfl:(l:Int)=M:=by rw[<-Y.out,Vb (.inr V)]
   go_enter func254,ntmps254;go_wp2
   go_end0
   refine⟨⟨_,rfl⟩,?_,(((BH _ _ _ _).trans (BH _ _ _ _)).trans (BH _ _ _ _)).trans (BH _ _ _ _)⟩
   simpa using AJ (i:=1) (AJ (i:=0) (AJ (i:=2) (AJ (i:=3) hb (int i64 l)) (int i64 (max Lg l))) (int i64 (W+1))) (int i64 (Bs+l))
  ·obtain rfl:Sh=M:=by rw[<-Y.out,Va om]
   go_enter func254,ntmps254;go_wp2
   go_end0
   refine⟨⟨_,rfl⟩,?_,((BH _ _ _ _).trans (BH _ _ _ _)).trans (BH _ _ _ _)⟩
   simpa using AJ (i:=1) (AJ (i:=0) (AJ (i:=2) hb (int i64 (max Lg l))) (int i64 (W+1))) (int i64 (Bs+l))
def GJ:Nat->FuncId
 |0=>280
 |1=>281
 |2=>282
 |3=>283
 |4=>284
 |_=>285
theorem adV(k:Nat)(args:Array Value)(w:World):Sem.run ZP (callFunc (GJ k) args) w=.ok (.enter (GJ k) args) w:=by
 unfold GJ
 split
 ·exact Vm func280 kr rfl args w
 ·exact Vm func281 kr rfl args w
 ·exact Vm func282 kr rfl args w
 ·exact Vm func283 kr rfl args w
 ·exact Vm func284 kr rfl args w
 ·exact Vm func285 kr rfl args w
section
variable (p b:Nat)(W Bs Lg Sh:Int)(fold:Bool)(a:Option Addr)(la ca:Nat)(w:World)(hp:Boxed w p 380 (pointer (some ⟨b,0,none⟩)))(hb:w.heap[b]?=some (.cells (Kc W Bs Lg Sh (bool fold) (slice a la ca)) 348 (0,0)))
include hp hb
theorem al0:Calls ZP 280 #[pointer (some ⟨p,0,none⟩)] w λe w'=>e=.returned (bool (decide (W=0)))/\w=w':=by have U:=hp.cell;obtain⟨c0,c1,c2,c3,c4,c5,V,X,Y,Z⟩:=JN hb;go_enter func280,ntmps280;go_wp2;go_ret;exact⟨rfl,rfl⟩
theorem am3:Calls ZP 281 #[pointer (some ⟨p,0,none⟩)] w λe w'=>e=.returned (bool (decide (W > 64)))/\w=w':=by have U:=hp.cell;obtain⟨c0,c1,c2,c3,c4,c5,V,X,Y,Z⟩:=JN hb;go_enter func281,ntmps281;go_wp2;go_ret;exact⟨rfl,rfl⟩
theorem amo:Calls ZP 282 #[pointer (some ⟨p,0,none⟩)] w λe w'=>e=.returned (bool (decide (Sh=0)))/\w=w':=by have U:=hp.cell;obtain⟨c0,c1,c2,c3,c4,c5,V,X,Y,Z⟩:=JN hb;go_enter func282,ntmps282;go_wp2;go_ret;exact⟨rfl,rfl⟩
theorem amd:Calls ZP 283 #[pointer (some ⟨p,0,none⟩)] w λe w'=>e=.returned (bool (decide (Lg > 32)))/\w=w':=by have U:=hp.cell;obtain⟨c0,c1,c2,c3,c4,c5,V,X,Y,Z⟩:=JN hb;go_enter func283,ntmps283;go_wp2;go_ret;exact⟨rfl,rfl⟩
theorem am4:Calls ZP 284 #[pointer (some ⟨p,0,none⟩)] w λe w'=>e=.returned (bool (decide (Bs > 600)))/\w=w':=by have U:=hp.cell;obtain⟨c0,c1,c2,c3,c4,c5,V,X,Y,Z⟩:=JN hb;go_enter func284,ntmps284;go_wp2;go_ret;exact⟨rfl,rfl⟩
theorem alm(wss:Lq)(U:Wds w a la wss)(Y:la<=1000000)(V:∀x∈wss,x.length<=1000000)(X:(Ad fold wss).length<=1000000) :Calls ZP 285 #[pointer (some ⟨p,0,none⟩)] w λe w'=>e=.returned (bool (decide ((Ae (Ad fold wss)).many > 400)))/\Br w w':=by
 have J:=hp.cell;obtain⟨c0,c1,c2,c3,c4,c5,y,A,B,C⟩:=JN hb;have kp:=Vi J;have D:=Vi c4;have H:=Vi c5;have I:∀d os,Calls ZP 286 #[bool fold,slice a la ca] (grow (redrawn w d) os) λe w''=>e=.returned (int i64 (Ae (Ad fold wss)).many)/\∃p:Regrown,w''=grow (redrawn w p.d) p.os:=
  λd os=>Calls.regrown_of (aks fold a la ca wss _ (U.below (Vf w d os)) Y V X)
 go_enter func285,ntmps285;go_wp2;refine wp_region_quiet_below mixed kr ?_
 repeat (go_big_quiet_step (exact I _ _))
 refine wpQuiet_nil ?_;rintro _ ⟨⟨N,Z⟩,rfl⟩;go_wp2;go_ret;exact⟨rfl,Vf _ N Z⟩
end
section
attribute[local go_sem] IW
theorem anA(k p b:Nat)(W U V X:Int)(fold:Bool)(a:Option Addr)(Y N:Nat)(w:World)(J:Boxed w p 380 (pointer (some ⟨b,0,none⟩)))(I:w.heap[b]?=some (.cells (Kc W U V X (bool fold) (slice a Y N)) 348 (0,0)))
  (wss:Lq) (B:Wds w a Y wss) (H:Y<=1000000) (C:∀x∈wss,x.length<=1000000) (D:(Ad fold wss).length<=1000000) :
  Calls ZP (GJ k) #[pointer (some ⟨p,0,none⟩)] w λe w'=>e=.returned (bool (Ku W U V X (Ae (Ad fold wss)).many k))/\Br w w':=by
 have Z:∀{f:FuncId}{v:Value},Calls ZP f #[pointer (some ⟨p,0,none⟩)] w (λe w'=>e=.returned v/\w=w')->Calls ZP f #[pointer (some ⟨p,0,none⟩)] w (λe w'=>e=.returned v/\Br w w'):=
  λh=>h.mono λe w' ⟨h1,h2⟩=>⟨h1,by rw[<-h2];exact AH _ _⟩
 match k with
 |0=>exact Z (al0 p b W U V X fold a Y N w J I)
 |1=>exact Z (am3 p b W U V X fold a Y N w J I)
 |2=>exact Z (amo p b W U V X fold a Y N w J I)
 |3=>exact Z (amd p b W U V X fold a Y N w J I)
 |4=>exact Z (am4 p b W U V X fold a Y N w J I)
 |_+5=>exact alm p b W U V X fold a Y N w J I wss B H C D
def Kt(p:Nat):Array Value:=#[int i64 50,.func (.func (GJ 0)) #[] #[pointer (some ⟨p,0,none⟩)],int i64 51,.func (.func (GJ 1)) #[] #[pointer (some ⟨p,0,none⟩)],int i64 52,.func (.func (GJ 2)) #[] #[pointer (some ⟨p,0,none⟩)],
 int i64 53,.func (.func (GJ 3)) #[] #[pointer (some ⟨p,0,none⟩)],int i64 54,.func (.func (GJ 4)) #[] #[pointer (some ⟨p,0,none⟩)],int i64 55,.func (.func (GJ 5)) #[] #[pointer (some ⟨p,0,none⟩)]]
theorem ami(b:Nat)(w:World) :Calls ZP 255 #[.pointer (some ⟨b,0,none⟩)] w λe w'=>e=.returned (.slice (some ⟨w.heap.size+1,0,none⟩) 6 6)/\
   w'=(w.alloc (.cells #[pointer (some ⟨b,0,none⟩)] 380)).alloc (.cells (Kt w.heap.size) 353):=by
 go_enter func255,ntmps255;go_wp2;go_ret;exact⟨rfl,rfl⟩
theorem ajW{w:World}{Z p:Nat}(h:w.heap[Z]?=some (.cells (Kt p) 353 (0,0))){k:Nat}(hk:k<6) :w.cell? ⟨Z,k*2,none⟩=some (int i64 (50+k))/\w.cell? ⟨Z,k*2+1,none⟩=some (.func (.func (GJ k)) #[] #[pointer (some ⟨p,0,none⟩)]):=by
 have:k=0∨k=1∨k=2∨k=3∨k=4∨k=5:=by omega
 rcases this with rfl|rfl|rfl|rfl|rfl|rfl<;>simp[cell?,h,Kt]
theorem ae7(fold:Bool)(a:Option Addr)(N ca:Nat)(wss:Lq)(w:World)(hA:Wds w a N wss)(al:N<=1000000)(hM:∀x∈wss,x.length<=1000000)(hT:(Ad fold wss).length<=1000000) :Calls ZP 223 #[bool fold,slice a N ca] w λe w'=>e=.returned (int i64 (Ey fold wss))/\Br w w':=by
 have HL:=AA hA.len;go_enter func223,ntmps223;go_wp2
 go_loopw[15] (λi wr=>∃k:Nat,k<=N/\i=int i64 k/\Br w wr/\wr.heap[w.heap.size]?=some (.cells (Kc (cnt (wss.take k)).1 (cnt (wss.take k)).2.1 (cnt (wss.take k)).2.2.1 (cnt (wss.take k)).2.2.2 (bool fold) (slice a N ca)) 348 (0,0))) (λi _=>N-(intOf i).toNat)
 case atStart=>exact⟨0,AR _,rfl,(AH _ _).alloc (AC _) _,AT _ _⟩
 case round=>
  obtain⟨k,hk,rfl,U,J⟩:=hrel
  by_cases ak:k<N
  ·obtain⟨bb,off,a',l,c,x,rfl,aw,ao,hx,hX,av⟩:=(hA.below U).at_ ak;have ag:l<=1000000:=by have:=Ff hM hx;rw[hX.len]at this;exact this
   obtain⟨g1,g2,g3⟩:=aoM (M:=1000000) (wss.take k) (λy hy=>hM y (EG hy));have a7:((wss.take k).length:Int)=k:=by rw[Ag,HL.out];omega
   rw[a7]at g1 g3;have HX:=AA hx;have HC:=AA hX.len;clear hx a7
   go_wp2_with fail
   refine(aiX w.heap.size _ _ _ _ (bool fold) (slice (some ⟨bb,off,none⟩) N ca) a' l c wr J om om g2 om ag).mono ?_;rintro e w1 ⟨⟨v,rfl⟩,a6,am⟩;have aq:Br w w1:=U.grown am (by have:=U.size;omega) (λk e=>by cases e;exact AC _);have HN:Hid (cnt (wss.take (k+1))=Kq (cnt (wss.take k)) x):=by rw[As HX.out,ad5];rfl
   go_wp2
   go_roundw
   case rel=>
    refine⟨k+1,by omega,by go_num,aq,?_⟩;rw[HN.out];simp only[Kq,HC.out];exact a6
   case measure=>simp[intOf];omega
  ·obtain rfl:k=N:=by omega
   have V:wss.take k=wss:=Ap (by have:=HL.out;omega);rw[V]at J;clear V;have o:w.heap.size<wr.heap.size:=(AD.1 J).1;have ae:=hA.below U
   go_wp2_with (go_at_call 255;refine(ami _ _).mono ?_;rintro e w' ⟨rfl,rfl⟩)
   obtain⟨X,Y⟩:∃X,X=(wr.alloc (.cells #[pointer (some ⟨w.heap.size,0,none⟩)] 380)).alloc (.cells (Kt wr.heap.size) 353):=⟨_,rfl⟩;have I:Br w X:=by rw[Y];exact(U.alloc om _).alloc (by simp;omega) _
   have A:Br wr X:=by rw[Y];exact((AH _ _).alloc (AC _) _).alloc sm _
   have B:Boxed X wr.heap.size 380 (pointer (some ⟨w.heap.size,0,none⟩)):=by rw[Y];exact(Boxed.new _ _ _).alloc _
   have C:X.heap[wr.heap.size+1]?=some (.cells (Kt wr.heap.size) 353 (0,0)):=by
    rw[Y];have:=AT (wr.alloc (.cells #[pointer (some ⟨w.heap.size,0,none⟩)] 380)) (.cells (Kt wr.heap.size) 353)
    rwa[DN]at this
   have D:X.heap[w.heap.size]?=_:=(A.block _ o).trans J;have ar:=ae.below A;have af:X.heap.size=wr.heap.size+2:=by rw[Y];simp
   rw[<-Y];clear Y A ae;obtain⟨s,a1⟩:∃s,wr.heap.size=s:=⟨_,rfl⟩;rw[a1]at B C af⊢;clear a1
   go_loopw[25] (λi wq=>∃j:Nat,j<=6/\i=int i64 j/\Br X wq/\Hid (∀n,n<j->Ku (cnt wss).1 (cnt wss).2.1 (cnt wss).2.2.1 (cnt wss).2.2.2 (Ae (Ad fold wss)).many n=false)) (λi _=>6-(intOf i).toNat)
   case atStart=>exact⟨0,by omega,rfl,AH _ _,λn hn=>by omega⟩
   case round=>
    obtain⟨j,hj,rfl,Z,HJ⟩:=hrel;have ap:Br w wr:=I.trans (Z.mono I.size)
    by_cases a8:j<6
    ·obtain⟨d0,d1⟩:=ajW ((Z.block _ (AD.1 C).1).trans C) a8;have he:=adV j
     go_wp2_with fail
     have ai:Boxed wr s 380 (pointer (some ⟨w.heap.size,0,none⟩)):=(Z.block _ B.lt).trans B;have a2:wr.heap[w.heap.size]?=_:=(Z.block _ (AD.1 D).1).trans D;have H:=AT wr (.cells #[int i64 (50+(j:Int)),.func (.func (GJ j)) #[] #[pointer (some ⟨s,0,none⟩)]] 353);refine(anA j s w.heap.size _ _ _ _ fold a k ca _ (ai.alloc _) ((Bg _ _ _ (AD.1 a2).1).trans a2) wss ((ar.below Z).below ((AH _ _).alloc (AC _) _)) al hM hT).mono ?_;rintro e w5 ⟨rfl,aa⟩;have ac:Br X w5:=(Z.alloc Z.size _).trans (aa.mono (by have:=Z.size;simp;omega));have ab:Br w w5:=I.trans (ac.mono I.size);have aj:w5.heap[wr.heap.size]?=_:=(aa.block _ (AD.1 H).1).trans H;have q0:w5.cell? ⟨wr.heap.size,0,none⟩=some (int i64 (50+(j:Int))):=by simp[cell?,aj]
     cases e:Ku (cnt wss).1 (cnt wss).2.1 (cnt wss).2.2.1 (cnt wss).2.2.2 (Ae (Ad fold wss)).many j with
     |true=>
      have HC:Hid (Ey fold wss=50+(j:Int)):=ae6 a8 HJ e;go_wp2;go_ret;exact⟨by rw[HC.out];rfl,ab⟩
     |false=>
      have au:Hid (∀n,n<j+1->Ku (cnt wss).1 (cnt wss).2.1 (cnt wss).2.2.1 (cnt wss).2.2.2 (Ae (Ad fold wss)).many n=false):=by
       intro n hn
       by_cases h:n=j
       ·rw[h];exact e
       ·exact HJ n om
      go_wp2
      go_roundw
      case rel=>exact⟨j+1,by omega,by go_num,ac,au⟩
      case measure=>simp[intOf];omega
    ·obtain rfl:j=6:=by omega
     have HC:Hid (Ey fold wss=0):=acT HJ;go_wp2;go_ret;exact⟨by rw[HC.out];rfl,ap⟩
end
end Go.Proofs.YtaamacoicojhnaaGreat
