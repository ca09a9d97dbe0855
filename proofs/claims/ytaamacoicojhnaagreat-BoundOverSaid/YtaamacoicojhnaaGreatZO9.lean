/- Proofs over the given program, part 9. -/
import Derived.Test.YtaamacoicojhnaaGreatZO8
set_option linter.unusedVariables false
set_option linter.unusedSimpArgs false
set_option maxRecDepth 100000
set_option maxHeartbeats 16000000
open Go.Proofs.Tryz
open Go.Proofs.Tryz renaming prog→ZP
open Go.World(cell? frozen?)
open Go.Value(int slice pointer bool)
open Go.IntKind(i64)
namespace Go.Proofs.YtaamacoicojhnaaGreat
open Go.RowKit Go.Sort
theorem aeD{fn:Func}{p:Tmp}{tmps:Array Value}{W:World}{B:Nat}{x y:Value}(h:fn.results=#[.cell p 24])(Y:tmps.getD p undef=pointer (some ⟨B,0,none⟩))(hB:W.heap[B]?=some (.cells #[x,y] 24 (0,0))) :(results fn tmps).run ZP W=.ok (.agg #[x,y]) W:=by
 have X:(loadVar 24 ⟨B,0,none⟩).run ZP W=.ok (.agg #[x,y]) W:=run_loadVar_row W B 24 24 #[x,y] (0,0) _ hB underlying24 rfl kr;have Z:tmps[p]?.getD undef=.pointer (some ⟨B,0,none⟩):=by simpa using Y
 simp[results,h,Z,asAddr,X,Result.andThen]
theorem alD(fold:Bool)(a:Option Addr)(U ca:Nat)(wss:Lq)(w:World)(hA:Wds w a U wss)(aG:U<=1000000)(hM:∀x∈wss,x.length<=1000000) :Calls ZP 90 #[.agg (AM fold a U ca)] w λe w'=>∃v,e=.returned (.agg #[bool fold,v])/\BI w' w.heap.size v wss/\Br w w':=by
  obtain⟨W,hW⟩:∃W,W=(w.alloc (.cells (AM fold a U ca) 24)).alloc (.cells (AM false none 0 0) 24):=⟨_,rfl⟩;have hB:Br w W:=by rw[hW];exact((AH _ _).alloc (AC _) _).alloc sm _
  have hO:Bx w.heap.size [.cells (AM fold a U ca) 24,.cells (AM false none 0 0) 24] W:=by rw[hW];exact((Bx.nil _ w).snoc _ rfl).snoc _ sm
  have s0:W.cell? ⟨w.heap.size,0,none⟩=some (bool fold):=hO.cell (i:=0) rfl rfl;have s1:W.cell? ⟨w.heap.size,1,none⟩=some (slice a U ca):=hO.cell (i:=0) rfl rfl;have hz:W.heap[w.heap.size+1]?=some (.cells (AM false none 0 0) 24 (0,0)):=hO 1 _ rfl;have a7:W.heap.size=w.heap.size+1+1:=by rw[hW];simp
  have HL:=AA hA.len;have HA:=AA hA;have aa:w.heap.size<W.heap.size:=by omega
  clear hO hA;go_enter func90,ntmps90;go_upto_region 1 with fail
  rw[<-hW];clear hW;go_upto_region 2 with fail
  have s2:(W.alloc (.cells #[bool fold,slice none 0 0] 24)).cell? ⟨w.heap.size,1,none⟩=some (slice a U ca):=by rw[OH _ _ _ aa];exact s1
  have ab:Br w (W.alloc (.cells #[bool fold,slice none 0 0] 24)):=hB.alloc hB.size _;have a8:(W.alloc (.cells #[bool fold,slice none 0 0] 24)).heap[w.heap.size+1+1]?=some (.cells #[bool fold,slice none 0 0] 24 (0,0)):=by rw[<-a7];exact AT _ _
  have a6:(W.alloc (.cells #[bool fold,slice none 0 0] 24)).heap[w.heap.size+1]?=some (.cells (AM false none 0 0) 24 (0,0)):=(Bg _ _ _ om).trans hz;clear s0 s1 a7;go_wp2
  go_loopw[12] (λi wr=>∃(k:Nat)(v:Value),k<=U/\i=int i64 k/\Br w wr/\wr.heap[w.heap.size+1]?=some (.cells (AM false none 0 0) 24 (0,0))/\wr.heap[w.heap.size+1+1]?=some (.cells #[bool fold,v] 24 (0,0))/\BI wr w.heap.size v (wss.take k)) (λi _=>U-(intOf i).toNat)
  case atStart=>exact⟨0,slice none 0 0,AR _,rfl,ab,a6,a8,by simpa using BI.nil _ _⟩
  case round=>
    clear s2 ab a6 a8;obtain⟨k,v,hk,rfl,D,Z,N,X⟩:=hrel
    by_cases al:k<U
    ·
      obtain⟨bb,off,a',l,c,x,rfl,aI,ax,hx,hX,aF⟩:=(HA.out.below D).at_ al;have ag:l<=1000000:=by have:=Ff hM hx;rw[hX.len]at this;exact this
      obtain⟨H,I,rfl,aw,hW⟩:=X.wds;have ak:(wss.take k).length<=1000000:=by have:=MU k wss;omega
      have HX:=AA hx;have i1:(0:Int)<=(k:Int):=by omega
      have i2:(k:Int)<(U:Int):=by omega
      have au:decide ((k:Int)<(U:Int))=true:=by simp;omega
      clear hx;obtain⟨i0,hi,aq,ap,ao⟩:=Vk OT;have s1:wr.cell? ⟨w.heap.size+1+1,1,none⟩=some (slice H (wss.take k).length I):=by simp[cell?,N]
      obtain⟨es,e1,e2,e3⟩:=X;have aA:∀n,Bys (wr.drewN n) a' l x:=λn=>hX.below ⟨rfl,rfl,rfl,AC _,λ_ _=>rfl⟩;have hd:∀n,Br wr (wr.drewN n):=λn=>⟨rfl,rfl,rfl,AC _,λ_ _=>rfl⟩;obtain⟨m,hm⟩:∃m,(wss.take k).length=m:=⟨_,rfl⟩;rw[hm]at s1 N e1 e2 ak;have a2:=AA hm;clear hm hW;go_wp2;have az:Bys wr.drew a' l x:=aA 1;have ar:Br wr wr.drew:=hd 1
      go_region_law (first
        | (go_simp;go_at_call 134;refine (agG false a' l c x wr.drew az ag).mono ?_;rintro e A ⟨a3,c3,rfl,o,ay⟩
           have C:Br wr A:=ar.trans ay;have B:=DJ e1 C;have J:A.heap[w.heap.size+1+1]?=some (.cells #[bool fold,slice H m I] 24 (0,0)):=(C.block _ (AD.1 N).1).trans N;have ac:A.cell? ⟨w.heap.size+1+1,1,none⟩=some (slice H m I):=by simp[cell?,J]
           have am:w.heap.size+1+1<A.heap.size:=(AD.1 J).1;have aD:w.heap.size+1+1≠A.heap.size:=by omega
           have aC:A.heap.size≠w.heap.size+1+1:=by omega
           have aE:(A.alloc (.cells #[slice a3 l c3] 32)).cell? ⟨w.heap.size+1+1,1,none⟩=some (slice H m I):=by rw[OH _ _ _ am];exact ac
           have aj:=Gz B J (Vc kr);have V:Br w A:=D.trans (C.mono D.size);dsimp only)
        | (refine step_append_lies _ (by rfl) _ _ 22 (by rfl) w.heap.size 32 i0 (.slice none 0 0) 1 24 underlying22 hi aq ap ao rfl (by decide) (.slice H m I) m es (by rfl) (B.alloc _) ⟨A.heap.size,0,none⟩ 1 1 [.slice a3 l c3] (by rfl) rfl (cell_one_new _ _ _) (by simp [Value.oneCell']) (by decide) (by unfold maxLen;omega) om (by have:=V.size;simp;omega) _ rfl ?_
           intro g5 c5 s a1 Y aJ aH;have y:s.heap[w.heap.size+1+1]?=some (.cells #[bool fold,slice H m I] 24 (0,0)):=(Y.block _ (by simp;have:=(AD.1 J).1;omega) (Ne.symm aj)).trans ((Bg _ _ _ (AD.1 J).1).trans J);have q0:s.cell? ⟨w.heap.size+1+1,1,none⟩=some (slice H m I):=by simp[cell?,y]
           have q1:s.frozen? ⟨w.heap.size+1+1,1,none⟩=false:=by simp[frozen?,y]))
      all_goals
        go_wp2;have aB:Br w s:=(V.alloc (by have:=V.size;omega) _).grown Y (by simp;have:=V.size;omega) (λj hj=>(B.lt j hj).1);have ae:s.heap[w.heap.size+1]?=some (.cells (AM false none 0 0) 24 (0,0)):=by have h3:A.heap[w.heap.size+1]?=_:=(C.block _ (AD.1 Z).1).trans Z;exact(Y.block _ (by simp;have:=(AD.1 h3).1;omega) (Ne.symm (Gz B h3 (Vc kr)))).trans ((Bg _ _ _ (AD.1 h3).1).trans h3)
        go_roundw
        case rel=>
          refine⟨k+1,_,by omega,by go_num,aB.setCell (by show w.heap.size<=w.heap.size+1+1;omega) _,(AQ s ⟨w.heap.size+1+1,1,none⟩ _ _ sm).trans ae,by simpa using AJ (i:=1) y (.slice (some ⟨g5,0,none⟩) (m+1) c5),?_⟩;rw [As HX.out];have ai:=BI.step (wss:=wss.take k) (xs:=x) (e:=.slice a3 l c3) (es:=es) (v:=.slice H m I) (by rw [a2.out];exact B.alloc _) (by rw [a2.out];exact e2)
            (λi e xs he hx=>⟨DJ (DJ (e3 i e xs he hx).1 C) ((AH _ _).alloc (AC _) _),(e3 i e xs he hx).2⟩) (by rw[hX.len];exact(abR (o.alloc _) (by have:=D.size;simpa using this))) hX.2 (by rw[a2.out];exact a1) Y
          exact ai.turned (BH s (w.heap.size+1+1) 1 _) y (Vc kr) (Vc kr)
        case measure=>simp[intOf];omega
    ·
      obtain rfl:k=U:=by omega
      have HF:Hid (wss.take k=wss):=Ap (by have:=HL.out;omega);have au:decide ((k:Int)<(k:Int))=false:=by simp
      have s0:wr.cell? ⟨w.heap.size+1+1,0,none⟩=some (bool fold):=by simp[cell?,N]
      rw[HF.out]at X;obtain⟨H,I,rfl,aw,hW⟩:=X.wds;have s1:wr.cell? ⟨w.heap.size+1+1,1,none⟩=some (slice H wss.length I):=by simp[cell?,N]
      have z0:wr.cell? ⟨w.heap.size+1,0,none⟩=some (bool false):=by simp[cell?,Z]
      have z1:wr.cell? ⟨w.heap.size+1,1,none⟩=some (slice none 0 0):=by simp[cell?,Z]
      have y0:wr.frozen? ⟨w.heap.size+1,0,none⟩=false:=by simp[frozen?,Z]
      have y1:wr.frozen? ⟨w.heap.size+1,1,none⟩=false:=by simp[frozen?,Z]
      go_wp2;have af:=AJ (i:=1) (AJ (i:=0) Z (bool fold)) (slice H wss.length I);refine Vl (aeD rfl rfl (by simpa using af)) rfl ?_;refine⟨_,rfl,?_,(D.setCell sm _).setCell sm _⟩;have ho:=(X.turned (BH wr (w.heap.size+1) 0 (bool fold)) Z (Vc kr) (Vc kr)).turned (BH _ (w.heap.size+1) 1 (slice H wss.length I)) (AJ (i:=0) Z (bool fold)) (Vc kr) (Vc kr);exact ho
def tbC(L:List Int)(m n:Int)(row:Value):List Value:=L.map (int i64)++[int i64 m,int i64 n,row]
theorem amL(L:List Int)(m n:Int)(row:Value)(fold:Bool)(Z:Value)(lo Y:Int)(wd:Value):mcC L m n row fold Z lo Y wd=tbC L m n row++[bool fold,Z,int i64 lo,int i64 Y,wd]:=by simp[mcC,tbC]
theorem ao5:(ZP.info? 157).map (λi=>i.zero.map Value.cells)=some (some (tbC (List.replicate 256 0) 0 0 (slice none 0 0)).toArray):=by kernel_rfl
theorem an9:(ZP.info? 162).map (λi=>i.zero.map Value.cells)=some (some (mcC (List.replicate 256 0) 0 0 (slice none 0 0) false (slice none 0 0) 0 0 (slice none 0 0)).toArray):=by kernel_rfl
theorem ajC:(match ZP.underlying 157 with|some (.struct fields)=>fields.toList.mapM (λf=>(ZP.info? f.type).map λi=>(f.offset,i.size))|_=>none)=some [(0,256),(256,1),(257,1),(258,1)]:=by kernel_rfl
theorem ajq:(match ZP.underlying 162 with|some (.struct fields)=>fields.toList.mapM (λf=>(ZP.info? f.type).map λi=>(f.offset,i.size))|_=>none)=some [(0,259),(259,2),(261,1),(262,1),(263,1)]:=by kernel_rfl
theorem ajU{L:List Int}(Z:L.length=256)(m n:Int)(row:Value):(tbC L m n row).length=259:=by simp[tbC,Z]
theorem adQ(L:List Int)(m k:Int)(a:Option Addr)(n c:Nat)(N:L.length=256) :ZP.built 157 [(0,.agg (L.map (int i64)).toArray),(1,int i64 m),(2,int i64 k),(3,slice a n c)]=some (tbC L m k (slice a n c)).toArray:=by
 obtain⟨X,U,Z⟩:∃X:List Int,X.length=256/\(ZP.info? 157).map (λi=>i.zero.map Value.cells)=some (some (tbC X 0 0 (slice none 0 0)).toArray):=⟨_,by rw[CS],ao5⟩;have Y:=ajC;unfold Program.built
 cases H:ZP.info? 157 with
 |none=>rw[H]at Z;cases Z
 |some it=>
  rw[H]at Z;simp only[Dw,DC]at Z
  cases I:ZP.underlying 157 with
  |none=>rw[I]at Y;cases Y
  |some d=>
   rw[I]at Y
   cases d<;>try (cases Y;done)
   rename_i J
   simp only at Y⊢
   cases V:it.zero with
   |none=>rw[V]at Z;cases Z
   |some z=>
    rw[V]at Z;simp only[Dw,DC]at Z;simp only[Y,Z];have A:(tbC X 0 0 (slice none 0 0)).toArray=([]++(X.map (int i64))++[int i64 0,int i64 0,slice none 0 0]).toArray:=by simp[tbC]
    have B:[]++L.map (int i64)++[int i64 0,int i64 0,slice none 0 0]=L.map (int i64)++[int i64 0]++[int i64 0,slice none 0 0]:=by simp
    have e2:L.map (int i64)++[int i64 m]++[int i64 0,slice none 0 0]=(L.map (int i64)++[int i64 m])++[int i64 0]++[slice none 0 0]:=by simp
    have C:(L.map (int i64)++[int i64 m])++[int i64 k]++[slice none 0 0]=(L.map (int i64)++[int i64 m,int i64 k])++[slice none 0 0]++[]:=by simp
    have D:([(0,256),(256,1),(257,1),(258,1)]:List (Nat×Nat)).toArray[0]?=some (([]:List Value).length,(X.map (int i64)).length):=by rw[BP,U];rfl
    have p1:([(0,256),(256,1),(257,1),(258,1)]:List (Nat×Nat)).toArray[1]?=some ((L.map (int i64)).length,([int i64 0]:List Value).length):=by rw[BP,N];rfl
    have p2:([(0,256),(256,1),(257,1),(258,1)]:List (Nat×Nat)).toArray[2]?=some ((L.map (int i64)++[int i64 m]).length,([int i64 0]:List Value).length):=by rw[List.length_append,BP,N];rfl
    have p3:([(0,256),(256,1),(257,1),(258,1)]:List (Nat×Nat)).toArray[3]?=some ((L.map (int i64)++[int i64 m,int i64 k]).length,([slice none 0 0]:List Value).length):=by rw[List.length_append,BP,N];rfl
    rw[A,Ig _ _ _ _ (L.map (int i64)) 0 _ _ rfl (by rw[BP,BP,N,U]) D];rw[B,Ig _ _ [int i64 0] _ [int i64 m] 1 (int i64 m) _ rfl rfl p1];rw[e2,Ig _ _ [int i64 0] _ [int i64 k] 2 (int i64 k) _ rfl rfl p2];rw[C,Ig _ _ [slice none 0 0] [] [slice a n c] 3 (slice a n c) _ rfl rfl p3];simp[Instr.fill,tbC]
theorem aad(T:List Value)(fold:Bool)(a:Option Addr)(n c:Nat)(lo N:Int)(J:T.length=259) :ZP.built 162 [(0,.agg T.toArray),(1,.agg #[bool fold,slice a n c]),(2,int i64 lo),(3,int i64 N)]=some (T++[bool fold,slice a n c,int i64 lo,int i64 N,slice none 0 0]).toArray:=by
 obtain⟨X,U,Z⟩:∃X:List Value,X.length=259/\(ZP.info? 162).map (λi=>i.zero.map Value.cells)=some (some (X++[bool false,slice none 0 0,int i64 0,int i64 0,slice none 0 0]).toArray):=
  ⟨tbC (List.replicate 256 0) 0 0 (slice none 0 0),ajU (by rw[CS]) _ _ _,by rw[an9,amL]⟩
 have Y:=ajq;unfold Program.built
 cases D:ZP.info? 162 with
 |none=>rw[D]at Z;cases Z
 |some it=>
  rw[D]at Z;simp only[Dw,DC]at Z
  cases H:ZP.underlying 162 with
  |none=>rw[H]at Y;cases Y
  |some d=>
   rw[H]at Y
   cases d<;>try (cases Y;done)
   rename_i I
   simp only at Y⊢
   cases V:it.zero with
   |none=>rw[V]at Z;cases Z
   |some z=>
    rw[V]at Z;simp only[Dw,DC]at Z;simp only[Y,Z];have y:(X++[bool false,slice none 0 0,int i64 0,int i64 0,slice none 0 0]).toArray=([]++X++[bool false,slice none 0 0,int i64 0,int i64 0,slice none 0 0]).toArray:=by simp
    have A:[]++T++[bool false,slice none 0 0,int i64 0,int i64 0,slice none 0 0]=T++[bool false,slice none 0 0]++[int i64 0,int i64 0,slice none 0 0]:=by simp
    have e2:T++[bool fold,slice a n c]++[int i64 0,int i64 0,slice none 0 0]=(T++[bool fold,slice a n c])++[int i64 0]++[int i64 0,slice none 0 0]:=by simp
    have B:(T++[bool fold,slice a n c])++[int i64 lo]++[int i64 0,slice none 0 0]=(T++[bool fold,slice a n c,int i64 lo])++[int i64 0]++[slice none 0 0]:=by simp
    have C:([(0,259),(259,2),(261,1),(262,1),(263,1)]:List (Nat×Nat)).toArray[0]?=some (([]:List Value).length,X.length):=by rw[U];rfl
    have p1:([(0,259),(259,2),(261,1),(262,1),(263,1)]:List (Nat×Nat)).toArray[1]?=some (T.length,([bool false,slice none 0 0]:List Value).length):=by rw[J];rfl
    have p2:([(0,259),(259,2),(261,1),(262,1),(263,1)]:List (Nat×Nat)).toArray[2]?=some ((T++[bool fold,slice a n c]).length,([int i64 0]:List Value).length):=by rw[List.length_append,J];rfl
    have p3:([(0,259),(259,2),(261,1),(262,1),(263,1)]:List (Nat×Nat)).toArray[3]?=some ((T++[bool fold,slice a n c,int i64 lo]).length,([int i64 0]:List Value).length):=by rw[List.length_append,J];rfl
    rw[y,Ig _ _ _ _ T 0 _ _ rfl (by rw[J,U]) C];rw[A,Ig _ _ [bool false,slice none 0 0] _ [bool fold,slice a n c] 1 (Value.agg #[bool fold,slice a n c]) _ rfl rfl p1];rw[e2,Ig _ _ [int i64 0] _ [int i64 lo] 2 (int i64 lo) _ rfl rfl p2];rw[B,Ig _ _ [int i64 0] _ [int i64 N] 3 (int i64 N) _ rfl rfl p3];simp[Instr.fill]
theorem LL(ws:Lq)(z:Nat):(CA ws z).length<=z:=by unfold CA;rw[BP];exact abd _ _ _ _
section
attribute[local go_sem] Oper.semAt_some
attribute[local simp] Ak Al
attribute[local go_sem] Ak Al
def Jb(ws:Lq)(z:Nat):Nat:=(Fh ws z).length
theorem aht(ws:Lq)(g q ab s o0 n xc z:Nat)(s0 s1 s3:Value)(w:World)
  (hg:w.heap[g]?=some (.cells #[s0,s1,slice (some ⟨s,o0,none⟩) n xc,s3,slice (some ⟨q,0,none⟩) n n] 238 (0,0))) (hq:AU q (Bk ws) w) (hN:(AB ws).length=n) (hn:n<=1000)
  (hW:∀(i:Nat)(v:Int),(AG ws).wrd[i]?=some v->w.cell? ⟨s,o0+i,none⟩=some (int i64 v)) (aa:s<w.heap.size)
  (ha:Boxed w ab 234 (pointer (some ⟨g,0,none⟩))) (hz:z<n) :
  Calls ZP 135 #[int i64 (z:Int),pointer (some ⟨ab,0,none⟩)] w λe w'=>e=.returned (int i64 (Jb ws z:Int))/\Br w w':=by
 have a8:g<w.heap.size:=(AD.1 hg).1;have a6:q<w.heap.size:=(AD.1 (show w.heap[q]?=_ from hq)).1;obtain⟨Y,U⟩:∃W,W=w.alloc (.cells #[int i64 0] 3):=⟨_,rfl⟩;have I:Br w Y:=by rw[U];exact AL _ _
 have bC:Boxed Y w.heap.size 3 (int i64 0):=by rw[U];exact Boxed.new _ _ _
 have a2:Y.heap.size=w.heap.size+1:=by rw[U];simp
 have a1:Boxed Y ab 234 (pointer (some ⟨g,0,none⟩)):=(I.block ab ha.lt).trans ha;have ca:=a1.cell;refine Hc func135 rfl ?_;simp only[ntmps135,Cw,Ao,Bw,Nat.reduceAdd,Nat.reduceSub,Dd,Dc,DX,Da,Av,CT];go_upto_region 2 with fail
 rw[<-U];clear U
 go_wp2_with (go_at_call 136;refine(ak9 g z Y).mono ?_;rintro e w' ⟨rfl,rfl⟩)
 obtain⟨Z,V⟩:∃W,W=(Y.alloc (.cells #[pointer (some ⟨g,0,none⟩)] 234)).alloc (.cells #[int i64 (z:Int)] 3):=⟨_,rfl⟩;have N:Br Y Z:=by rw[V];exact(AL _ _).alloc sm _
 have A:Boxed Z Y.heap.size 234 (pointer (some ⟨g,0,none⟩)):=by rw[V];exact(Boxed.new Y 234 _).alloc _
 have C:Boxed Z (Y.heap.size+1) 3 (int i64 (z:Int)):=by
  rw[V];have:=Boxed.new (Y.alloc (.cells #[pointer (some ⟨g,0,none⟩)] 234)) 3 (int i64 (z:Int))
  rwa[DN]at this
 rw[<-V];clear V;have ae:Boxed Z w.heap.size 3 (int i64 0):=(N.block _ bC.lt).trans bC;have H:Br w Z:=I.trans (N.mono I.size);have e1:Z.heap[g]?=_:=(H.block g a8).trans hg;have e2:AU q (Bk ws) Z:=(H.block q a6).trans hq;have o:∀(i:Nat)(v:Int),(AG ws).wrd[i]?=some v->Z.cell? ⟨s,o0+i,none⟩=some (int i64 v):=λi v X=>(H.cell (p:=⟨s,o0+i,none⟩) aa).trans (hW i v X);have j:=C.lt;rw[a2]at A C j;have a7:=ahI ws g (w.heap.size+1) (w.heap.size+1+1) q n s o0 xc z _ _ _ (λk=>k<Z.heap.size/\k≠w.heap.size) 8 Z e1 e2 hN om o A C ⟨⟨by omega,by omega⟩,⟨by omega,by omega⟩,⟨by omega,by omega⟩,⟨by omega,by omega⟩,⟨by omega,by omega⟩⟩ (λk hk=>hk.1) hz;clear hg hq hW ha a1 ca e1 e2 A C o hN bC I N
 apply KI rfl (enters_of func188 kr rfl) a7 GD (JR λk hk=>hk.1) (λ_=>rfl)
  (λJ W=>Boxed W w.heap.size 3 (int i64 ((J.length:Nat):Int))/\Br w W/\Z.heap.size<=W.heap.size)
  (λ_ _ _=>False)
 case hI=>exact OwnFrom.and (Own.from (boxed_own _ _ _) _) (OwnFrom.and (ownFrom_below (AC _) om) (Li _ _))
 case hIx=>exact λ_ _ _ _ _ hs _ _=>hs
 case h0=>exact⟨by simpa using ae,H,AC _⟩
 case hassign=>
  intro l x W K hK;unfold anB
  gi_wp2
  exact hK
 case hbody=>
  rintro l J ⟨y,hy⟩ W ⟨X,B,hs⟩ af;dsimp only;obtain⟨m,hm⟩:∃m,J.length=m:=⟨_,rfl⟩;have HM:Hid ((J++[(⟨y,hy⟩:NdP n)]).length=m+1):=by rw[Hid,List.length_append,hm];rfl
  have ai:m<=1000000:=by omega
  rw[hm]at X;have c2:=X.cell;have c4:=X.frozen;have aj:=X.lt;clear hm
  gi_wp2
  refine⟨(Jp W ⟨w.heap.size,0,none⟩ (int i64 ((m:Int)+1))).from _,λk hk=>AQ _ _ _ _ hk.2,?_,B.setCell (AC _) _,by show Z.heap.size<=(W.setCell _ _).heap.size;rw[World.size_setCell];omega⟩;rw[HM.out];exact X.set (int i64 ((m:Int)+1))
 case hdone=>
  rintro D zs W hD hS ⟨X,B,hs⟩ ac;have HZ:Hid (((zs.length:Nat):Int)=(Jb ws z:Int)):=by unfold Hid Jb;rw[<-hS,BP]
  rw[HZ.out]at X;have ag:Boxed (W.putObj D (.deferred none)) w.heap.size 3 (int i64 (Jb ws z:Int)):=(Cm om).trans X;have c2:=X.cell;go_wp2;exact Gg rfl ac (results_tmp rfl _ _ _) ⟨rfl,FZ B om (AC _) _⟩
 case hstop=>exact λ_ _ _ _ _ _ h _=>h.elim
end
def Dm(ws:Lq):Nat->Nat
 |0=>0
 |i+1=>max (Dm ws i) (Jb ws i)
theorem akF(t:TV)(T:Ay)(sp ws:Lq)(w:World)(hT:Tri w t T)(hb:t.un<=140737488351232)(hr:CI T=some (sp,ws)) :Calls ZP 92 #[.agg t.cells] w λe w'=>e=.returned (int i64 ((Dm ws (AB ws).length:Nat):Int))/\Br w w':=by
 obtain⟨ua,un,uc,da,dn,dc,xa,xn,xc,ba,bn,bc⟩:=t;obtain⟨W,hW⟩:∃W,W=w.alloc (.cells #[slice ua un uc,slice da dn dc,slice xa xn xc,slice ba bn bc] 150):=⟨_,rfl⟩;have hB:Br w W:=by rw[hW];exact AL _ _
 have hQ:W.heap[w.heap.size]?=some (.cells #[slice ua un uc,slice da dn dc,slice xa xn xc,slice ba bn bc] 150 (0,0)):=by rw[hW];exact AT _ _
 have c0:W.cell? ⟨w.heap.size,0,none⟩=some (slice ua un uc):=by simp[cell?,hQ]
 have c1:W.cell? ⟨w.heap.size,1,none⟩=some (slice da dn dc):=by simp[cell?,hQ]
 have c2:W.cell? ⟨w.heap.size,2,none⟩=some (slice xa xn xc):=by simp[cell?,hQ]
 have c3:W.cell? ⟨w.heap.size,3,none⟩=some (slice ba bn bc):=by simp[cell?,hQ]
 have HC:=AA (ae2 _ T sp ws W (hT.below hB) hb hr);have HN:Hid ((AB ws).length<=400):=Hx hr;obtain⟨_,D,_⟩:=Fy.1 hr;have J:Hid (Sl1 (int i64) w xa xn (AG ws).wrd):=by rw[Hid,<-D];exact hT.wrd
 have o:(AG ws).dep.length=dn:=by rw[<-D];exact hT.dep.1
 have a1:(AG ws).dep.length=(AB ws).length:=by simp[AG]
 rw[a1]at o;subst o;clear hT hr D a1;go_enter func92,ntmps92;go_upto_region 1 with fail
 rw[<-hW];clear hW
 go_wp2_with fail
 refine HC.out.mono ?_;rintro e H ⟨g,rfl,ac,a6⟩;have aa:=hB.trans (a6.mono hB.size);clear c0 c1 c2 c3 hQ hB a6;go_upto_region 5 with fail
 obtain⟨B,V⟩:∃W,W=H.alloc (.cells #[pointer (some ⟨g,0,none⟩)] 234):=⟨_,rfl⟩;have a2:Br H B:=by rw[V];exact AL _ _
 have N:Boxed B H.heap.size 234 (pointer (some ⟨g,0,none⟩)):=by rw[V];exact Boxed.new H 234 _
 rw[<-V];clear V;have U:=aa.trans (a2.mono aa.size);have Y:=ac.below a2;have ai:=N.lt;obtain⟨q,C,f2,f3,f4⟩:=Y.ex;have A:(AG ws).wrd.length=xn:=J.out.1;rw[(Jt ws).1]at A;subst A;have aq:g<B.heap.size:=(AD.1 C).1;have c7:=N.cell;have c8:B.cell? ⟨g,4,none⟩=some (slice (some ⟨q,0,none⟩) (AB ws).length (AB ws).length):=by simp[cell?,C]
 have ao:=AA N;have am:=AA Y;clear C f2 f3 f4 ac N Y;obtain⟨n,hn⟩:∃n,(AB ws).length=n:=⟨_,rfl⟩;have I:=AA hn;rw[hn]at HC HN J c8;clear HC hn;have ap:n<=400:=HN.out
 go_wp2_with fail
 go_loopw[6,21] (λs6 ae wr=>∃i:Nat,i<=n/\s6=int i64 ((Dm ws i:Nat):Int)/\ae=int i64 i/\Br B wr) (λ_ s _=>n-(intOf s).toNat)
 case atStart=>exact⟨0,AR _,rfl,rfl,AH _ _⟩
 case round=>
  obtain⟨i,hi,rfl,rfl,Z⟩:=hrel
  by_cases y:i<n
  ·have hd:decide ((i:Int)<n)=true:=by simp;omega
   have ab:Boxed wr H.heap.size 234 (pointer (some ⟨g,0,none⟩)):=(Z.block _ ai).trans ao.out;have a7:=am.out.below Z;obtain⟨q,C,f2,_⟩:=a7.ex;obtain⟨b0,o0,v0,af,ar,_,_⟩:=DG J.out y;subst af;have a8:=U.trans (Z.mono U.size);rw[I.out]at C;have HT:=AA (aht ws g q H.heap.size b0 o0 n xc i _ _ _ wr C f2 I.out (by have:=HN.out;omega) (λj v hv=>by
      obtain⟨b2,o2,x2,e2,aj,al,X⟩:=DG J.out (k:=j) (by rw[<-I.out,<-(Jt ws).1];exact(AP.1 hv).1)
      injection e2 with e2
      injection e2 with e3 e4 e5
      subst e3 e4;rw[hv]at X
      injection X with X
      subst X;exact(a8.cell (p:=⟨b0,o0+j,none⟩) aj).trans al) (by have:=a8.size;omega) ab y)
   have ag:max ((Dm ws i:Nat):Int) ((Jb ws i:Nat):Int)=((Dm ws (i+1):Nat):Int):=by show _=((max (Dm ws i) (Jb ws i):Nat):Int);omega
   clear ab a7 C f2
   go_wp2_with fail
   refine HT.out.mono ?_;rintro e w3 ⟨rfl,ak⟩;go_wp2
   go_roundw
   case rel=>exact⟨i+1,by omega,by rw[<-ag],by go_num,Z.trans (ak.mono Z.size)⟩
   case measure=>simp[intOf];omega
  ·obtain rfl:i=n:=by omega
   have hd:decide ((i:Int)<i)=false:=by simp
   go_wp2;go_ret;refine⟨?_,U.trans (Z.mono U.size)⟩;rw[I.out]
   rfl
section
variable {P:Program}{md:Region.Mode}{ops:Array Oper}{Q:Exit->Act->World->Prop}{S:World->Prop}
end
theorem aaS{P:Program}{ops:Array Oper}{S:World->Prop}{op:Oper}{a:Act}(V:Region.wanted op (yielded ops a.tmps)=true)(Z:TypeId)(x:Operand)(ho:op.op=.load Z x)
  (g:Nat) (X:a.eval x=pointer (some ⟨g,0,none⟩)) (t:TypeId) (cs:Array Value) (fr:Nat×Nat) (d:TypeDesc) (I:∀w,S w->w.heap[g]?=some (.cells cs t fr))
  (U:P.underlying Z=some d) (J:(match d with|.struct _|.array _ _=>true|_=>false)=true) (N:(P.info? Z).map (·.size)=some cs.size):YieldsIf P ops S op (.agg cs) a:=
 .inl ⟨V,λw Y=>by unfold execOp;simp only[ho,X,Instr.loadAt,Instr.sureAddr,IN,IM,Result.andThen_ok,run_loadVar_row w g t Z cs fr d (I w Y) U J N]⟩
theorem anq{L:List Int}(Z:L.length=256)(m:Int)(row:Value):(ZP.info? 146).map (·.size)=some (dvC L m row).toArray.size:=by rw[Ko Z];exact Nl
theorem aoH{L:List Int}(Z:L.length=256)(m:Int)(row:Value):Tryz.zeroCells146.size=(dvC L m row).toArray.size:=by rw[amP,Ko Z,Ko CS]
def apB(M:Act->World->Prop):Exit->Act->World->Prop
 |.normal,a,w=>M a w
 |_,_,_=>False
theorem alp(ws:Lq):(AG ws).up.length=(AB ws).length:=by simp[AG]
def FD(G B:Nat)(Z:List Sv)(node:Nat)(l:List Int)(W:World):Prop:=∃v:Sv,W.heap[G]?=some (.cells ((Z.set node v).map svV).toArray 30 (0,0))/\FB W B (svV v) l
def GP(G n:Nat)(Z:Lq)(W:World):Prop:=∃Y:List Sv,W.heap[G]?=some (.cells (Y.map svV).toArray 30 (0,0))/\Y.length=n/\Z.length<=n/\(∀(i:Nat)(v:Sv),Z.length<=i->Y[i]?=some v->v=(none,0,0))/\
 ∀(i:Nat)(v:Sv)(xs:List Int),Y[i]?=some v->Z[i]?=some xs->Sl1 (int i64) W v.1 v.2.1 xs/\v.2.1<=v.2.2/\∀p,v.1=some p->G<=p.block
theorem aov{w:World}{G node:Nat}{Z:List Sv}{v:Sv}{t:TypeId}(h:w.heap[G]?=some (.cells ((Z.set node v).map svV).toArray t (0,0)))(u:Sv):(w.setCell ⟨G,node,none⟩ (svV u)).heap[G]?=some (.cells ((Z.set node u).map svV).toArray t (0,0)):=by have:=AJ (i:=node) h (svV u);rw[this];simp[Is]
theorem FD.cell{W:World}{G B node:Nat}{Z:List Sv}{v:Sv}{t:TypeId}(h:W.heap[G]?=some (.cells ((Z.set node v).map svV).toArray t (0,0)))(Y:node<Z.length):W.cell? ⟨G,node,none⟩=some (svV v):=by rw[cell_of_row W G node _ _ _ h];simp[Gr,Y]
theorem FD.app{W U:World}{G B node:Nat}{H:List Sv}{l:List Int}{z:Int}{v u:Sv}{Y:Obj}(y:W.heap[G]?=some (.cells ((H.set node v).map svV).toArray 30 (0,0)))(V:FB W B (svV v) l)(s:G<B)(a1:B<=W.heap.size)
  (X:U.ownsRow B 3 1 (svV u) (l.length+1) (l.map (int i64)++[int i64 z])) (Z:(W.alloc Y).grownBy U (svV v).ownBlock) :
  U.heap[G]?=some (.cells ((H.set node v).map svV).toArray 30 (0,0))/\FD G B H node (l++[z]) (U.setCell ⟨G,node,none⟩ (svV u))/\KeepsOthers W (U.setCell ⟨G,node,none⟩ (svV u))/\(∀k,k<B->k≠G->(U.setCell ⟨G,node,none⟩ (svV u)).heap[k]?=W.heap[k]?)/\Below G W (U.setCell ⟨G,node,none⟩ (svV u)):=by
 have I:∀k,k<B->(svV v).ownBlock≠some k:=λk hk e=>by have:=(BA V k e).1;omega
 have J:U.heap[G]?=_:=(Z.block G (by simp;omega) (λe=>I G s e.symm)).trans ((Bg W Y G om).trans y);refine⟨J,⟨u,aov J u,?_⟩,?_,λk hk D=>?_,?_⟩
 ·have:=World.ownsRow.kept X (BH U G node (svV u)) (.inr λe=>by have:=(BA X G e).1;omega);unfold FB;rw[List.length_append,Aj];exact this
 ·refine((KeepsOthers.alloc W Y).trans (KeepsOthers.of_grownBy Z λj o N A=>?_)).trans (Jp _ _ _)
  rcases(World.ownsRow.alloc V Y).2 with⟨h,_⟩|⟨g,cap,a2,h,_,C,_⟩
  ·rw[h]at N;simp[Value.ownBlock]at N
  ·rw[h]at N;obtain rfl:g=j:=by simpa[Value.ownBlock]using N
   rw[C]at A;cases A;rfl
 ·exact(AQ _ _ _ _ (by show k≠G;exact D)).trans ((Z.block k (by simp;omega) (λe=>I k hk e.symm)).trans (Bg _ _ _ om))
 ·refine(((AH G W).alloc om Y).grown Z (by simp;omega) λj N=>?_).setCell (p:=⟨G,node,none⟩) (AC _) (svV u);have:=(BA V j N).1;omega
theorem aft{α:Type}{G B p node:Nat}{J:List Sv}(H:p≠G)(I:p<B)(f:α->List Int):BL B (λr=>r=p) (λs W=>FD G B J node (f s) W):=by
 rintro s W y row ⟨v,Z,ho⟩ N U;have V:∀{k:Nat}{cs:Array Value}{t:TypeId},W.heap[k]?=some (.cells cs t (0,0))->k≠p->row≠some k:=λ{k cs t} hk Y e=>by
  rcases U k e with⟨_,o,h1,h2⟩|h
  ·rw[hk]at h1;cases h1;cases h2
  ·exact Y h
 refine⟨v,(N.block G (AD.1 Z).1 (λe=>V Z (Ne.symm H) e.symm)).trans Z,ho.kept N ?_⟩
 rcases ho.2 with⟨h,_⟩|⟨g,cap,A,h,D,X,_⟩
 ·rw[h];exact .inl rfl
 ·rw[h];refine .inr λe=>?_;have C:row=some g:=by rw[<-e];rfl
  rcases U g C with⟨_,o,h1,h2⟩|h
  ·rw[X]at h1;cases h1;cases h2
  ·omega
theorem ahk{α:Type}{B G p:Nat}{P:Nat->Prop}{w:World}(V:∀k,k<B->P k->k≠p):BL B (λr=>r=p) (λ(_:α) W=>(∀k,k<B->P k->W.heap[k]?=w.heap[k]?)/\B<=W.heap.size):=λs W U row h Y X=>
 ⟨λk hk Z=>(Y.block k (Af hk h.2) (λe=>by
  rcases X k e.symm with⟨h1,_⟩|h1
  ·omega
  ·exact V k hk Z h1)).trans (h.1 k hk Z),AS h.2 Y.size⟩
theorem GP.new{W:World}{G n:Nat}(h:W.heap[G]?=some (.cells (GW n) 30 (0,0))):GP G n [] W:=by
 refine⟨List.replicate n (none,0,0),?_,by simp,AR _,λi v _ Z=>?_,λi v xs _ Y=>by simp at Y⟩
 ·rw[h];simp[GW,svV]
 ·rw[Jo]at Z
  split at Z
  ·exact(AK Z).symm
  ·cases Z
theorem Sl1.keptG{w W:World}{a:Option Addr}{n G:Nat}{x:List Int}{N:List Sv}{t:TypeId}(h:Sl1 (int i64) w a n x)(H:w.heap[G]?=some (.cells (N.map svV).toArray t (0,0)))(hk:∀k,k<w.heap.size->k≠G->W.heap[k]?=w.heap[k]?)(D:w.heap.size<=W.heap.size):Sl1 (int i64) W a n x:=by
 refine⟨h.1,?_⟩
 rcases h.2 with h0|⟨b,off,e,Z,U⟩
 ·exact .inl h0
 ·by_cases I:x=[]
  ·left;have:=h.1;rw[I]at this;simpa using this.symm
  ·refine .inr ⟨b,off,e,by omega,λj y V=>?_⟩;have X:b≠G:=by
    rintro rfl;have Y:=U j y V;rw[cell_of_row w b (off+j) _ _ _ H]at Y;simp only[Dy,BU,Fo]at Y;obtain⟨v,_,J⟩:=Y
    cases J
   exact(BC (a:=⟨b,off+j,none⟩) (hk b Z X)).trans (U j y V)
theorem GP.step{W I:World}{G n B node:Nat}{X:List Sv}{Z:Lq}{xs:List Int}(hg:W.heap[G]?=some (.cells (X.map svV).toArray 30 (0,0)))(hl:X.length=n)(s:Z.length=node)(hn:node<n)(U:∀(i:Nat)(v:Sv),Z.length<=i->X[i]?=some v->v=(none,0,0))
  (j:∀(i:Nat)(v:Sv)(xs:List Int),X[i]?=some v->Z[i]?=some xs->Sl1 (int i64) W v.1 v.2.1 xs/\v.2.1<=v.2.2/\∀p,v.1=some p->G<=p.block) (A:G<=B) (hh:FD G B X node xs I) (hk:∀k,k<W.heap.size->k≠G->I.heap[k]?=W.heap[k]?) (o:W.heap.size<=I.heap.size):GP G n (Z++[xs]) I:=by
 obtain⟨v,h1,h2⟩:=hh;refine⟨_,h1,by simp[hl],by simp;omega,λi u J Y=>?_,λi u ys Y V=>?_⟩
 ·simp at J;rw[FH om]at Y;exact U i u om Y
 ·by_cases J:i=node
  ·subst J;rw[FU om]at Y;obtain rfl:=AK Y;rw[<-s,MX]at V;obtain rfl:=AK V;obtain⟨a,c,e,hc,H⟩:=Co (enc:=int i64) h2;simp only[svV,IL]at e;obtain⟨y,e2,e3⟩:=e;rw[y,e2,e3];refine⟨H,hc,λp N=>?_⟩
   rcases h2.2 with⟨h,_⟩|⟨g,cap,a1,h,C,_⟩
   ·simp only[svV,IL]at h;rw[<-y,h.1]at N;cases N
   ·simp only[svV,IL]at h;rw[<-y,h.1]at N
    cases N
    exact AS A C
  ·rw[FH (Ne.symm J)]at Y;have D:=(AP.1 V).1;rw[By (by simp at D;omega)]at V;obtain⟨h3,h4⟩:=j i u ys Y V;exact⟨h3.keptG hg hk o,h4⟩
theorem GP.lls{W:World}{G n:Nat}{Z:Lq}(h:GP G n Z W)(U:Z.length=n):Lls W (some ⟨G,0,none⟩) n Z:=by obtain⟨V,h1,h2,_,_,h3⟩:=h;refine⟨V,⟨h2,.inr ⟨G,0,rfl,(AD.1 h1).1,λi v X=>?_⟩⟩,h2.trans U.symm,λi v xs X Y=>⟨(h3 i v xs X Y).1,(h3 i v xs X Y).2.1⟩⟩;rw[cell_of_row W G (0+i) _ _ _ h1];simp[X]
def FE(Q:Nat)(W:World):List Deferred->Prop
 |[]=>True
 |d::ds=>(∃D,d={target:=.collected D,args:=#[]}/\Q<=D/\W.heap[D]?=some (Obj.deferred (some []))/\∀Z∈ds,Z.target≠.collected D)/\FE Q W ds
theorem FE.lt{Q:Nat}{W:World}:∀{ds:List Deferred},FE Q W ds->∀D,(∃d∈ds,d.target=.collected D)->D<W.heap.size
 |[],_,D,⟨d,Z,_⟩=>by simp at Z
 |d0::ds,⟨⟨D0,e,_,h0,_⟩,h⟩,D,⟨d,Z,e1⟩=>by
  rcases CR.1 Z with rfl|Z
  ·rw[e]at e1
   cases e1
   exact(AD.1 h0).1
  ·exact FE.lt h D ⟨d,Z,e1⟩
theorem FE.keep{Q:Nat}{W V:World}:∀{ds:List Deferred},FE Q W ds->(∀D,(∃d∈ds,d.target=.collected D)->W.heap[D]?=some (Obj.deferred (some []))->V.heap[D]?=some (Obj.deferred (some [])))->FE Q V ds
 |[],_,_=>trivial
 |d0::ds,⟨⟨D0,e,hq,h0,hn⟩,h⟩,hk=>⟨⟨D0,e,hq,hk D0 ⟨d0,List.mem_cons_self ..,by rw[e]⟩ h0,hn⟩,FE.keep h λD ⟨d,Z,Y⟩=>hk D ⟨d,MT _ Z,Y⟩⟩
theorem FE.push{Q D G:Nat}{W V:World}{ds:List Deferred}(h:FE Q W ds)(hk:∀k,k<W.heap.size->k≠G->V.heap[k]?=W.heap[k]?)(X:∀l:Option (List Deferred),W.heap[G]?≠some (Obj.deferred l))(I:W.heap.size<=D)(Y:V.heap[D]?=some (Obj.deferred (some [])))(J:Q<=W.heap.size) :FE Q V ({target:=.collected D,args:=#[]}::ds):=by
 refine⟨⟨D,rfl,by omega,Y,λU Z e=>?_⟩,h.keep λN Z h0=>?_⟩
 ·have:=h.lt D ⟨U,Z,e⟩;omega
 ·rw[hk N (AD.1 h0).1 (λe=>X _ (by rw[<-e];exact h0))];exact h0
def FA(Q:Nat)(W Z:World):Prop:=Below Q W Z/\Z.heap.size=W.heap.size/\∀k:Nat,(∀l:Option (List Deferred),W.heap[k]?≠some (Obj.deferred l))->Z.heap[k]?=W.heap[k]?
theorem apl{P:Program}{fn:Func}{R:Ending->World->Prop}{tmps:Array Value}{Q:Nat}:∀(ds:List Deferred)(W:World),Q<=W.heap.size->FE Q W ds->(∀Y,FA Q W Y->∃v,(results fn tmps).run P Y=.ok v Y/\R (.returned v) Y)->
  LeavesInM Fence.wide 9 P fn tmps R ds .returning W
 |[],W,_,_,h=>h W ⟨AH _ _,rfl,λ_ _=>rfl⟩
 |d::ds,W,hQ,⟨⟨D,e,hq,hD,hn⟩,hc⟩,h=>by
  subst e;refine⟨by simp,.inl ⟨_,_,rfl,run_takeDeferred hD,apl ds _ (by simpa[World.putObj]using hQ) (hc.keep λJ U h0=>?_) (λY Z=>h Y ⟨(FZ (AH Q W) hq hQ _).trans Z.1,by rw[Z.2.1];simp[World.putObj],λk hk=>?_⟩)⟩⟩
  ·obtain⟨N,h1,h2⟩:=U;rw[Cm (λe=>hn N h1 (by rw[h2,e]))];exact h0
  ·have X:k≠D:=λe=>hk _ (by rw[e];exact hD);have V:(W.putObj D (.deferred none)).heap[k]?=W.heap[k]?:=Cm X;rw[Z.2.2 k (λl=>by rw[V];exact hk l),V]
theorem FA.cell{Q:Nat}{W Y:World}(h:FA Q W Y){a:Addr}{v:Value}(Z:W.cell? a=some v):Y.cell? a=some v:=by rw[<-Z];refine BC (h.2.2 _ λl e=>?_);unfold cell? at Z;rw[e]at Z;simp at Z
theorem FA.box{Q:Nat}{W X:World}(h:FA Q W X){k:Nat}{cs:Array Value}{t:TypeId}{Y:Nat×Nat}(Z:W.heap[k]?=some (.cells cs t Y)):X.heap[k]?=some (.cells cs t Y):=(h.2.2 k λl e=>by rw[Z]at e;cases e).trans Z
theorem FA.sl1{α:Type}{enc:α->Value}{Q:Nat}{W X:World}(h:FA Q W X){a:Option Addr}{n:Nat}{xs:List α}(Y:Sl1 enc W a n xs):Sl1 enc X a n xs:=by
 refine⟨Y.1,?_⟩
 rcases Y.2 with h0|⟨b,off,e,Z,U⟩
 ·exact .inl h0
 ·exact .inr ⟨b,off,e,by rw[h.2.1];exact Z,λi x V=>h.cell (U i x V)⟩
theorem FA.wds{Q:Nat}{W X:World}(h:FA Q W X){a:Option Addr}{n:Nat}{wss:Lq}(U:Wds W a n wss):Wds X a n wss:=by obtain⟨V,h1,h2,h3⟩:=U;exact⟨V,h.sl1 h1,h2,λi v xs Y Z=>⟨⟨h.sl1 (h3 i v xs Y Z).1.1,(h3 i v xs Y Z).1.2⟩,(h3 i v xs Y Z).2⟩⟩
theorem FA.lls{Q:Nat}{W V:World}(h:FA Q W V){a:Option Addr}{n:Nat}{Z:Lq}(N:Lls W a n Z):Lls V a n Z:=by obtain⟨U,h1,h2,h3⟩:=N;exact⟨U,h.sl1 h1,h2,λi v xs X Y=>⟨h.sl1 (h3 i v xs X Y).1,(h3 i v xs X Y).2⟩⟩
theorem FA.mok{Q:Nat}{W N:World}(h:FA Q W N){B R V U wc:Nat}{fold:Bool}{wss:Lq}{lo X:Int}{a Y:Option Addr}(Z:MOK W B fold wss lo X R a V U Y wc):MOK N B fold wss lo X R a V U Y wc:=⟨⟨h.box Z.mc.box,Z.mc.len⟩,h.box Z.row,h.wds Z.wds,h.lls Z.lls⟩
theorem adm{a b c:World}{G:Nat}(h:a.grownBy b (some G))(k:b.grownBy c (some G)):a.grownBy c (some G):=⟨k.os.trans h.os,k.tape.trans h.tape,k.output.trans h.output,AS h.size k.size,λi Y Z=>(k.block i (Af Y h.size) Z).trans (h.block i Y Z)⟩
theorem Mc.setW{w:World}{B:Nat}{L:List Int}{m n:Int}{row:Value}{fold:Bool}{Z:Value}{lo Y:Int}{wd:Value}(h:Mc w B L m n row fold Z lo Y wd)(u:Value):Mc (w.setCell ⟨B,263,none⟩ u) B L m n row fold Z lo Y u:=by refine⟨?_,h.len⟩;rw[AJ (i:=263) h.box u];simp[mcC,List.set_append,h.len]
theorem abM{w:World}{base Z n size:Nat}{e:TypeId}{v:Value}{xs:List Value}(h:w.ownsRow base e size v n xs)(X:Z<=base):w.ownsRow Z e size v n xs:=⟨h.1,h.2.imp id λ⟨g,cap,Y,h1,h2,r⟩=>⟨g,cap,Y,h1,by omega,r⟩⟩
theorem BI.lower{w:World}{b b':Nat}{v:Value}{wss:Lq}(h:BI w b v wss)(X:b'<=b):BI w b' v wss:=by obtain⟨es,h1,h2,h3⟩:=h;exact⟨es,abM h1 X,h2,λi e xs Y Z=>⟨abM (h3 i e xs Y Z).1 X,(h3 i e xs Y Z).2⟩⟩
def EF(q:Nat)(W V:World):Prop:=W.heap.size<=V.heap.size/\∀k,q<=k->k<W.heap.size->(∀l,W.heap[k]?≠some (Obj.deferred l))->V.heap[k]?=W.heap[k]?
theorem EF.cell{q:Nat}{W V:World}(h:EF q W V){a:Addr}{v:Value}(X:q<=a.block)(Z:W.cell? a=some v):V.cell? a=some v:=by rw[<-Z];have Y:=DO W a Z;refine BC (h.2 _ X Y λl e=>?_);unfold cell? at Z;rw[e]at Z;simp at Z
theorem EF.box{q:Nat}{W V:World}(h:EF q W V){k:Nat}{cs:Array Value}{t:TypeId}{Y:Nat×Nat}(X:q<=k)(Z:W.heap[k]?=some (.cells cs t Y)):V.heap[k]?=some (.cells cs t Y):=(h.2 k X (AD.1 Z).1 λl e=>by rw[Z]at e;cases e).trans Z
theorem EF.row{q:Nat}{W V:World}(h:EF q W V){e:TypeId}{size n:Nat}{v:Value}{xs:List Value}(ho:W.ownsRow q e size v n xs):V.ownsRow q e size v n xs:=⟨ho.1,ho.2.imp id λ⟨g,cap,Z,h1,h2,h3,r⟩=>⟨g,cap,Z,h1,h2,h.box h2 h3,r⟩⟩
theorem EF.ownW{q:Nat}{W V:World}(h:EF q W V){v:Value}{wss:Lq}(ho:BI W q v wss):BI V q v wss:=by obtain⟨es,h1,h2,h3⟩:=ho;exact⟨es,h.row h1,h2,λi e xs Y Z=>⟨h.row (h3 i e xs Y Z).1,(h3 i e xs Y Z).2⟩⟩
theorem EF.sl1{α:Type}{enc:α->Value}{q:Nat}{W V:World}(h:EF q W V){a:Option Addr}{n:Nat}{xs:List α}(ha:∀p,a=some p->q<=p.block)(Y:Sl1 enc W a n xs):Sl1 enc V a n xs:=by
 refine⟨Y.1,?_⟩
 rcases Y.2 with h0|⟨b,off,e,Z,U⟩
 ·exact .inl h0
 ·exact .inr ⟨b,off,e,Af Z h.1,λi x X=>h.cell (a:=⟨b,off+i,none⟩) (show q<=b from ha _ e) (U i x X)⟩
theorem EF.of_below{q:Nat}{W V:World}(Z:Br W V):EF q W V:=⟨Z.size,λk _ hk _=>Z.block k hk⟩
theorem FA.kept{Q q:Nat}{W Z:World}(h:FA Q W Z):EF q W Z:=⟨by rw[h.2.1];exact AC _,λk _ _ Y=>h.2.2 k Y⟩
structure Il(q:Nat)(W:World)(B R:Nat)(a:Option Addr)(la ca:Nat)(wss:Lq)(wa:Option Addr):Prop where
 b:q<=B
 r:q<=R
 own:BI W q (slice a la ca) wss
 rows:∃vs:List Sv,Sl1 (λv=>slice v.1 v.2.1 v.2.2) W wa (AB wss).length vs/\vs.length=(AB wss).length/\(∀(i:Nat)(v:Sv)(xs:List Int),vs[i]?=some v->((List.range (AB wss).length).map (CA wss))[i]?=some xs->Sl1 (int i64) W v.1 v.2.1 xs/\v.2.1<=v.2.2/\∀p,v.1=some p->q<=p.block)/\∀p,wa=some p->q<=p.block
theorem Il.kept{q B R U N:Nat}{W V:World}{a X:Option Addr}{wss:Lq}(h:Il q W B R a U N wss X)(hk:EF q W V):Il q V B R a U N wss X:=by obtain⟨J,h1,h2,h3,h4⟩:=h.rows;exact⟨h.b,h.r,hk.ownW h.own,J,hk.sl1 h4 h1,h2,λi v xs Y Z=>⟨hk.sl1 (h3 i v xs Y Z).2.2 (h3 i v xs Y Z).1,(h3 i v xs Y Z).2⟩,h4⟩
theorem Il.mok{q B R Y U wc:Nat}{W V:World}{fold:Bool}{lo N:Int}{a Z:Option Addr}{wss:Lq}(h:Il q W B R a Y U wss Z)(hk:EF q W V)(X:MOK W B fold wss lo N R a Y U Z wc):MOK V B fold wss lo N R a Y U Z wc:=by obtain⟨C,h1,h2,h3,h4⟩:=(h.kept hk).rows;obtain⟨o,s,D,_,I⟩:=(h.kept hk).own.wds;simp only[IL]at D;obtain⟨A,e2,y⟩:=D;rw[<-A,<-e2]at I;exact⟨⟨hk.box h.b X.mc.box,X.mc.len⟩,hk.box h.r X.row,I,C,h1,by simpa using h2,λi v xs H J=>⟨(h3 i v xs H J).1,(h3 i v xs H J).2.1⟩⟩
theorem GP.far{W:World}{G n q:Nat}{Z:Lq}(h:GP G n Z W)(N:q<=G):∃Y:List Sv,Sl1 (λv=>slice v.1 v.2.1 v.2.2) W (some ⟨G,0,none⟩) n Y/\Y.length=n/\(∀(i:Nat)(v:Sv)(xs:List Int),Y[i]?=some v->Z[i]?=some xs->Sl1 (int i64) W v.1 v.2.1 xs/\v.2.1<=v.2.2/\∀p,v.1=some p->q<=p.block)/\∀p,(some ⟨G,0,none⟩:Option Addr)=some p->q<=p.block:=by obtain⟨Y,h1,h2,_,_,h3⟩:=h;refine⟨Y,⟨h2,.inr ⟨G,0,rfl,(AD.1 h1).1,λi v X=>?_⟩⟩,h2,λi v xs X V=>⟨(h3 i v xs X V).1,(h3 i v xs X V).2.1,λp U=>AS N ((h3 i v xs X V).2.2 p U)⟩,λp U=>by cases U;exact N⟩;rw[cell_of_row W G (0+i) _ _ _ h1];simp[X,svV]
section
variable {P:Program}{md:Region.Mode}{ops:Array Oper}{Q:Exit->Act->World->Prop}{S:World->Prop}
def Kz(P:Program)(ops:Array Oper)(Q:Exit->Act->World->Prop)(S:World->Prop)(o:Oper)(R:Value->World->Prop)(a:Act):Prop:=
 ∀w,S w->∀K:Act->World->Prop,(∀v w',S w'->R v w'->Br w w'->K (a.put o.dst v) w')->if Region.wanted o (yielded ops a.tmps)=true then Oper.wp P o a w K Q else K (a.put o.dst undef) w
end
structure Oq(P:Program)(ops:Array Oper)(Q:Exit->Act->World->Prop)(S:World->Prop)(k:Nat)(ok:Oper)(Rk:Value->World->Prop):Prop where
 hk:ops[k]?=some ok
 kp:∀v (w w':World),Rk v w->Br w w'->Rk v w'
 yk:∀f,Kz P ops Q S ok Rk f
structure Flt(P:Program)(md:Region.Mode)(ops:Array Oper)(Q:Exit->Act->World->Prop)(S:World->Prop)(k:Nat)(dk:Option Tmp)(Rk:Value->World->Prop)(fuel:Nat)(listed:Array Bool)(a:Act)(u:World):Prop where
 pend:∀w,S w->Br u w->wpAnyH P md ops Q S (fuel+1) listed a w
 did:∀vk w,S w->Br u w->Rk vk w->wpAnyH P md ops Q S fuel (listed.setIfInBounds k true) (a.put dk vk) w
section
variable {P:Program}{md:Region.Mode}{ops:Array Oper}{Q:Exit->Act->World->Prop}{S:World->Prop}{k:Nat}{Rk:Value->World->Prop}{fuel:Nat}{listed:Array Bool}{a:Act}{u:World}{ok:Oper}
theorem apJ(k:Nat)(Rk:Value->World->Prop){ok:Oper}{w:World}(mk:∀v (w w':World),Rk v w->Br w w'->Rk v w')(yk:∀f,Kz P ops Q S ok Rk f)(h:Oq P ops Q S k ok Rk->Flt P md ops Q S k ok.dst Rk fuel listed a w)
  (hk:ops[k]?=some ok:=by(simp only[pD,pE,pF];rfl)) (Z:S w:=by assumption):wpAnyH P md ops Q S (fuel+1) listed a w:=(h ⟨hk,mk,yk⟩).pend w Z (AH _ _)
theorem Oo(D:Oq P ops Q S k ok Rk)(i:Nat)(e:Value->World->Prop){V:Oper}
  (y:∀f,(f=a∨∃v,f=a.put ok.dst v)->∀w,S w->Br u w->∀K:Act->World->Prop,(∀v w',S w'->e v w'->Br w w'->K (f.put V.dst v) w')->if Region.wanted V (yielded ops f.tmps)=true then Oper.wp P V f w K Q else K (f.put V.dst undef) w)
  (H:∀U C,S C->Br u C->e U C->Flt P md ops Q S k ok.dst Rk fuel (listed.setIfInBounds i true) (a.put V.dst U) C)
  (j:ops[i]?=some V:=by(simp only[pD,pE,pF];rfl)) (hr:Region.ready md ops listed=[i,k]:=by as_aux_lemma=>kernel_rfl) (A:Region.ready md ops (listed.setIfInBounds k true)=[i]:=by as_aux_lemma=>kernel_rfl) (s:i≠k:=by decide) (hn:V.dst≠ok.dst:=by decide):Flt P md ops Q S k ok.dst Rk (fuel+1) listed a u:=by
 have hd:∀d,ok.dst=some d->V.dst≠some d:=λd h1 h2=>hn (h2.trans h1.symm);have did:∀X w,S w->Br u w->Rk X w->wpAnyH P md ops Q S (fuel+1) (listed.setIfInBounds k true) (a.put ok.dst X) w:=λX w B Y o=>by refine wpAnyH_ready A sm (Aw j (λK I=>y _ (.inr ⟨X,rfl⟩) w B Y K (λU w' Z N J=>I.out _ _ Z (λ_=>?_))) Ci);have h:=(H U w' Z (Y.trans (J.mono Y.size)) N).did X w' Z (AH _ _) (D.kp _ _ _ o J);rw[OO _ _ s,<-Act.put_comm a X U hd]at h;exact h
 refine⟨λw B Y=>wpAnyH_ready hr sm (Aw j (λK I=>y _ (.inl rfl) w B Y K (λU w' Z N J=>I.out _ _ Z (λ_=>?_))) (Aw D.hk (λK I=>D.yk _ w B K (λX w' Z o J=>I.out _ _ Z (λ_=>?_))) Ci)),did⟩
 ·exact(H U w' Z (Y.trans (J.mono Y.size)) N).pend w' Z (AH _ _)
 ·exact did X w' Z (Y.trans (J.mono Y.size)) o
theorem apH(D:Oq P ops Q S k ok Rk)(i:Nat){Z:Oper}{v:Value}(y:∀f,(f=a∨∃v,f=a.put ok.dst v)->YieldsIf P ops S Z v f)
  (H:Flt P md ops Q S k ok.dst Rk fuel (listed.setIfInBounds i true) (a.put Z.dst v) u)
  (C:ops[i]?=some Z:=by(simp only[pD,pE,pF];rfl)) (I:Region.noSelect ops=true:=by as_aux_lemma=>kernel_rfl) (o:Region.free md ops listed i=true:=by as_aux_lemma=>kernel_rfl) (A:(Region.ready md ops listed).contains i=true:=by as_aux_lemma=>kernel_rfl)
  (N:Region.free md ops (listed.setIfInBounds k true) i=true:=by as_aux_lemma=>kernel_rfl) (V:(Region.ready md ops (listed.setIfInBounds k true)).contains i=true:=by as_aux_lemma=>kernel_rfl) (U:i≠k:=by decide) (s:Z.dst≠ok.dst:=by decide)
  (B:∀c b w,Q (.panic c) (Act.put b Z.dst v) w->Q (.panic c) b w:=by exact λ_ _ _ h=>h):Flt P md ops Q S k ok.dst Rk (fuel+1) listed a u:=by
 have j:∀d,ok.dst=some d->Z.dst≠some d:=λd h1 h2=>s (h2.trans h1.symm);refine⟨λw Y J=>wpAnyH_take C I o A (λc=>B c) (y _ (.inl rfl)) Y (H.pend w Y J),λX w Y J e=>?_⟩;refine wpAnyH_take C I N V (λc=>B c) (y _ (.inr ⟨X,rfl⟩)) Y ?_;have h:=H.did X w Y J e;rw[OO _ _ U,<-Act.put_comm a X v j]at h;exact h
theorem apI(D:Oq P ops Q S k ok Rk)(H:∀Y w,S w->Br u w->Rk Y w->wpAnyH P md ops Q S fuel (listed.setIfInBounds k true) (a.put ok.dst Y) w)(V:Region.ready md ops listed=[k]:=by as_aux_lemma=>kernel_rfl):Flt P md ops Q S k ok.dst Rk fuel listed a u:=⟨λw N X=>wpAnyH_ready V sm (Aw D.hk (λK I=>D.yk _ w N K (λY w' Z J U=>I.out _ _ Z (λ_=>H Y w' Z (X.trans (U.mono X.size)) J))) Ci),H⟩
end
section
attribute[local go_sem] Oper.semAt_some
attribute[local simp] Ak Al
attribute[local go_sem] Ak Al
theorem alk:(ZP.info? 30).map (λi=>(i.zero,i.size,i.bytes))=some (some (slice none 0 0),1,24):=by kernel_rfl
theorem Mc.frozen{W:World}{B:Nat}{L:List Int}{m n:Int}{row:Value}{fold:Bool}{Z:Value}{lo Y:Int}{wd:Value}(h:Mc W B L m n row fold Z lo Y wd)(i:Nat):W.frozen? ⟨B,i,none⟩=false:=by have h2:=h.box;simp[frozen?,h2]
theorem aj0{W:World}{G:Nat}{cs:Array Value}{t:TypeId}(h:W.heap[G]?=some (.cells cs t (0,0)))(i:Nat):W.frozen? ⟨G,i,none⟩=false:=by simp[frozen?,h]
theorem ad6(fold:Bool)(a:Option Addr)(y ca:Nat)(wss:Lq)(w:World)(hA:Wds w a y wss)(bp:y<=1000000)(hM:∀x∈wss,x.length<=1000000)(hT:(Ad fold wss).length<=1000000)(hr:An fold wss=true) :Calls ZP 52 #[.agg (AM fold a y ca)] w λe w'=>∃(B R ew wc:Nat)(a' wa:Option Addr),e=.returned (.tuple #[pointer (some ⟨B,0,none⟩),int i64 0])/\MOK w' B fold wss (Au wss) ((Dm wss (AB wss).length:Nat):Int) R a' y ew wa wc/\Br w w'/\Il w.heap.size w' B R a' y ew wss wa:=by
 have hB:=AL w (.cells (AM fold a y ca) 24);obtain⟨W0,bu⟩:∃W,W=w.alloc (.cells (AM fold a y ca) 24):=⟨_,rfl⟩;have aE:W0.heap[w.heap.size]?=some (.cells (AM fold a y ca) 24 (0,0)):=by rw[bu];exact AT _ _
 rw[<-bu]at hB;have c0:W0.cell? ⟨w.heap.size,0,none⟩=some (bool fold):=by simp[cell?,aE]
 have c1:W0.cell? ⟨w.heap.size,1,none⟩=some (slice a y ca):=by simp[cell?,aE]
 have bo:CI (AG wss)=some (AB wss,wss):=Fy.2 ⟨IY hr,rfl,rfl⟩;have aP:(AB wss).length<=400:=Hx bo;have f8:1<=Ah fold wss/\Ah fold wss<=257:=Hb _ _ _;have bw:=okT hr (λx hx c hc=>hA.bytes x hx c hc);have ef:=Oi bw;have d9:=OZ bw;have bE:=AA hA.len;have HD:=AA (λV (I:Br w V)=>aha fold a y ca wss V (hA.below I) bp hM hT hr);have eD:=AA (λV (I:Br w V)=>abH fold a y ca wss V (hA.below I) bp hM hT hr);have eH:=AA (λV (I:Br w V)=>alD fold a y ca wss V (hA.below I) bp hM);have eI:=AA (λV (I:Br w V)=>aev fold a y ca wss V (hA.below I) bp);have eO:=AA (λ(t:TV) V (hT:Tri V t (AG wss)) (hb:t.un<=140737488351232)=>ak6 t (AG wss) (AB wss) wss V hT hb bo);have df:=AA (λ(t:TV) V (hT:Tri V t (AG wss)) (hb:t.un<=140737488351232)=>akF t (AG wss) (AB wss) wss V hT hb bo);obtain⟨L,hL⟩:∃L,BF fold wss=L:=⟨_,rfl⟩;have a8:L.length=256:=by rw[<-hL];exact Jc _ _
 have de:Hid ((AB wss).length<=400):=aP;have fT:=AA d9;have fS:=AA bw;obtain⟨n,hn⟩:∃n,(AB wss).length=n:=⟨_,rfl⟩;obtain⟨m,hm⟩:∃m,Ah fold wss=m:=⟨_,rfl⟩;obtain⟨k,hk⟩:∃k,m*n=k:=⟨_,rfl⟩;have aB:k<=257*400:=by rw[<-hk];exact GR om om
 have fl:=AA hL;have HN:=AA hn;have HM:=AA hm;have fm:=AA hk;rw[hL,hm,hn,hk]at HD;rw[hn]at eO df;have eE:Hid (Hu (m:Int) k=(n:Int)):=by rw[Hid,<-hk,<-hm,<-hn,<-d9];exact ef
 clear hA hr bo bw hL hn hm hk aP d9 ef;refine Hc func52 rfl ?_;simp only[ntmps52,Cw,Ao,Bw,Nat.reduceAdd,Nat.reduceSub,Dd,Dc,DX,Da,Av,CT];go_upto_region 1 with fail
 rw [<-bu];clear bu;have fs:=AA (HD.out W0 hB);go_upto_region 2 with (first
  |(refine wpList_store_row rfl 146 _ _ rfl _ _ rfl rfl 146 _ (heap_alloc_new _ _) (anq a8 _ _) (aoH a8 _ _) (afb _ _ _ rfl) ?_)
  |(go_at_call 86;refine fs.out.mono ?_;rintro e w3 ⟨R,rfl,aL,fa,bq⟩))
 rw[World.setRow_alloc_new];have aH:=hB.trans (bq.mono hB.size);have fg:Hid (w.heap.size<=R):=AS hB.size fa;obtain⟨w4,bm⟩:∃w4,w4=w3.alloc (.cells (dvC L m (slice (some ⟨R,0,none⟩) k k)).toArray 146):=⟨_,rfl⟩;have bb:Br w w4:=by rw[bm];exact aH.alloc aH.size _
 have aS:Br w3 w4:=by rw[bm];exact AL _ _
 have bB:=Dv.new w3 L m (slice (some ⟨R,0,none⟩) k k) a8;rw[<-bm]at bB⊢;have ar:AU R (FN fold wss) w4:=(aS.block R aL.lt).trans aL;have aX:w4.heap[w.heap.size]?=some (.cells (AM fold a y ca) 24 (0,0)):=(aS.block _ (by have:=(AD.1 aE).1;have:=bq.size;omega)).trans ((bq.block _ (AD.1 aE).1).trans aE);have d0:w4.cell? ⟨w.heap.size,0,none⟩=some (bool fold):=by simp[cell?,aX]
 have d1:w4.cell? ⟨w.heap.size,1,none⟩=some (slice a y ca):=by simp[cell?,aX]
 have ff:=AA (eD.out w4 bb);have fw:w3.heap.size<w4.heap.size:=bB.lt;clear bm c0 c1 aS aL bq hB aE;go_upto_region 5 with(go_at_call 87;refine ff.out.mono ?_;rintro e w5 ⟨t,rfl,cZ,aC⟩;obtain⟨ua,un,uc,da,dn,dc,xa,xn,xc,ba,bn,bc⟩:=t;simp only[TV.cells])
 have ea:un<=140737488351232:=by have h1:=cZ.up.1;have h2:=alp wss;have h3:=de.out;dsimp only at h1;omega
 have fM:=bb.trans (aC.mono bb.size);obtain⟨w6,bl⟩:∃w6,w6=w5.alloc (.cells #[slice ua un uc,slice da dn dc,slice xa xn xc,slice ba bn bc] 150):=⟨_,rfl⟩;have bV:Br w5 w6:=by rw[bl];exact AL _ _
 have aw:w6.heap[w5.heap.size]?=some (.cells #[slice ua un uc,slice da dn dc,slice xa xn xc,slice ba bn bc] 150 (0,0)):=by rw[bl];exact AT _ _
 have aU:=cZ.below bV;have bL:Br w4 w6:=aC.trans (bV.mono aC.size);rw[<-bl];clear bl;have eN:=AA (eO.out _ w6 aU ea);have e0:w6.cell? ⟨w5.heap.size,0,none⟩=some (slice ua un uc):=by simp[cell?,aw]
 have e1:w6.cell? ⟨w5.heap.size,1,none⟩=some (slice da dn dc):=by simp[cell?,aw]
 have e2:w6.cell? ⟨w5.heap.size,2,none⟩=some (slice xa xn xc):=by simp[cell?,aw]
 have e3:w6.cell? ⟨w5.heap.size,3,none⟩=some (slice ba bn bc):=by simp[cell?,aw]
 clear d0 d1 cZ;go_upto_region 8 with(go_at_call 88;refine eN.out.mono ?_;rintro e C ⟨q,rfl,cT,fF,cX⟩)
 have aj:Br w4 C:=bL.trans (cX.mono bL.size);clear e0 e1 e2 e3;go_upto_region 10 with fail
 have ev:Br w C:=bb.trans (aj.mono bb.size);have ag:=AA ev;have bQ:=aU.below cX;have bf:=AA bQ;have db:=bB.below aj;have fI:w3.heap.size<C.heap.size:=db.lt;have HK:Hid (∀V,Br C V->Dv V w3.heap.size L m (slice (some ⟨R,0,none⟩) k k)):=λV I=>db.below I;have d4:C.heap[w.heap.size]?=some (.cells (AM fold a y ca) 24 (0,0)):=(aj.block _ (AD.1 aX).1).trans aX;have eF:Hid (∀V,Br C V->V.cell? ⟨w.heap.size,0,none⟩=some (bool fold)/\V.cell? ⟨w.heap.size,1,none⟩=some (slice a y ca)):=λV I=>by have h:=(I.block _ (AD.1 d4).1).trans d4;exact⟨by simp[cell?,h],by simp[cell?,h]⟩
 have bv:C.heap[w5.heap.size]?=some (.cells #[slice ua un uc,slice da dn dc,slice xa xn xc,slice ba bn bc] 150 (0,0)):=(cX.block _ (AD.1 aw).1).trans aw;have eB:Hid (∀V,Br C V->V.cell? ⟨w5.heap.size,0,none⟩=some (slice ua un uc)/\V.cell? ⟨w5.heap.size,1,none⟩=some (slice da dn dc)/\V.cell? ⟨w5.heap.size,2,none⟩=some (slice xa xn xc)/\V.cell? ⟨w5.heap.size,3,none⟩=some (slice ba bn bc)):=λV I=>by have h:=(I.block _ (AD.1 bv).1).trans bv;exact⟨by simp[cell?,h],by simp[cell?,h],by simp[cell?,h],by simp[cell?,h]⟩
 have bg:Hid ((ZP.info? 144).map (·.size)=some (L.map (int i64)).length):=by rw[Hid,BP,a8];kernel_rfl
 have bZ:Hid ((ZP.info? 146).map (·.size)=some (dvC L m (slice (some ⟨R,0,none⟩) k k)).toArray.size):=by rw[Hid,Ko a8];exact Nl
 obtain⟨bd,ay⟩:∃Z,tbC L m n (slice (some ⟨R,0,none⟩) k k)=Z:=⟨_,rfl⟩;have eA:Hid (bd.length=259):=by rw[Hid,<-ay];exact ajU a8 _ _ _
 have bY:=AA ay;obtain⟨ZT,cY⟩:∃Z,bd.toArray=Z:=⟨_,rfl⟩;have ey:=AA cY;have bi:Hid (ZP.built 157 [(0,.agg (L.map (int i64)).toArray),(1,int i64 m),(2,int i64 n),(3,slice (some ⟨R,0,none⟩) k k)]=some ZT):=by rw[Hid,<-cY,<-ay];exact adQ L m n _ k k a8
 have eC:Hid (w5.heap.size<C.heap.size):=(AD.1 bv).1;clear ay cY db d4 bv bQ aw aX bB aU ev;refine Code.wp_mono (Q:=apB (λa' V=>∃(p8 H cv:Nat)(av:Option Addr)(ZM:Array Value)(x9 dY cP cO cN cM cL cK cJ cI cH cG cF cE cD cC cB cA cz cy cx cw cu ct cr cq cp co cn cm cl ck cj ci ch cg cf ce cd cc:Value),a'={tmps:=List.toArray (Value.agg (AM fold a y ca)::pointer (some ⟨w.heap.size,0,none⟩)::pointer none::int i64 0::pointer (some ⟨w3.heap.size,0,none⟩)::int i64 0::pointer (some ⟨w5.heap.size,0,none⟩)::slice (some ⟨q,0,none⟩) n n::pointer (some ⟨p8,0,none⟩)::x9::dY::cP::cO::cN::cM::cL::cK::cJ::cI::cH::cG::cF::cE::cD::cC::cB::cA::cz::cy::cx::cw::cu::ct::cr::cq::cp::co::cn::cm::cl::ck::cj::ci::ch::cg::cf::ce::cd::cc::undef::undef::undef::undef::undef::undef::undef::undef::undef::undef::undef::undef::undef::undef::undef::undef::undef::undef::undef::undef::undef::undef::undef::undef::undef::undef::undef::undef::undef::undef::undef::undef::undef::undef::undef::undef::undef::undef::undef::undef::[]),defers:=[]}/\Boxed V p8 88 (pointer (some ⟨H,0,none⟩))/\V.heap[H]?=some (.cells ZM 162 (0,0))/\(bd++[bool fold,slice av y cv,int i64 (Au wss),int i64 ((Dm wss n:Nat):Int),slice none 0 0]).toArray=ZM/\BI V C.heap.size (slice av y cv) wss/\Br C V/\C.heap.size<=p8/\C.heap.size<=H/\y<=cv/\H≠p8)) (λe a' Y hM=>?_) ?_
 ·cases e<;>first|exact absurd hM id|skip
  obtain⟨p8,H,cv,av,ZM,x9,dY,cP,cO,cN,cM,cL,cK,cJ,cI,cH,cG,cF,cE,cD,cC,cB,cA,cz,cy,cx,cw,cu,ct,cr,cq,cp,co,cn,cm,cl,ck,cj,ci,ch,cg,cf,ce,cd,cc,rfl,hP,bC,aD,ej,hHeld,f3,cW,aQ,aZ⟩:=hM;simp only[Exit.then];go_upto_region 11 with fail
  have bx:Mc Y H L m n (slice (some ⟨R,0,none⟩) k k) fold (slice av y cv) (Au wss) ((Dm wss n:Nat):Int) (slice none 0 0):=⟨by rw[bC,<-aD,<-bY.out,amL],a8⟩;have eM:=AA ej;clear ej bC aD bi ey bY eA bZ bg eH eI df eE HD eD HK;have cS:=hP.lt;have f5:=bx.lt;have dd:Hid (H≠p8):=aZ;have eQ:Hid (∀X:World,(Instr.makeSlice 160 (int i64 (n:Int)) (int i64 (n:Int))).run ZP X=.ok (slice (some ⟨X.heap.size,0,none⟩) n n) (X.alloc (.cells (GW n) 30))):=λX=>by
   obtain⟨i0,hi,bk,aJ,bj⟩:=Vk alk;have aP:=de.out;rw[HN.out]at aP;have h:=run_makeSlice (P:=ZP) (w:=X) 160 30 i0 (.slice none 0 0) underlying160 hi bk .i64 .i64 (n:Int) (n:Int) om om (by rw[aJ];omega) (by rw[bj];omega) om;rw[aJ]at h;have e1:(n:Int).toNat*1=n:=by omega
   rw[e1,agW,Aa]at h;exact h
  have KP:Hid (∀X,(DW Y.heap.size H Y X/\∃wd,Mc X H L m n (slice (some ⟨R,0,none⟩) k k) fold (slice av y cv) (Au wss) ((Dm wss n:Nat):Int) (wd))->X.cell? ⟨p8,0,none⟩=some (pointer (some ⟨H,0,none⟩))/\X.cell? ⟨H,257,none⟩=some (int i64 (n:Int))):=λX hX=>⟨(BC (a:=⟨p8,0,none⟩) (hX.1.1 p8 cS (Ne.symm dd.out))).trans hP.cell,by obtain⟨wd,h⟩:=hX.2;exact h.cells.2.1⟩;refine Vh ?_;refine Vg (S:=λX=>DW Y.heap.size H Y X/\∃wd,Mc X H L m n (slice (some ⟨R,0,none⟩) k k) fold (slice av y cv) (Au wss) ((Dm wss n:Nat):Int) (wd)) kr ⟨⟨λ_ _ _=>rfl,AC _⟩,_,bx.below (AN Y 1)⟩ (λaY=>?_);obtain⟨Y1,bt⟩:∃W,W=Y.drew:=⟨_,rfl⟩;have ak:Br Y Y1:=by rw[bt];exact AN Y 1
  have bS:=bx.below ak;have bI:Hid (Y1.heap.size=Y.heap.size):=by rw[Hid,bt];rfl
  rw[<-bt]at aY⊢;clear bt;refine tkB 0 KP.out ?_;refine tkB 1 KP.out ?_;refine tkA 2 ?_;refine tkA 3 ?_;refine tkA 4 ?_;refine tkB 5 KP.out ?_;refine rdy 6 (λK J=>?_);have f7:=eQ.out Y1;go_simp;obtain⟨Y2,aT⟩:∃W,W=Y1.alloc (.cells (GW n) 30):=⟨_,rfl⟩;have a6:Br Y1 Y2:=by rw[aT];exact AL _ _
  have d8:Y2.heap[Y1.heap.size]?=some (.cells (GW n) 30 (0,0)):=by rw[aT];exact heap_alloc_new _ _
  have aB:DW Y.heap.size H Y Y2:=by rw[aT];exact aaq aY.1 _
  rw[<-aT];clear aT f7;have a7:=bS.below a6;obtain⟨G,d6⟩:∃G,Y1.heap.size=G:=⟨_,rfl⟩;have bz:Hid (G=Y.heap.size):=by rw[Hid,<-d6];exact bI.out
  rw[d6]at d8⊢;clear d6;refine J.out _ _ ⟨aB,_,a7⟩ (λeh=>?_);clear J K aY
  try simp only[pq]
  refine tkA 7 ?_;refine tkA 8 ?_;refine rdy 9 (λK J=>?_);have c0:=a7.cells.2.2.2.2.2.2.2;have c1:=a7.frozen 263;have c2:=a7.lt;go_simp;have al:=a7.setW (slice (some ⟨G,0,none⟩) n n);have d7:G≠H:=by have:=bz.out;omega
  have b8:=(AQ Y2 ⟨H,263,none⟩ (slice (some ⟨G,0,none⟩) n n) G d7).trans d8;have bW:Br C Y2:=hHeld.trans ((ak.trans (a6.mono ak.size)).mono hHeld.size);have aH:=bW.setCell (p:=⟨H,263,none⟩) cW (slice (some ⟨G,0,none⟩) n n);have b6:=((eM.out.below ak).below a6).turned (BH Y2 H 263 (slice (some ⟨G,0,none⟩) n n)) a7.box (Vc kr) (Vc kr);have aF:=(AQ Y2 ⟨H,263,none⟩ (slice (some ⟨G,0,none⟩) n n) p8 (Ne.symm dd.out)).trans ((aB.1 p8 cS (Ne.symm dd.out)).trans hP);have cV:DW Y.heap.size H Y (Y2.setCell ⟨H,263,none⟩ (slice (some ⟨G,0,none⟩) n n)):=⟨λi h1 h2=>(AQ Y2 ⟨H,263,none⟩ _ i h2).trans (aB.1 i h1 h2),by have:=aB.2;simpa[World.setCell]using this⟩;obtain⟨Y3,ee⟩:∃W,W=Y2.setCell ⟨H,263,none⟩ (slice (some ⟨G,0,none⟩) n n):=⟨_,rfl⟩;rw[<-ee]at al b8 aH b6 aF cV⊢;have f2:Hid (G<Y3.heap.size):=(AD.1 b8).1;have aF:Boxed Y3 p8 88 (pointer (some ⟨H,0,none⟩)):=aF;clear ee;refine J.out _ _ ⟨cV,_,al⟩ (λeg=>?_);clear J K eh eg cV aB a7 bS bx ak a6 bW c0 c1 c2 d8 hP hHeld eM KP eQ f5 bI
  try simp only[pq]
  refine Vj kr ?_ _;refine At ?_;have es:=GP.new b8;have fo:=AA b8;have eL:=AA b6;have eU:=AA aH;have ap:=AA al;have eJ:=AA aF;have c0:=aF.cell;have c1:=al.cells.2.1;have b7:Hid (G≠H):=d7;have eT:Hid (C.heap.size<=H):=cW;have bT:Hid (G≠p8):=by have:=bz.out;rw[Hid];omega
  have bA:Hid (C.heap.size<=G):=by have:=bz.out;rw[Hid];omega
  have eX:n=xn:=by have h:=bf.out.wrd.1;dsimp only at h;rw[(Jt wss).1,HN.out]at h;exact h
  obtain rfl:=eX;have f4:0<n:=by rw[<-HN.out];exact(AP.1 (CM wss)).1
  obtain⟨b0,o0,dZ,bO,hcw⟩:=bf.out.wrd.2.resolve_left (by dsimp only;omega);dsimp only at dZ;subst dZ;have ft:Hid (∀(i:Nat)(v:Int),(AG wss).wrd[i]?=some v->C.cell? ⟨b0,o0+i,none⟩=some (int i64 v)):=hcw;have cb:Hid (b0<C.heap.size):=bO;have fi:=AA cT;have ed:Hid (q<C.heap.size):=cT.lt;have bD:Hid (n<=400):=by have:=de.out;rw[HN.out]at this;exact this
  clear b8 b6 aH al aF d7 cS bz cW f3 aZ hcw bO cT f4
  go_wp2_with fail
  refine wp_loop (λa' w'=>∃(node:Nat)(ds:List Deferred)(y63 y9 dX dW dV dU dT dS dR dQ dP dO dN dM dL dK dJ dI dH dG dF dE dD dC dB dA dz dy dx dw dv du dr dq dp dm dk di dh dg:Value),(y63=int i64 (node:Int)/\node<=n/\Hid (GP G n ((List.range node).map (CA wss)) w')/\Hid (Y3.grownBy w' (some G))/\Hid (FE C.heap.size w' ds))/\a'={tmps:=List.toArray (Value.agg (AM fold a y ca)::pointer (some ⟨w.heap.size,0,none⟩)::pointer none::int i64 0::pointer (some ⟨w3.heap.size,0,none⟩)::int i64 0::pointer (some ⟨w5.heap.size,0,none⟩)::slice (some ⟨q,0,none⟩) n n::pointer (some ⟨p8,0,none⟩)::y9::dX::cP::cO::cN::cM::cL::cK::cJ::cI::cH::cG::cF::cE::cD::cC::cB::cA::cz::cy::cx::cw::cu::ct::cr::cq::cp::co::cn::cm::cl::ck::cj::ci::ch::cg::cf::ce::cd::cc::dW::dV::dU::dT::dS::dR::dQ::dP::dO::dN::dM::dL::dK::int i64 (n:Int)::y63::dJ::dI::dH::dG::dF::dE::dD::dC::dB::dA::dz::dy::dx::dw::dv::du::dr::dq::dp::dm::dk::di::dh::dg::undef::[]),defers:=ds}) (λa' _=>n-(intOf (a'.tmps.getD 63 undef)).toNat) ⟨0,[],_,_,_,_,_,_,_,_,_,_,_,_,_,_,_,_,_,_,_,_,_,_,_,_,_,_,_,_,_,_,_,_,_,_,_,_,_,_,_,_,⟨rfl,AR _,es,(⟨rfl,rfl,rfl,AC _,λ_ _ _=>rfl⟩:Y3.grownBy Y3 (some G)),trivial⟩,rfl⟩ ?_;rintro a' wr ⟨node,ds,y63,y9,dX,dW,dV,dU,dT,dS,dR,dQ,dP,dO,dN,dM,dL,dK,dJ,dI,dH,dG,dF,dE,dD,dC,dB,dA,dz,dy,dx,dw,dv,du,dr,dq,dp,dm,dk,di,dh,dg,⟨rfl,fH,HF,aI,HC⟩,rfl⟩;have am:Hid (Br C wr):=eU.out.grown aI.out eU.out.size (λj e=>by cases e;exact bA.out);have cU:Hid (∀i,i<Y3.heap.size->i≠G->wr.heap[i]?=Y3.heap[i]?):=λi h1 h2=>aI.out.block i h1 (λe=>h2 (by cases e;rfl));have d5:Boxed wr p8 88 (pointer (some ⟨H,0,none⟩)):=(cU.out p8 eJ.out.lt (Ne.symm bT.out)).trans eJ.out;have eG:=AA d5;clear c0 c1;have c0:=d5.cell;clear d5 es
  by_cases ai:node<n
  ·have hd:decide ((node:Int)<(n:Int))=true:=by simp;omega
   obtain⟨e0,e1,e2,e3⟩:=eB.out wr am.out;have l5:w5.heap.size<wr.heap.size:=Af eC.out am.out.size;have l8:p8<wr.heap.size:=eG.out.lt
   go_wp2_with (go_at_call 93;refine(ain ⟨ua,un,uc,da,dn,dc,some ⟨b0,o0,none⟩,n,xc,ba,bn,bc⟩ (some ⟨q,0,none⟩) n n (node:Int) _).mono ?_;rintro e U ⟨rfl,aa⟩)
   try simp only[TV.cells]
   obtain⟨U,aa⟩:∃W,W=((((wr.alloc (.cells #[int i64 (node:Int)] 3)).alloc (.cells #[slice ua un uc,slice da dn dc,slice (some ⟨b0,o0,none⟩) n xc,slice ba bn bc] 150)).alloc (.cells #[slice (some ⟨q,0,none⟩) n n] 30)).alloc (.cells #[int i64 (node:Int)] 3)):=⟨_,rfl⟩;have hO:Bx wr.heap.size [.cells #[int i64 (node:Int)] 3,.cells #[slice ua un uc,slice da dn dc,slice (some ⟨b0,o0,none⟩) n xc,slice ba bn bc] 150,.cells #[slice (some ⟨q,0,none⟩) n n] 30,.cells #[int i64 (node:Int)] 3] U:=by rw[aa];exact((((Bx.nil _ wr).snoc _ rfl).snoc _ sm).snoc _ sm).snoc _ sm
   have ae:Br wr U:=by rw[aa];exact(((AL wr _).alloc sm _).alloc (by simp;omega) _).alloc (by simp;omega) _
   have fv:U.heap.size=wr.heap.size+1+1+1+1:=by rw[aa];simp
   rw[<-aa];clear aa e0 e1 e2 e3;have eq:Boxed U wr.heap.size 3 (int i64 (node:Int)):=hO 0 _ rfl;have eo:U.heap[wr.heap.size+1]?=_:=hO 1 _ rfl;have em:Boxed U (wr.heap.size+1+1) 30 (slice (some ⟨q,0,none⟩) n n):=hO 2 _ rfl;have ek:Boxed U (wr.heap.size+1+1+1) 3 (int i64 (node:Int)):=hO 3 _ rfl;have az:Br C U:=am.out.trans (ae.mono am.out.size);have bJ:AU q (Bk wss) U:=(az.block q ed.out).trans fi.out;have bU:G<wr.heap.size:=Af f2.out aI.out.size;have f1:=am.out.size;have fG:q<G:=Af ed.out bA.out;have fK:b0<G:=Af cb.out bA.out;have cR:=aez wss (wr.heap.size+1+1+1) (wr.heap.size+1+1) (wr.heap.size+1) q n b0 o0 xc n node _ _ _ (λk=>k<U.heap.size/\k≠G) 8 U eo bJ HN.out (by have:=bD.out;omega) (λi v hv=>(az.cell (p:=⟨b0,o0+i,none⟩) cb.out).trans (ft.out i v hv)) em ek ⟨⟨by omega,by omega⟩,⟨by omega,by omega⟩,⟨by omega,by omega⟩,⟨by omega,by omega⟩,⟨by omega,by omega⟩⟩ (λk hk=>hk.1) ⟨by omega,by omega,by omega,by omega⟩ ai;obtain⟨vs,cQ,e8,eW,aN,aK⟩:=HF.out;have eV:((List.range node).map (CA wss)).length=node:=by simp
   have e7:vs[node]?=some (none,0,0):=by
    have h1:node<vs.length:=by omega
    have h2:=aN node vs[node] om (by simp[h1]);rw[Ar h1,h2]
   have bH:vs.set node (none,0,0)=vs:=by
    apply Hn
    intro i;rw[Gr]
    split
    ·rename_i h;subst h;rw[Vb om,e7]
    ·rfl
   have bK:U.heap[G]?=some (.cells (vs.map svV).toArray 30 (0,0)):=(ae.block G bU).trans cQ;have eS:FD G U.heap.size vs node [] U:=⟨(none,0,0),by rw[bH];exact bK,BN _ _ _ _⟩;have ez:=AA cQ;have ax:Hid (vs.length=n):=e8;have eP:=AA aN;have fh:=AA aK;have fk:=AA eq;have fz:=AA az;have bX:=AA ae;have bR:Boxed U p8 88 (pointer (some ⟨H,0,none⟩)):=(ae.block p8 l8).trans eG.out;have eK:=AA bR;have er:Hid (H<wr.heap.size):=Af ap.out.lt aI.out.size;have eR:Hid (U.cell? ⟨H,263,none⟩=some (slice (some ⟨G,0,none⟩) n n)):=(BC (a:=⟨H,263,none⟩) ((ae.block H er.out).trans (cU.out H ap.out.lt (Ne.symm b7.out)))).trans ap.out.cells.2.2.2.2.2.2.2;have eY:(CA wss node).length<=1000000:=by have:=LL wss node;have:=bD.out;omega
   clear cQ e8 aN aK eq eo em ek hO az ae bJ bH e7 bK bR eW
   apply amM rfl (enters_of func137 kr rfl) cR (λr hr=>by rw [hr];omega) GD (JR λk hk=>hk.1) (λ_=>rfl) (hKr:=λ_ _ _=>rfl)
    (λs W=>FD G U.heap.size vs node s W/\((∀k,k<U.heap.size->k≠G/\k≠wr.heap.size+1+1+1->W.heap[k]?=U.heap[k]?)/\U.heap.size<=W.heap.size)/\RowKit.Below G U W)
    (λ_ _ _=>False)
   case hI=>exact BL.and (aft om om id) (BL.and (ahk (G:=G) (λk _ h=>h.2)) (BL.below om om (λr hr=>by rw[hr];omega)))
   case hIx=>exact λ_ _ _ _ _ hs _ _=>hs
   case h0=>exact⟨eS,⟨λ_ _ _=>rfl,AC _⟩,Jj _ _⟩
   case hassign=>
    intro l x W K J;unfold OX
    gi_wp2
    exact J
   case hbody=>
    rintro l s u W ⟨⟨⟨va,vn,vc⟩,hv,ab⟩,⟨aG,f0⟩,b9⟩ fx
    try dsimp only
    obtain⟨fO,fN,he,fy,_⟩:=Co (enc:=int i64) ab;simp only[svV,IL]at he;obtain⟨rfl,rfl,rfl⟩:=he;have fL:s.length<=1000:=by have:=bD.out;omega
    obtain⟨i0,hi,bk,aJ,bj⟩:=Vk JS;have fj:=AA ab;have HV:=AA hv;have fd:G<W.heap.size:=by omega
    have KC:Hid (∀X,DW U.heap.size G W X->X.cell? ⟨p8,0,none⟩=some (pointer (some ⟨H,0,none⟩))/\X.cell? ⟨H,263,none⟩=some (slice (some ⟨G,0,none⟩) n n)/\X.cell? ⟨wr.heap.size,0,none⟩=some (int i64 (node:Int))):=λX hX=>by have h1:∀k,k<wr.heap.size+1->k≠G->X.heap[k]?=U.heap[k]?:=λk ha hb=>(hX.1 k om hb).trans (aG k om ⟨hb,by omega⟩);exact⟨(BC (a:=⟨p8,0,none⟩) (h1 p8 om (Ne.symm bT.out))).trans eK.out.cell,(BC (a:=⟨H,263,none⟩) (h1 H (by have:=er.out;omega) (Ne.symm b7.out))).trans eR.out,(BC (a:=⟨wr.heap.size,0,none⟩) (h1 wr.heap.size om om)).trans fk.out.cell⟩
    have i1:(0:Int)<=(node:Int):=by omega
    have i2:(node:Int)<(n:Int):=by omega
    clear hv ab cR c0
    gi_wp2
    have eZ:W.drew.heap[G]?=some (.cells ((vs.set node (va,s.length,vc)).map svV).toArray 30 (0,0)):=HV.out;have au:W.drew.ownsRow U.heap.size 3 1 (slice va s.length vc) s.length (s.map (int i64)):=fj.out;have be:=AA eZ;have aA:Hid (FB W.drew U.heap.size (slice va s.length vc) s):=au;have ec:SlK 1 (W.drew.alloc (.cells #[int i64 u] 3)) (some ⟨W.drew.heap.size,0,none⟩) 1 [int i64 u]:=ane W.drew u;refine aa4 (S:=DW U.heap.size G W) mixed kr ⟨λ_ _ _=>rfl,(by show U.heap.size<=W.heap.size;omega)⟩ (λhHeld=>?_);refine tkB 0 KC.out ?_;refine tkB 1 KC.out ?_;refine tkB 2 KC.out ?_;refine tkB 3 KC.out ?_;refine tkB 4 KC.out ?_;refine tkB 5 KC.out ?_;refine tkB 6 KC.out ?_;refine tkB 7 KC.out ?_;refine tkB 8 KC.out ?_;refine tkB 9 KC.out ?_;refine tkB 10 KC.out ?_;refine tkA 12 ?_;refine apE 11 13 (λK J=>?_) (λK J=>?_)
    ·have c6:=FD.cell (B:=0) be.out (by rw[ax.out];exact ai);have A:=hHeld;go_simp;refine J.out _ _ ?_ (λN=>?_)
     ·exact A
     clear J K hHeld A;have hHeld:=N;clear N
     try simp only[pq]
     refine rdy 13 (λK J=>?_);have A:=hHeld;go_simp;refine J.out _ _ ?_ (λN=>?_)
     ·exact aaq A _
     clear J K hHeld A c6;have hHeld:=N;clear N
     try simp only[pq]
     refine rdy 14 (λK J=>?_);refine Mi kr ?_;refine NT _ _ _ 30 rfl U.heap.size 3 i0 (.int .i64 0) 1 8 underlying30 hi bk aJ bj rfl (by decide) _ _ _ rfl (au.alloc _) (some ⟨W.drew.heap.size,0,none⟩) 1 1 [.int .i64 u] rfl ec (by simp[Value.oneCell']) (by unfold maxLen;omega) om (by show U.heap.size<=(W.heap.push _).size;simp;omega) ?_;intro v' aq a2 o f9;obtain⟨g',ao,rfl⟩:=ownsRow_succ a2;obtain⟨b1,b2,b3,b4,b5⟩:=FD.app (u:=(some ⟨g',0,none⟩,s.length+1,ao)) be.out aA.out om (by show U.heap.size<=W.heap.size;omega) a2 o;have d1:=FD.cell (B:=0) b1 (by rw[ax.out];exact ai);have d2:=aj0 b1 node;have d3:G<aq.heap.size:=(AD.1 b1).1;have ac:∀k,k<U.heap.size->(Value.slice va s.length vc).ownBlock≠some k:=λk hk e=>by have:=(BA aA.out k e).1;omega
     have aW:DW U.heap.size G W aq:=⟨λk h1 h2=>(o.block k (by show k<(W.heap.push _).size;simp;omega) (λe=>ac k h1 e.symm)).trans ((AL W.drew _).block k (by show k<W.heap.size;omega)),AS (by show U.heap.size<=(W.heap.push _).size;simp;omega) o.size⟩;refine J.out _ _ aW (λN=>?_);clear J K hHeld;have hHeld:=N;clear N
     try simp only[pq]
     refine tkA 15 ?_;refine rdy 16 (λK J=>?_);go_simp;have aV:DW U.heap.size G W (aq.setCell ⟨G,node,none⟩ (slice (some ⟨g',0,none⟩) (s.length+1) ao)):=⟨λk h1 h2=>b4 k h1 h2,by have h1:=aW.2;simpa[World.setCell]using h1⟩;refine J.out _ _ ?_ (λN=>?_)
     ·exact aV
     clear J K hHeld N;refine Vj kr ?_ _;refine Gn.normal ?_
     gi_wp2
     exact⟨(show KeepsOthers W _ from⟨b3.size,b3.same⟩).from _,λk hk=>b4 k hk.1 hk.2,b2,⟨λk h1 h2=>(b4 k h1 h2.1).trans (aG k h1 h2),aV.2⟩,b9.trans (((AN W 1).mono om).trans b5)⟩
    ·have A:=hHeld;go_simp;refine J.out _ _ ?_ (λN=>?_)
     ·exact aaq A _
     clear J K hHeld A;have hHeld:=N;clear N
     try simp only[pq]
     refine rdy 11 (λK J=>?_);have c6:=FD.cell (B:=0) be.out (by rw[ax.out];exact ai);have c8:=FD.cell (B:=0) HV.out (by rw[ax.out];exact ai);have c7:=FD.cell (B:=0) ((Bg W.drew (.cells #[int i64 u] 3) G fd).trans be.out) (by rw[ax.out];exact ai);have A:=hHeld;go_simp;refine J.out _ _ ?_ (λN=>?_)
     ·exact A
     clear J K hHeld A c7 c6 c8;have hHeld:=N;clear N
     try simp only[pq]
     refine rdy 14 (λK J=>?_);refine Mi kr ?_;refine NT _ _ _ 30 rfl U.heap.size 3 i0 (.int .i64 0) 1 8 underlying30 hi bk aJ bj rfl (by decide) _ _ _ rfl (au.alloc _) (some ⟨W.drew.heap.size,0,none⟩) 1 1 [.int .i64 u] rfl ec (by simp[Value.oneCell']) (by unfold maxLen;omega) om (by show U.heap.size<=(W.heap.push _).size;simp;omega) ?_;intro v' aq a2 o f9;obtain⟨g',ao,rfl⟩:=ownsRow_succ a2;obtain⟨b1,b2,b3,b4,b5⟩:=FD.app (u:=(some ⟨g',0,none⟩,s.length+1,ao)) be.out aA.out om (by show U.heap.size<=W.heap.size;omega) a2 o;have d1:=FD.cell (B:=0) b1 (by rw[ax.out];exact ai);have d2:=aj0 b1 node;have d3:G<aq.heap.size:=(AD.1 b1).1;have ac:∀k,k<U.heap.size->(Value.slice va s.length vc).ownBlock≠some k:=λk hk e=>by have:=(BA aA.out k e).1;omega
     have aW:DW U.heap.size G W aq:=⟨λk h1 h2=>(o.block k (by show k<(W.heap.push _).size;simp;omega) (λe=>ac k h1 e.symm)).trans ((AL W.drew _).block k (by show k<W.heap.size;omega)),AS (by show U.heap.size<=(W.heap.push _).size;simp;omega) o.size⟩;refine J.out _ _ aW (λN=>?_);clear J K hHeld;have hHeld:=N;clear N
     try simp only[pq]
     refine tkA 15 ?_;refine rdy 16 (λK J=>?_);go_simp;have aV:DW U.heap.size G W (aq.setCell ⟨G,node,none⟩ (slice (some ⟨g',0,none⟩) (s.length+1) ao)):=⟨λk h1 h2=>b4 k h1 h2,by have h1:=aW.2;simpa[World.setCell]using h1⟩;refine J.out _ _ ?_ (λN=>?_)
     ·exact aV
     clear J K hHeld N;refine Vj kr ?_ _;refine Gn.normal ?_
     gi_wp2
     exact⟨(show KeepsOthers W _ from⟨b3.size,b3.same⟩).from _,λk hk=>b4 k hk.1 hk.2,b2,⟨λk h1 h2=>(b4 k h1 h2.1).trans (aG k h1 h2),aV.2⟩,b9.trans (((AN W 1).mono om).trans b5)⟩
   case hstop=>exact λ_ _ _ _ _ _ h _=>h.elim
   case hdone=>
    rintro D zs W hD hS ⟨hH,⟨aG,f0⟩,b9⟩ eu;subst hS;have af:∀i,i<wr.heap.size->i≠G->W.heap[i]?=wr.heap[i]?:=λi h1 h2=>(aG i om ⟨h2,by omega⟩).trans (bX.out.block i h1);have eb:wr.heap.size<=W.heap.size:=by omega
    have fq:Hid (GP G n ((List.range (node+1)).map (CA wss)) W):=by rw[Hid,El,Aj];exact GP.step ez.out ax.out eV ai eP.out fh.out om hH af eb
    have aR:=(bX.out.mono (DP bU)).trans b9;have fp:Hid (Y3.grownBy W (some G)):=adm aI.out ⟨aR.os,aR.tape,aR.output,aR.size,λi hi aO=>af i hi (λe=>aO (by rw[e]))⟩;have fu:Hid (FE C.heap.size W ({target:=.collected D,args:=#[]}::ds)):=FE.push HC.out af (λl e=>by rw[ez.out]at e;cases e) om eu f1;clear hH aG b9 aR af cR eu eS;have aP:=bD.out;dsimp only
    go_wp2_with fail
    refine⟨⟨node+1,_,_,_,_,_,_,_,_,_,_,_,_,_,_,_,_,_,_,_,_,_,_,_,_,_,_,_,_,_,_,_,_,_,_,_,_,_,_,_,_,_,⟨by simp,by omega,fq,fp,fu⟩,rfl⟩,?_⟩;show n-(intOf (int i64 ((node:Int)+1))).toNat<n-(intOf (int i64 (node:Int))).toNat;simp only[intOf];omega
  ·have hd:decide ((node:Int)<(n:Int))=false:=by simp;omega
   have aO:Hid (node=n):=by rw[Hid];omega
   go_wp2_with fail
   show LeavesInM Fence.wide 9 ZP _ _ _ _ .returning wr;refine apl (Q:=C.heap.size) ds wr am.out.size HC.out (λW' hT=>⟨_,results_tmp2 rfl _ _ _,?_⟩);have e5:=eL.out.turned aI.out fo.out (Vc kr) (Vc kr);have e4:=e5;obtain⟨a9,c9,e9,fJ,bG⟩:=e5.wds;rw[bE.out]at e9 bG
   cases e9
   have fc:=aj.block R ar.lt;have fb:R<C.heap.size:=Af ar.lt aj.size;have ac:=HF.out.far (q:=w.heap.size) (AS ag.out.size bA.out);rw[aO.out]at ac;have et:Il w.heap.size wr H R av y cv wss (some ⟨G,0,none⟩):=⟨AS ag.out.size eT.out,fg.out,e4.lower ag.out.size,by rw[HN.out];exact ac⟩;refine⟨H,R,cv,n,av,some ⟨G,0,none⟩,rfl,hT.mok ⟨?_,?_,?_,?_⟩,ag.out.trans ((am.out.trans hT.1).mono ag.out.size),et.kept hT.kept⟩
   ·rw[fl.out,HM.out,HN.out,fm.out];exact⟨(cU.out H ap.out.lt (Ne.symm b7.out)).trans ap.out.box,a8⟩
   ·exact(am.out.block R fb).trans (fc.trans ar)
   ·exact bG
   ·rw[HN.out];have hl:=HF.out.lls (by simp;exact aO.out);rw[aO.out]at hl;exact hl
 refine Vh ?_;refine Vg (S:=Br C) kr (AN C 1) (λhHeld=>?_);obtain⟨w8,e6⟩:∃W,W=C.drew:=⟨_,rfl⟩;rw[<-e6]at hHeld⊢;clear e6;refine tkA 0 ?_;refine' wpAnyH_take (i:=1) (v:=_) (by simp only[pD,pE,pF];rfl) (by as_aux_lemma=>kernel_rfl) (by as_aux_lemma=>kernel_rfl) (by as_aux_lemma=>kernel_rfl) (λ_ _ _ h=>h) (yieldsIf_load_mid (by rfl) _ _ rfl w3.heap.size 0 rfl (L.map (Value.int .i64)) _ (λV I=>(HK.out V I).range) underlying144 rfl bg.out) (by assumption) ?_
 try simp only[pq]
 refine tkA 2 ?_;refine tkW 3 (v:=?_) ?_ ?_;rotate_left
 ·intro V I;have r0:=(HK.out V I).cells.1
  first|(go_simp;done)|(go_simp;with_reducible rfl)
 try simp only[pq]
 refine' wpAnyH_take (i:=4) (v:=_) (by simp only[pD,pE,pF];rfl) (by as_aux_lemma=>kernel_rfl) (by as_aux_lemma=>kernel_rfl) (by as_aux_lemma=>kernel_rfl) (λ_ _ _ h=>h) (aaS (by rfl) _ _ rfl w3.heap.size rfl 146 _ (0,0) _ (λV I=>(HK.out V I).box) underlying146 rfl bZ.out) (by assumption) ?_
 try simp only[pq]
 refine tkA 6 ?_;refine tkW 7 (v:=?_) ?_ ?_;rotate_left
 ·intro V I;have r0:=(HK.out V I).cells.2
  first|(go_simp;done)|(go_simp;with_reducible rfl)
 try simp only[pq]
 refine tkB 9 eF.out ?_;refine tkB 11 eF.out ?_;refine tkB 13 eB.out ?_;refine apJ 17 (λv V=>∃p,v=pointer (some ⟨p,0,none⟩)/\Boxed V p 88 (pointer none)/\C.heap.size<=p) ?_ ?_ (λD=>?_)
 ·rintro _ V V' ⟨p,rfl,b,h⟩ hb;exact⟨p,rfl,(hb.block _ b.lt).trans b,h⟩
 ·intro f V I K J;go_simp;exact J _ _ (I.alloc I.size _) ⟨_,rfl,Boxed.new _ _ _,I.size⟩ (AL _ _)
 refine Oo D 5 (λv _=>v=int i64 n) ?_ ?_
 ·rintro f (rfl|⟨vk,rfl⟩) V I-K J<;>(try simp only[pq]at J⊢)<;>go_simp<;>(go_at_call 89;refine(ab7 L m (some ⟨R,0,none⟩) k k _ a8 om).mono ?_;rintro e V5 ⟨rfl,aC⟩;rw[eE.out];exact J _ _ (I.trans (aC.mono I.size)) rfl aC)
 rintro _ w9 hHeld-rfl
 try simp only[pq]
 refine apH D 8 (v:=.agg ZT) ?_ ?_
 ·rintro f (rfl|⟨vk,rfl⟩)<;>(try simp only[pq])<;>exact Iz (by rfl) _ _ rfl ZT (by go_simp;exact bi.out)
 try simp only[pq]
 refine Oo D 10 (λv V=>∃av cv,v=.agg #[bool fold,slice av y cv]/\y<=cv/\BI V C.heap.size (slice av y cv) wss) ?_ ?_
 ·rintro f (rfl|⟨vk,rfl⟩) V I-K J<;>(try simp only[pq]at J⊢)<;>go_simp<;>(go_at_call 90;refine(eH.out _ (ag.out.trans (I.mono ag.out.size))).mono ?_;rintro e fR ⟨v,rfl,ab,bN⟩;obtain⟨av,cv,rfl,aQ,-⟩:=ab.wds;rw[bE.out]at aQ;have aM:=BI.lower ab I.size;rw[bE.out]at aM;rw[bE.out];exact J _ _ (I.trans (bN.mono I.size)) ⟨_,_,rfl,aQ,aM⟩ bN)
 rintro _ fE hHeld-⟨av,cv,rfl,aQ,a1⟩
 try simp only[pq]
 obtain⟨ZM,aD⟩:∃Z,(bd++[bool fold,slice av y cv,int i64 (Au wss),int i64 ((Dm wss n:Nat):Int),slice none 0 0]).toArray=Z:=⟨_,rfl⟩;have bF:Hid (ZP.built 162 [(0,.agg ZT),(1,.agg #[bool fold,slice av y cv]),(2,int i64 (Au wss)),(3,int i64 ((Dm wss n:Nat):Int))]=some ZM):=by rw[Hid,<-aD,<-ey.out];exact aad bd fold av y cv _ _ eA.out
 have fe:=AA aD;clear aD;refine Oo D 12 (λv _=>v=int i64 (Au wss)) ?_ ?_
 ·rintro f (rfl|⟨vk,rfl⟩) V I-K J<;>(try simp only[pq]at J⊢)<;>go_simp<;>(go_at_call 91;refine(eI.out _ (ag.out.trans (I.mono ag.out.size))).mono ?_;rintro e fQ ⟨rfl,a6⟩;exact J _ _ (I.trans (a6.mono I.size)) rfl a6)
 rintro _ fD hHeld hb rfl
 replace a1:=a1.below hb
 clear hb
 try simp only[pq]
 refine Oo D 14 (λv _=>v=int i64 ((Dm wss n:Nat):Int)) ?_ ?_
 ·rintro f (rfl|⟨vk,rfl⟩) V I-K J<;>(try simp only[pq]at J⊢)<;>go_simp<;>(go_at_call 92;refine(df.out _ _ (bf.out.below I) ea).mono ?_;rintro e fP ⟨rfl,bM⟩;exact J _ _ (I.trans (bM.mono I.size)) rfl bM)
 rintro _ fC hHeld hb rfl
 replace a1:=a1.below hb
 clear hb
 try simp only[pq]
 refine apH D 15 (v:=.agg ZM) ?_ ?_
 ·rintro f (rfl|⟨vk,rfl⟩)<;>(try simp only[pq])<;>exact Iz (by rfl) _ _ rfl ZM (by go_simp;exact bF.out)
 try simp only[pq]
 refine Oo D 16 (λv V=>∃p,v=pointer (some ⟨p,0,none⟩)/\V.heap[p]?=some (.cells ZM 162 (0,0))/\C.heap.size<=p) ?_ ?_
 ·rintro f (rfl|⟨vk,rfl⟩) V I-K J<;>(try simp only[pq]at J⊢)<;>go_simp<;>exact J _ _ (I.alloc I.size _) ⟨_,rfl,heap_alloc_new _ _,I.size⟩ (AL _ _)
 rintro _ fB hHeld hb ⟨pM,rfl,bh,bC⟩
 replace a1:=a1.below hb
 clear hb
 try simp only[pq]
 refine apI D ?_;rintro _ fA hHeld hb ⟨pP,rfl,bP,ei⟩
 replace a1:=a1.below hb
 replace bh:=(hb.block _ (AD.1 bh).1).trans bh
 have aZ:pM≠pP:=by rintro rfl;cases bh.symm.trans bP
 try simp only[pq]
 refine rdy 18 (λK J=>?_);have q0:=bP.cell;have q1:=bP.frozen;have q2:=bP.lt;go_simp;refine J.out _ _ (hHeld.setCell ei _) (λN=>?_)
 try simp only[pq]
 refine Vj kr ?_ _;refine At ?_;exact⟨_,_,cv,av,ZM,_,_,_,_,_,_,_,_,_,_,_,_,_,_,_,_,_,_,_,_,_,_,_,_,_,_,_,_,_,_,_,_,_,_,_,_,_,_,_,_,rfl,bP.set _,(AQ _ _ _ _ aZ).trans bh,fe.out,a1.turned (BH _ _ 0 _) bP (Vc kr) (Vc kr),N,ei,bC,aQ,aZ⟩
end
def ownW(ws:Lq)(b:List Int):List Int:=if b∈ws then [CW ws b] else []
def DF(ws:Lq):List Int->List Int
 |[]=>[]
 |c::b=>ownW ws (c::b)++DF ws b
section
variable {ws:Lq}
theorem LU(h0:[] ∉ ws):∀b,DF ws (lsf (AB ws) b)=DF ws b
 |[]=>by have:=Gb (AB ws) [];rw[List.suffix_nil.1 this]
 |c::b=>by
  by_cases h:(c::b)∈AB ws
  ·rw[Lu h]
  ·have Y:(c::b) ∉ ws:=λX=>by
    obtain⟨w,Z⟩:=DR X;obtain⟨j,_,V,_⟩:=adL Z sm;exact h (AX V)
   have e:lsf (AB ws) (c::b)=lsf (AB ws) b:=al2 (b:=c::b) (k:=0) sm h;rw[e,LU h0 b]
   conv=>rhs;unfold DF ownW
   rw[Va Y,Av]
theorem ajb(h0:∀x∈ws,x.length≠0){z:Nat}{x:List Int}(Z:(AB ws)[z]?=some x):∃v:Int,(AG ws).wrd[z]?=some v/\ownW ws x=if 0<=v then [v] else []:=by
 refine⟨CW ws x,alj Z,?_⟩;unfold ownW
 by_cases h:x∈ws
 ·rw[Vb h,Vb];unfold CW;rw[Vb h];omega
 ·rw[Va h,abt h,Va (by decide)]
theorem OU(h0:∀x∈ws,x.length≠0):∀{z:Nat}{x:List Int},(AB ws)[z]?=some x->CA ws z=DF ws x:=by
 intro z;have N:[] ∉ ws:=λB=>h0 [] B rfl
 induction z using Nat.strongRecOn with
 |_ z ih=>
  intro x Y;have I:=(AP.1 Y).1
  by_cases X:z=0
  ·subst X;rw[CM]at Y;have:=AK Y;subst this;exact afO ws
  ·have U:x≠[]:=λe=>X ((EM Y).2 e);obtain⟨v,D,ho⟩:=ajb h0 Y;rw[acI om I D,<-ho];obtain⟨k,h1,_,h3,h4⟩:=Nh Y;have V:=h3 om;obtain⟨u,H,C⟩:=ajb h0 h4;have hk:CA ws (nx ws z)=DF ws (EC (AB ws) x):=by
    rw[ajZ om I h1 H]
    by_cases Z:0<=u
    ·rw[Vb Z];exact ih k V h4
    ·rw[Va Z];have e:=ih k V h4
     by_cases J:k=0
     ·subst J;rw[Lk];exact e
     ·rw[acI om om H,Va Z,Av]at e;exact e
   rw[hk]
   cases x with
   |nil=>exact absurd rfl U
   |cons c b=>
    rw[show EC (AB ws) (c::b)=lsf (AB ws) b from rfl,LU N b]
    rfl
end
theorem Od(ws:Lq)(c:Int)(t:List Int):DF ws (c::t)=(if(c::t)∈ws then [CW ws (c::t)] else [])++DF ws t:=rfl
end Go.Proofs.YtaamacoicojhnaaGreat
