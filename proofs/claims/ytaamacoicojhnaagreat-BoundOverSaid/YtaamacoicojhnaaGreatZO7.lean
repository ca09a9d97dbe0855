/- Proofs over the given program, part 7. -/
import Derived.Test.YtaamacoicojhnaaGreatZO6
set_option linter.unusedVariables false
set_option linter.unusedSimpArgs false
set_option maxRecDepth 100000
set_option maxHeartbeats 16000000
open Go.Proofs.Tryz
open Go.Proofs.Tryz renaming prog→ZP
open Go.World(cell? frozen?)
open Go.Value(int slice pointer bool)
open Go.IntKind(i64)
namespace Go.Proofs.YtaamacoicojhnaaGreat
open Go.RowKit Go.Sort
section
open Go.RowKit Go.Sort Go.Maps Go.WideAt Go.WideMaps
theorem alU:laidOutB ZP=true:=by kernel_rfl
theorem Np:Keyed ZP 313:=Keyed.of_law (deep_law_laid alU (m:=ZP.types.size+1) (Vc kr) (Vc kr) kr kr)
theorem apr(n c:Int)(J:-9223372036854775808<=n/\n<=9223372036854775807)(I:0<=c/\c<=255):∃X,keyOf ZP 313 (.agg #[int i64 n,.int .u8 c])=some X:=by
 have hk:ZP.keyType 313=true:=by kernel_rfl
 have h0:0<ZP.types.size:=Vc kr;obtain⟨m,V⟩:∃m,ZP.types.size+1=m+1+1:=⟨ZP.types.size-1,by omega⟩;have N:ZP.cellsOf 313=2:=by kernel_rfl
 have e2:ZP.cellsOf 3=1:=by kernel_rfl
 have U:ZP.cellsOf 5=1:=by kernel_rfl
 have Y:(Lit.int .i64 n).wf=true:=by simp[Lit.wf,IntKind.min,IntKind.max,IntKind.signed,IntKind.bits];omega
 have Z:(Lit.int .u8 c).wf=true:=by simp[Lit.wf,IntKind.min,IntKind.max,IntKind.signed,IntKind.bits];omega
 unfold keyOf;rw[underlying313,V];refine⟨.string (keyBytes [.int .i64 n,.int .u8 c]),?_⟩;simp[hk,Value.formed,Value.cells,Program.keyLits,underlying313,underlying3,underlying5,N,e2,U,Y,Z]
def FK(D:DataW Unit)(f:Int×Int->Option Int):Prop:=IsMap D/\∀n c Z,keyOf ZP 313 (.agg #[int i64 n,.int .u8 c])=some Z->
 Maps.has D Z=(f (n,c)).isSome/\D.atKey Z (.lit (.int .i64 0))=.lit (.int .i64 ((f (n,c)).getD 0))
theorem FK.start:FK (.map []) (λ_=>none):=⟨isMap_empty,λn c Z _=>⟨rfl,rfl⟩⟩
theorem FK.put{D:DataW Unit}{f:Int×Int->Option Int}(h:FK D f){n c m:Int}{V:Lit}(hk:keyOf ZP 313 (.agg #[.int .i64 n,.int .u8 c])=some V) :FK (D.put V (.lit (.int .i64 m))) (λq=>if q=(n,c) then some m else f q):=by
 have X:=Np.key hk;refine⟨h.1.put _ _,λN J Y Z=>?_⟩
 by_cases e:Y=V
 ·subst e;have:=Np.inj Z hk;simp only[Value.agg.injEq,Array.mk.injEq,MY,Value.int.injEq,true_and,and_true]at this;obtain⟨rfl,rfl⟩:=this;refine⟨by rw[has_put_same h.1 X];simp,?_⟩;rw[atKey_put_same h.1 X];simp
 ·have U:¬((N,J)=(n,c)):=by
   intro e2;simp only[Jk]at e2;obtain⟨rfl,rfl⟩:=e2;rw[hk]at Z;exact e (AK Z).symm
  simp only[Va U];obtain⟨h1,h2⟩:=h.2 N J Y Z;exact⟨by rw[has_put_other e,h1],by rw[atKey_put_other e,h2]⟩
def FM(W:World)(b n:Nat)(f:Int×Int->Option Int):Prop:=∃D:DataW Unit,W.ownsMap ZP 313 (plainElem ZP 3) b n D/\FK D f
theorem FM.start(w:World):FM (w.alloc (.map #[] 0)) w.heap.size 0 (λ_=>none):=⟨_,MQ w ZP 313 (plainElem ZP 3),FK.start⟩
theorem FM.lt{W:World}{b n:Nat}{f:Int×Int->Option Int}(h:FM W b n f):b<W.heap.size:=by obtain⟨D,h1,_⟩:=h;exact h1.lt
theorem FM.kept{W Y:World}{b n:Nat}{f:Int×Int->Option Int}{row:Option Nat}(h:FM W b n f)(X:W.grownBy Y row)(Z:row≠some b):FM Y b n f:=by obtain⟨D,h1,h2⟩:=h;exact⟨D,h1.kept X (λe=>Z e.symm),h2⟩
theorem FM.below{W Z:World}{b n:Nat}{f:Int×Int->Option Int}(h:FM W b n f)(Y:Br W Z):FM Z b n f:=h.kept (Km Y) sm
theorem FM.alloc{W:World}{b n:Nat}{f:Int×Int->Option Int}(h:FM W b n f)(o:Obj):FM (W.alloc o) b n f:=h.below (AL W o)
theorem FM.set{w:World}{b n m i:Nat}{f:Int×Int->Option Int}(h:FM w b n f)(Z:m≠b)(u:Value):FM (w.setCell ⟨m,i,none⟩ u) b n f:=h.kept (BH w m i u) (by intro e;injection e with e;exact Z e)
theorem ajR(w:World):(zeroValue 3).run ZP w=.ok (int i64 0) w:=by kernel_rfl
theorem FM.look{W:World}{b n:Nat}{f:Int×Int->Option Int}(h:FM W b n f){z c:Int}(V:-9223372036854775808<=z/\z<=9223372036854775807)(J:0<=c/\c<=255) :Sem.run ZP (Instr.lookup 275 (.map (some b)) (.agg #[int i64 z,.int .u8 c]) true) W=.ok (.tuple #[int i64 ((f (z,c)).getD 0),bool (f (z,c)).isSome]) W:=by
 obtain⟨D,h1,h2,h3⟩:=h;obtain⟨X,Y⟩:=apr z c V J;obtain⟨h4,h5⟩:=h3 z c X Y;obtain⟨v,I,Z,U⟩:=h1.look_ok Np underlying275 (ajR W) (zd:=.lit (.int .i64 0)) (zp:=[]) (plainElem_int underlying3 (by decide)) Y;obtain⟨q,rfl,N,_⟩:=plainElem_int_inv underlying3 U;have h6:D.atKey X (.lit (.int .i64 0))=.lit (.int .i64 q):=congrArg Prod.fst N;rw[h5]at h6;have h7:(f (z,c)).getD 0=q:=by simpa using h6
 rw[Z,h4,h7]
section
variable {w:World}{ops:Array Oper}{rest:List Oper}{o:Oper}{a:Act}{Q:Exit->Act->World->Prop}{b n:Nat}{f:Int×Int->Option Int}
theorem adb(A:o.guard=none)(m x y:Operand)(X:o.op=Op.mapUpdate 275 m x y)(B:a.eval m=.map (some b))(Z:FM w b n f)(C:n<maxLen)(z c:Int)(v:Int)(H:(Lit.int .i64 v).wf=true)(U:-9223372036854775808<=z/\z<=9223372036854775807)(s:0<=c/\c<=255)(J:a.eval x=.agg #[.int .i64 z,.int .u8 c])(N:a.eval y=.int .i64 v)
  (j:∀w',FM w' b (n+1) (λq=>if q=(z,c) then some v else f q)->w.grownBy w' (some b)->wpList ZP ops Q rest (a.put o.dst undef) w'):wpList ZP ops Q (o::rest) a w:=by
 obtain⟨D,h1,h2⟩:=Z;obtain⟨e,Y⟩:=apr z c U s;refine wpList_mapUpdate_own _ A m x y 275 X 313 3 Np underlying275 _ b n D B h1 C _ _ _ J N Y _ [] (plainElem_int underlying3 H) ?_;intro w' I V;exact j w' ⟨_,I,h2.put Y⟩ V
end
end
section
attribute[local go_sem] Oper.semAt_some
attribute[local simp] Ak Al
attribute[local go_sem] Ak Al
abbrev ChP:={z:Nat // z<=1000000}
def anp(z:ChP):Array Value:=#[int i64 (z.1:Int)]
theorem aiY(L:List Int):∀(f z:Nat),(chN L f z).length<=f+1/\1<=(chN L f z).length
 |0,z=>by simp[chN]
 |f+1,z=>by
  unfold chN
  split
  ·simp
  ·have:=aiY L f ((L[z]?).getD 0).toNat;simp;omega
theorem amH(L:List Int)(f z:Nat):chN L (f+1) z=if z=0 then [z] else z::chN L f ((L[z]?).getD 0).toNat:=rfl
theorem amf(L:List Int)(f:Nat):chN L f 0=[0]:=by cases f<;>simp[chN]
theorem amb(L:List Int)(f z:Nat):∃r,chN L f z=z::r:=by
 cases f with
 |zero=>exact⟨[],rfl⟩
 |succ f=>
  unfold chN
  split
  ·exact⟨[],rfl⟩
  ·exact⟨_,rfl⟩
theorem aie(g:Nat)(node:Int)(w:World) :Calls ZP 253 #[.pointer (some ⟨g,0,none⟩),.int .i64 node] w λe w'=>e=.returned (.func (.func 279) #[] #[.pointer (some ⟨w.heap.size+1,0,none⟩),.pointer (some ⟨w.heap.size,0,none⟩)])/\
   w'=(w.alloc (.cells #[pointer (some ⟨g,0,none⟩)] 272)).alloc (.cells #[int i64 node] 3):=by
 go_enter func253,ntmps253;go_wp2;go_ret;exact⟨rfl,rfl⟩
def Ic(p:Nat)(w:World):Nat:=match w.cell? ⟨p,0,none⟩with|some v=>(intOf v).toNat|none=>0
theorem Lm{w:World}{p z:Nat}{t:TypeId}(h:Boxed w p t (int i64 (z:Int))):Ic p w=z:=by unfold Ic;rw[h.cell];simp[intOf]
theorem afc(g p1 p2 q n:Nat)(L:List Int)(node:Nat)(cs:Array Value)(S:Nat->Prop)(m:Nat)(w:World)
  (hg:w.heap[g]?=some (.cells cs 277 (0,0))) (s:cs[5]?=some (slice (some ⟨q,0,none⟩) n n)) (hq:AU q L w) (hL:L.length=n) (hn:n<=1000000)
  (h1:Boxed w p1 272 (pointer (some ⟨g,0,none⟩))) (h2:Boxed w p2 3 (int i64 (node:Int)))
  (hS:S g/\S q/\S p1/\S p2) (D:∀k,S k->k<w.heap.size) (hp:p2≠g/\p2≠q/\p2≠p1)
  (a2:node<n) (A:∀j,1<=j->j<=node->∃k:Nat,L[j]?=some (k:Int)/\k<j) :
  abI Fence.wide m ZP 279 #[pointer (some ⟨p2,0,none⟩),pointer (some ⟨p1,0,none⟩)] anp (Cc S) (λr=>r=p2) (λzs=>zs.map Subtype.val=chN L node node) (λZ=>∃r,chN L node node=Z.map Subtype.val++r) (node+2) w:=by
 intro l J Jx W hW hJ ap hY h0;obtain⟨s1,s2,s3,s4⟩:=hS;obtain⟨p3,p4,p5⟩:=hp;have cells:∀v:World,(∀k,S k->k≠p2->v.heap[k]?=w.heap[k]?)->v.cell? ⟨p1,0,none⟩=some (pointer (some ⟨g,0,none⟩))/\v.cell? ⟨g,5,none⟩=some (slice (some ⟨q,0,none⟩) n n)/\∀(j:Nat)(x:Int),L[j]?=some x->v.cell? ⟨q,j,none⟩=some (int i64 x):=by intro v hv;have e1:v.heap[p1]?=some (.cells #[pointer (some ⟨g,0,none⟩)] 272 (0,0)):=(hv p1 s3 (Ne.symm p5)).trans h1;have e2:v.heap[g]?=_:=(hv g s1 (Ne.symm p3)).trans hg;have e3:v.heap[q]?=some (.cells (L.map (int i64)).toArray 3 (0,0)):=(hv q s2 (Ne.symm p4)).trans hq;refine⟨by simp[cell?,e1],by simp[cell?,e2,s],λj x hx=>?_⟩;rw[cell_of_row v q j _ _ _ e3];simp[hx]
 have HC:=AA cells;have a7:∀k,S k->k≠p2->W.heap[k]?=w.heap[k]?:=λk hk _=>hW.block k (D k hk);have a8:Boxed W p2 3 (int i64 (node:Int)):=(hW.block p2 h2.lt).trans h2;have aj:=AA A;have af:=AA s4;have aq:=AA D;clear hg s hq h1 h2 cells A D;refine callsIn_of_wp func279 rfl trivial ?_ rfl;simp only[ntmps279,Cw,Ao,Bw,Nat.reduceAdd,Nat.reduceSub,Dd,Dc,DX,Da,Av,CT]
 gi_wp2
 gi_loopw[4] (λs4 wr=>∃(z f:Nat)(Z:List ChP),z<=f/\z<=node/\Hid (chN L node node=Z.map Subtype.val++chN L f z)/\Boxed wr p2 3 (int i64 (z:Int))/\J Z wr/\Hid (∀k,S k->k≠p2->wr.heap[k]?=w.heap[k]?)) (λ_ wr=>Ic p2 wr)
 case atStart=>exact⟨node,node,[],AC _,AC _,rfl,a8,h0,a7⟩
 case round=>
  obtain⟨z,f,Z,am,a1,HP,V,hj,HK⟩:=hrel;have cz:=V.cell;have ai:=AA (Lm V);have y:Z.length<node+2:=by have h1:=congrArg List.length HP.out;rw[List.length_append,BP]at h1;have h2:=aiY L node node;omega
  obtain⟨fn,tmps,assign,body,H,C⟩:=hY Z ⟨z,by omega⟩ wr hj y;dsimp only[anp]at H
  gi_wp2
  refine C.mono ?_;rintro e N (⟨rfl,hJ4,hk4⟩|⟨rfl,hJx4⟩)
  ·have X:Boxed N p2 3 (int i64 (z:Int)):=(hk4 p2 af.out).trans V;have B:Hid (∀k,S k->k≠p2->N.heap[k]?=w.heap[k]?):=λk h1 h2=>(hk4 k h1).trans (HK.out k h1 h2);have ae:=X.cell
   by_cases hz:z=0
   ·subst hz;have HF:Hid (chN L node node=(Z++[(⟨0,by omega⟩:ChP)]).map Subtype.val):=by have:=HP.out;rw[amf]at this;rw[Hid,this];simp
    clear cz V C H
    gi_wp2
    go_end0
    exact⟨⟨_,rfl⟩,.inl ⟨_,HF.out.symm,hJ4⟩⟩
   ·obtain⟨k,hk,a6⟩:=aj.out z om a1;obtain⟨f,rfl⟩:∃f',f=f'+1:=⟨f-1,by omega⟩;have I:z<=1000000:=by omega
    have HF:Hid (chN L node node=(Z++[(⟨z,I⟩:ChP)]).map Subtype.val++chN L f k):=by have:=HP.out;rw[amH,Va hz,hk,CG,Aa]at this;rw[Hid,this];simp
    obtain⟨c1,c2,c3⟩:=HC.out N B.out;have c4:=c3 z k hk;have ao:((z:Int) != 0)=true:=by simp;omega
    have i1:(0:Int)<=(z:Int):=by omega
    have i2:(z:Int)<(n:Int):=by omega
    have al:=X.lt;have ac:=X.frozen;clear cz V C H c3 hk
    gi_wp2
    refine Ld (FL _ _) 7 mixed kr kr ?_;dsimp only[List.take_succ_cons,List.take_zero,List.drop_succ_cons,List.drop_zero]
    repeat (go_big_quiet_step (fail))
    refine wpQuiet_nil ?_;rintro _ ⟨nq,rfl⟩;have aa:Br N (N.drewN nq):=⟨rfl,rfl,rfl,AC _,λ_ _=>rfl⟩;have o:=al1 hJ hJ4 aa;have ab:=adx hJ o (p:=p2) rfl 0 (int i64 (k:Int));have Y:Boxed (N.drewN nq) p2 3 (int i64 (z:Int)):=X;have U:=Y.set (int i64 (k:Int));have ag:=AA (Lm U);have ak:Hid (∀j,S j->j≠p2->((N.drewN nq).setCell ⟨p2,0,none⟩ (int i64 (k:Int))).heap[j]?=w.heap[j]?):=λj h1 h2=>(AQ _ _ _ _ (by show j≠p2;exact h2)).trans (B.out j h1 h2);have d1:=Y.cell;have d2:=Y.frozen;have d3:=Y.lt;clear c1 c2 c4 ae ac B o hJ4
    gi_wp2
    go_roundw
    case rel=>exact⟨k,f,_,by omega,by omega,HF,U,ab,ak⟩
    case measure=>rw[ai.out,ag.out];exact a6
  ·have I:z<=1000000:=by omega
   have HF:Hid (∃r,chN L node node=(Z++[(⟨z,I⟩:ChP)]).map Subtype.val++r):=by obtain⟨r,hr⟩:=amb L f z;exact⟨r,by rw[HP.out,hr];simp⟩
   gi_wp2
   go_end0
   exact⟨⟨_,rfl⟩,.inr ⟨_,HF.out,hJx4⟩⟩
end
section
attribute[local go_sem] Oper.semAt_some
attribute[local simp] Ak Al
attribute[local go_sem] Ak Al
theorem aaH{fn:Func}{p:Tmp}{tmps:Array Value}{W:World}{B:Nat}(h:fn.results=#[.cell p 3])(Y:tmps.getD p undef=pointer (some ⟨B,0,none⟩)){v:Int}(hB:Boxed W B 3 (int i64 v)) :(results fn tmps).run ZP W=.ok (int i64 v) W:=by
 have Z:tmps[p]?.getD undef=pointer (some ⟨B,0,none⟩):=by simpa using Y
 have X:=hB.cell;simp[results,h,Z,asAddr,X,go_sem,loadVar]
abbrev Ex(ws:Lq):Int×Int->Option Int:=Dp (AG ws).up (AG ws).byt ((AB ws).length-1)
theorem akb(g mb q n nm i z:Nat)(ws:Lq)(L:List Int)(cs:Array Value)(x:List Int)(c:Int)(w:World)
  (hg:w.heap[g]?=some (.cells cs 277 (0,0))) (af:cs[4]?=some (.map (some mb))) (ao:cs[5]?=some (slice (some ⟨q,0,none⟩) n n)) (hm:FM w mb nm (Ex ws)) (hq:AU q L w) (hL:L.length=n) (hN:(AB ws).length=n) (hn:n<=1000000)
  (a6:IK ws L i) (hi:i<=n) (hz:z<i) (hx:(AB ws)[z]?=some x) (hc:0<=c/\c<=255) :
  Calls ZP 216 #[pointer (some ⟨g,0,none⟩),int i64 (z:Int),.int .u8 c] w λe w'=>e=.returned (int i64 (CW (AB ws) (lsf (AB ws) (x++[c]))))/\Br w w':=by
 obtain⟨J,hW⟩:∃W,W=((w.alloc (.cells #[pointer (some ⟨g,0,none⟩)] 272)).alloc (.cells #[.int .u8 c] 5)).alloc (.cells #[int i64 0] 3):=⟨_,rfl⟩;have hB:Br w J:=by rw[hW];exact((AL _ _).alloc (by simp only[DN];omega) _).alloc (by simp only[DN];omega) _
 have hO:Bx w.heap.size [.cells #[pointer (some ⟨g,0,none⟩)] 272,.cells #[.int .u8 c] 5,.cells #[int i64 0] 3] J:=by rw[hW];exact(((Bx.nil _ w).snoc _ rfl).snoc _ sm).snoc _ sm
 have ai:J.heap.size=w.heap.size+1+1+1:=by rw[hW];simp
 have bG:Boxed J w.heap.size 272 (pointer (some ⟨g,0,none⟩)):=hO 0 _ rfl;have bC:Boxed J (w.heap.size+1) 5 (.int .u8 c):=hO 1 _ rfl;have bR:Boxed J (w.heap.size+1+1) 3 (int i64 0):=hO 2 _ rfl;have c0:=bG.cell;clear hO;refine Hc func216 rfl ?_;simp only[ntmps216,Cw,Ao,Bw,Nat.reduceAdd,Nat.reduceSub,Dd,Dc,DX,Da,Av,CT];go_upto_region 1 with fail
 rw[<-hW];clear hW
 go_wp2_with (go_at_call 253;refine(aie g z J).mono ?_;rintro e w' ⟨rfl,rfl⟩)
 obtain⟨N,o⟩:∃W,W=(J.alloc (.cells #[pointer (some ⟨g,0,none⟩)] 272)).alloc (.cells #[int i64 (z:Int)] 3):=⟨_,rfl⟩;have V:Br J N:=by rw[o];exact(AL _ _).alloc sm _
 have h1:Boxed N J.heap.size 272 (pointer (some ⟨g,0,none⟩)):=by rw[o];exact(Boxed.new J 272 _).alloc _
 have h2:Boxed N (J.heap.size+1) 3 (int i64 (z:Int)):=by
  rw[o];have:=Boxed.new (J.alloc (.cells #[pointer (some ⟨g,0,none⟩)] 272)) 3 (int i64 (z:Int))
  rwa[DN]at this
 rw[<-o];clear o c0;have a8:Br w N:=hB.trans (V.mono hB.size);have aw:Boxed N w.heap.size 272 (pointer (some ⟨g,0,none⟩)):=(V.block _ bG.lt).trans bG;have ax:Boxed N (w.heap.size+1) 5 (.int .u8 c):=(V.block _ bC.lt).trans bC;have au:Boxed N (w.heap.size+1+1) 3 (int i64 0):=(V.block _ bR.lt).trans bR;have ac:g<w.heap.size:=(AD.1 hg).1;have aj:q<w.heap.size:=(AD.1 (show w.heap[q]?=_ from hq)).1;have ay:=hm.lt;have ae:N.heap[g]?=_:=(a8.block g ac).trans hg;have aa:AU q L N:=(a8.block q aj).trans hq;have ab:∀j,1<=j->j<=z->∃k:Nat,L[j]?=some (k:Int)/\k<j:=λj h1 h2=>by obtain⟨y,hy⟩:∃y,(AB ws)[j]?=some y:=⟨(AB ws)[j]'om,by simp⟩;obtain⟨k,e1,e2,_⟩:=a6.at_ om hy om;exact⟨k,e1,e2⟩
 have ag:=h2.lt;rw[ai]at h1 h2 ag;have ak:=afc g (w.heap.size+1+1+1) (w.heap.size+1+1+1+1) q n L z cs (λk=>k<N.heap.size) 8 N ae ao aa hL hn h1 h2 ⟨by omega,by omega,by omega,by omega⟩ (λk hk=>hk) ⟨by omega,by omega,by omega⟩ om ab;clear bG bC bR hB V ab ae aa
 apply amM rfl (enters_of func279 kr rfl) ak (λr hr=>by rw [hr];exact h2.lt) GD (JR λ_ h=>h) (λ_=>rfl) (hKr:=λ_ _ _=>rfl)
  (λU W=>Boxed W w.heap.size 272 (pointer (some ⟨g,0,none⟩))/\Boxed W (w.heap.size+1) 5 (.int .u8 c)/\Boxed W (w.heap.size+1+1) 3 (int i64 0)/\Br w W/\N.heap.size<=W.heap.size/\∀y∈U.map Subtype.val,Ex ws ((y:Int),c)=none)
  (λc' U W=>∃k:Int,Boxed W (w.heap.size+1+1) 3 (int i64 k)/\Br w W/\(c'=.ret/\∃(p:List Nat)(y:Nat),U.map Subtype.val=p++[y]/\(∀y∈p,Ex ws ((y:Int),c)=none)/\Ex ws ((y:Int),c)=some k))
 case hI=>exact BL.and (BL.box _ _ _ _ _ (by show ¬(_=_);omega)) (BL.and (BL.box _ _ _ _ _ (by show ¬(_=_);omega)) (BL.and (BL.box _ _ _ _ _ (by show ¬(_=_);omega)) (BL.and (BL.below om (AC _) (λr hr=>by rw[hr];omega)) (BL.and (BL.size _ _ _) (BL.pure _ _ _)))))
 case hIx=>
  intro c' s A C row ⟨k,hs⟩ hg hr;have h:BL N.heap.size (λr=>r=w.heap.size+1+1+1+1) (λ(s:List ChP)(W:World)=>Boxed W (w.heap.size+1+1) 3 (int i64 k)/\Br w W/\(c'=.ret/\∃(p:List Nat)(y:Nat),s.map Subtype.val=p++[y]/\(∀y∈p,Ex ws ((y:Int),c)=none)/\Ex ws ((y:Int),c)=some k)):=
   BL.and (BL.box _ _ _ _ _ (by show ¬(_=_);omega)) (BL.and (BL.below om (AC _) (λr hr=>by rw[hr];omega)) (BL.pure _ _ _))
  exact⟨k,h s A C row hs hg hr⟩
 case h0=>exact⟨aw,ax,au,a8,AC _,by simp⟩
 case hassign=>
  intro l x W K hK;unfold anp
  gi_wp2
  exact hK
 case hbody=>
  rintro l U ⟨y,hy⟩ W ⟨hG,hC,I,X,hs,Y⟩ az;have q0:=I.cell;have q1:=I.frozen;have aA:∀d os,(grow (redrawn W d) os).cell? ⟨g,4,none⟩=some (.map (some mb)):=λd os=>by have:(grow (redrawn W d) os).heap[g]?=some (.cells cs 277 (0,0)):=((Vf W d os).block g (by have:=X.size;omega)).trans ((X.block g ac).trans hg);simp[cell?,this,af]
  have aB:∀d os,(grow (redrawn W d) os).cell? ⟨w.heap.size,0,none⟩=some (pointer (some ⟨g,0,none⟩)):=λd os=>((Vf W d os).cell (p:=⟨w.heap.size,0,none⟩) hG.lt).trans hG.cell;have aC:∀d os,(grow (redrawn W d) os).cell? ⟨w.heap.size+1,0,none⟩=some (.int .u8 c):=λd os=>((Vf W d os).cell (p:=⟨w.heap.size+1,0,none⟩) hC.lt).trans hC.cell;obtain⟨O,hO⟩:∃O,Ex ws ((y:Int),c)=O:=⟨_,rfl⟩;have am:∀d os,Sem.run ZP (Instr.lookup 275 (.map (some mb)) (.agg #[int i64 (y:Int),.int .u8 c]) true) (grow (redrawn W d) os)=.ok (.tuple #[int i64 (O.getD 0),bool O.isSome]) (grow (redrawn W d) os):=λd os=>by
   have:=((hm.below X).below (Vf W d os)).look (z:=(y:Int)) (c:=c) om hc
   rwa[hO]at this
  have a2:=AA Y;have HO:=AA hO;clear Y hO
  cases O with
  |none=>
   have HF:Hid (∀v∈(U++[(⟨y,hy⟩:ChP)]).map Subtype.val,Ex ws ((v:Int),c)=none):=λv hv=>by
    rw[Aj,Bf]at hv
    rcases hv with hv|hv
    ·exact a2.out v hv
    ·simp at hv;rw[hv];exact HO.out
   dsimp only
   gi_wp2
   refine Le (OV _ _ _) mixed kr kr ?_
   repeat (go_big_quiet_step (fail))
   refine wpQuiet_nil ?_;rintro _ ⟨⟨dq,H⟩,rfl⟩;have Z:=Vf W dq H
   gi_wp2
   exact⟨Nj Z,Ke Z (λk hk=>by omega),(Z.block _ hG.lt).trans hG,(Z.block _ hC.lt).trans hC,(Z.block _ I.lt).trans I,X.trans (Z.mono X.size),AS hs Z.size,HF.out⟩
  |some v=>
   have HF:Hid (∃(p:List Nat)(t:Nat),(U++[(⟨y,hy⟩:ChP)]).map Subtype.val=p++[t]/\(∀y∈p,Ex ws ((y:Int),c)=none)/\Ex ws ((t:Int),c)=some v):=⟨_,y,by simp,a2.out,HO.out⟩;dsimp only
   gi_wp2
   refine Le (OV _ _ _) mixed kr kr ?_
   repeat (go_big_quiet_step (fail))
   refine wpQuiet_nil ?_;rintro _ ⟨⟨dq,H⟩,rfl⟩;have Z:=Vf W dq H;have a1:Boxed (grow (redrawn W dq) H) (w.heap.size+1+1) 3 (int i64 0):=(Z.block _ I.lt).trans I;have d1:=a1.cell;have d2:=a1.frozen;have d3:=a1.lt;have aq:=X.trans (Z.mono X.size);have kO:=(Nj (B:=N.heap.size) Z).trans ((Jp (grow (redrawn W dq) H) ⟨w.heap.size+1+1,0,none⟩ (int i64 v)).from N.heap.size);have ar:=a1.set (int i64 v)
   gi_wp2
   exact⟨kO,v,ar,aq.setCell (by show w.heap.size<=w.heap.size+1+1;omega) _,rfl,HF.out⟩
 case hdone=>
  rintro D zs W hD hS ⟨hG,hC,I,X,hs,Y⟩ a7;rw[hS]at Y;have HZ:=AA (ajN a6 hz (AC _) hx Y);have q1:=I.cell;have q2:=I.frozen;go_wp2;have av:Boxed ((W.setCell ⟨w.heap.size+1+1,0,none⟩ (int i64 0)).putObj D (.deferred none)) (w.heap.size+1+1) 3 (int i64 0):=(Cm om).trans (I.set _);have ap:(W.setCell ⟨w.heap.size+1+1,0,none⟩ (int i64 0)).heap[D]?=some (.deferred (some [])):=(AQ _ _ _ _ (by simp;omega)).trans a7;refine Gg rfl ap (aaH rfl rfl av) ⟨by rw[<-HZ.out],FZ (X.setCell (by simp;omega) _) om (AC _) _⟩
 case hstop=>
  rintro D c' U W hD ⟨r,hS⟩ ⟨k,I,X,rfl,p,y,al,Y,hk⟩ a7;rw[al]at hS;have HZ:=AA (aiZ a6 hz (AC _) hx hS Y hk);go_wp2;have bT:Boxed (W.putObj D (.deferred none)) (w.heap.size+1+1) 3 (int i64 k):=(Cm om).trans I;refine Gg rfl a7 (aaH rfl rfl bT) ⟨by rw[<-HZ.out],FZ X om (AC _) _⟩
end
abbrev anu(t:TV)(Z q n:Nat):Array Value:=#[slice t.ua t.un t.uc,slice t.da t.dn t.dc,slice t.xa t.xn t.xc,slice t.ba t.bn t.bc,.map (some Z),slice (some ⟨q,0,none⟩) n n]
structure apx(W:World)(base g:Nat)(t:TV)(ws:Lq)(L:List Int)(E:Int×Int->Option Int):Prop where
 ex:∃mb q nm:Nat,W.heap[g]?=some (.cells (anu t mb q (AB ws).length) 277 (0,0))/\FM W mb nm E/\AU q L W/\L.length=(AB ws).length/\base<=g/\base<=mb/\base<=q/\g≠mb/\g≠q/\mb≠q/\nm<=1000000
def Cq(ws:Lq)(n j:Nat):List Int:=(Bo ws).take j++List.replicate (n-j) 0
theorem JO(ws:Lq):(Bo ws).length=(AB ws).length:=by simp[Bo]
theorem alf{ws:Lq}{n j:Nat}(Z:(AB ws).length=n)(Y:j<=n):(Cq ws n j).length=n:=by unfold Cq;rw[List.length_append,Ag,CS,JO];omega
theorem ajl{ws:Lq}{n j i:Nat}(Z:i<j)(X:j<=n)(Y:(AB ws).length=n):(Cq ws n j)[i]?=(Bo ws)[i]?:=by unfold Cq;rw[By (by rw[Ag,JO];omega),FT,Vb Z]
theorem an2{ws:Lq}{n j:Nat}(X:j<=n)(Y:(AB ws).length=n):IK ws (Cq ws n j) j:=λi x V Z=>by rw[ajl V X Y];exact JP Z
theorem aif{ws:Lq}{n:Nat}(X:(AB ws).length=n)(h1:1<=n):Cq ws n 1=List.replicate n 0:=by obtain⟨m,rfl⟩:∃m,n=m+1:=⟨n-1,by omega⟩;have h0:=JP (CM ws);have Z:Gc ws []=0:=CV (CL ws).nodup (CM ws);rw[Z]at h0;have Y:=As h0;unfold Cq;rw[Y,Ip];simp
theorem agy{ws:Lq}{n j:Nat}{v:Int}(V:(AB ws).length=n)(U:j<n)(Z:(Bo ws)[j]?=some v):(Cq ws n j).set j v=Cq ws n (j+1):=by
 unfold Cq;obtain⟨m,Y⟩:∃m,n-j=m+1:=⟨n-j-1,by omega⟩;have X:((Bo ws).take j).length=j:=by rw[Ag,JO];omega
 rw[Jm _ _ om,X,FG,Y,Ip,List.set_cons_zero,As Z,show n-(j+1)=m by omega,CE]
 rfl
theorem aiW{ws:Lq}{n j:Nat}(Y:(AB ws).length=n)(U:j<n)(Z:(Bo ws)[j]?=some 0):Cq ws n j=Cq ws n (j+1):=by
 rw[<-agy Y U Z];unfold Cq;obtain⟨m,X⟩:∃m,n-j=m+1:=⟨n-j-1,by omega⟩;have V:((Bo ws).take j).length=j:=by rw[Ag,JO];omega
 rw[Jm _ _ om,V,FG,X,Ip,List.set_cons_zero]
theorem FM.mono{W:World}{b n m:Nat}{f:Int×Int->Option Int}(h:FM W b n f)(Z:n<=m):FM W b m f:=by obtain⟨D,h1,h2⟩:=h;exact⟨D,h1.mono Z,h2⟩
theorem AU.set{g j:Nat}{l:List Int}{W:World}(h:AU g l W)(v:Int):AU g (l.set j v) (W.setCell ⟨g,j,none⟩ (int i64 v)):=by
 have:=AJ (i:=j) h (int i64 v);unfold AU
 simpa[Is]using this
theorem aiQ(t:TV)(T:Ay)(sp ws:Lq)(w:World)(hT:Tri w t T)(hb:t.un<=140737488351232)(hr:CI T=some (sp,ws)) :Calls ZP 176 #[.agg t.cells] w λe w'=>∃g,e=.returned (.tuple #[pointer (some ⟨g,0,none⟩),bool true])/\apx w' w.heap.size g t ws (Bo ws) (Ex ws)/\Br w w':=by
 obtain⟨r1,rfl,rfl⟩:=Fy.1 hr;obtain⟨ua,un,uc,da,dn,dc,xa,xn,xc,ba,bn,bc⟩:=t;dsimp only at hb;have hn:un=(AB ws).length:=by have:=hT.up.1;simp[AG]at this;exact this.symm
 have H:bn=(AB ws).length:=by have:=hT.byt.1.1;simp[AG]at this;exact this.symm
 have ak:(AB ws).length<=400:=(abf hr).1;have aD:1<=(AB ws).length:=by have:=Lo ws;have:(AB ws).length≠0:=λe=>this (Bz e);omega
 obtain⟨n,aj⟩:∃n,(AB ws).length=n:=⟨_,rfl⟩;rw[aj]at hn H ak aD
 replace hn:=hn.symm
 subst hn
 replace H:=H.symm
 subst H;have Y:=AA aj;obtain⟨W,hW⟩:∃W,W=w.alloc (.cells #[slice ua n uc,slice da dn dc,slice xa xn xc,slice ba n bc] 150):=⟨_,rfl⟩;have hB:Br w W:=by rw[hW];exact AL _ _
 have hO:Bx w.heap.size [.cells #[slice ua n uc,slice da dn dc,slice xa xn xc,slice ba n bc] 150] W:=by rw[hW];exact(Bx.nil _ w).snoc _ rfl
 have c0:W.cell? ⟨w.heap.size,0,none⟩=some (slice ua n uc):=hO.cell (i:=0) rfl rfl;have c1:W.cell? ⟨w.heap.size,1,none⟩=some (slice da dn dc):=hO.cell (i:=0) rfl rfl;have c2:W.cell? ⟨w.heap.size,2,none⟩=some (slice xa xn xc):=hO.cell (i:=0) rfl rfl;have c3:W.cell? ⟨w.heap.size,3,none⟩=some (slice ba n bc):=hO.cell (i:=0) rfl rfl;have HR:Hid (JF (AG ws)=true):=by unfold Hid JF;rw[hr];rfl
 have HC:=AA (ai5 _ (AG ws) W (hT.below hB) hb);have HT:=AA hT;have aU:=@run_makeMap ZP;have aV:∀V:World,(Instr.makeSlice 30 (int i64 n) (int i64 n)).run ZP V=.ok (slice (some ⟨V.heap.size,0,none⟩) n n) (V.alloc (.cells (GE n) 3)):=λV=>by
  obtain⟨i0,hi,aR,ar,aQ⟩:=Vk JS;have h:=run_makeSlice (P:=ZP) (w:=V) 30 3 i0 (.int .i64 0) underlying30 hi aR .i64 .i64 (n:Int) (n:Int) om om (by rw[ar];omega) (by rw[aQ];omega) om;rw[ar]at h;have e1:(n:Int).toNat*1=n:=by omega
  rw[e1,Nc,Aa]at h;exact h
 clear hT hr r1 aj;go_enter func176,ntmps176;go_upto_region 1 with fail
 rw[<-hW];clear hW
 go_wp2_with fail
 refine HC.out.mono ?_;rintro e X ⟨rfl,aN⟩;rw[HR.out];have ab:Br w X:=hB.trans (aN.mono hB.size);have A:=hO.below aN;have k0:X.heap[w.heap.size]?=some (.cells #[slice ua n uc,slice da dn dc,slice xa xn xc,slice ba n bc] 150 (0,0)):=A 0 _ rfl;clear c0 c1 c2 c3;have c0:X.cell? ⟨w.heap.size,0,none⟩=some (slice ua n uc):=A.cell (i:=0) rfl rfl;have c1:X.cell? ⟨w.heap.size,1,none⟩=some (slice da dn dc):=A.cell (i:=0) rfl rfl;have c2:X.cell? ⟨w.heap.size,2,none⟩=some (slice xa xn xc):=A.cell (i:=0) rfl rfl;have c3:X.cell? ⟨w.heap.size,3,none⟩=some (slice ba n bc):=A.cell (i:=0) rfl rfl;have aG:w.heap.size<X.heap.size:=(AD.1 k0).1;have aF:w.heap.size<X.heap.size+1:=by omega
 have aC:w.heap.size≠X.heap.size:=by omega
 have aB:w.heap.size≠X.heap.size+1:=by omega
 go_upto_region 3 with fail
 go_cut[4] (λs4 wx=>∃g N q:Nat,s4=pointer (some ⟨g,0,none⟩)/\wx.heap[g]?=some (.cells #[slice ua n uc,slice da dn dc,slice xa xn xc,slice ba n bc,.map (some N),slice (some ⟨q,0,none⟩) n n] 277 (0,0))/\FM wx N 0 (λ_=>none)/\AU q (List.replicate n 0) wx/\g≠N/\g≠q/\N≠q/\w.heap.size<N/\w.heap.size<g/\w.heap.size<q/\Br X wx)
 case first=>
  go_wp2
  go_region
  ·go_wp2_with fail
   go_meet
   refine⟨_,X.heap.size,X.heap.size+1,rfl,Hf sm _,?_,?_,by omega,by omega,by omega,by omega,by omega,by omega,?_⟩
   ·exact(((FM.start X).alloc _).alloc _).below ⟨rfl,rfl,rfl,AC _,λ_ _=>rfl⟩
   ·have h:=AU.new (X.alloc (.map #[] 0)) n;rw[DN]at h;exact(Bg _ _ _ sm).trans h
   ·exact(((AL X _).alloc sm _).alloc (by simp;omega) _).trans ⟨rfl,rfl,rfl,AC _,λ_ _=>rfl⟩
  ·go_wp2_with fail
   go_meet
   refine⟨_,X.heap.size+1,X.heap.size,rfl,Hf sm _,?_,?_,by omega,by omega,by omega,by omega,by omega,by omega,?_⟩
   ·have h:=FM.start (X.alloc (.cells (GE n) 3));rw[DN]at h;exact(h.alloc _).below ⟨rfl,rfl,rfl,AC _,λ_ _=>rfl⟩
   ·exact(Bg _ _ _ (by simp;omega)).trans ((Bg _ _ _ sm).trans (AU.new X n))
   ·exact(((AL X _).alloc sm _).alloc (by simp;omega) _).trans ⟨rfl,rfl,rfl,AC _,λ_ _=>rfl⟩
 case rest=>
  obtain⟨g,N,q,rfl,ao,am,ai,aM,aL,al,b9,bb,b8,aq⟩:=hcut;clear aU aV c0 c1 c2 c3 aF aC aB;have bj:=AA ab;have af:=ab.trans (aq.mono ab.size);have b6:=AA k0;clear ab;have J:wc.heap[w.heap.size]?=some (.cells #[slice ua n uc,slice da dn dc,slice xa xn xc,slice ba n bc] 150 (0,0)):=(aq.block _ aG).trans k0;clear aq b6 k0;have bi:g<wc.heap.size:=(AD.1 ao).1;have bd:q<wc.heap.size:=(AD.1 (show wc.heap[q]?=_ from ai)).1;have b7:N<wc.heap.size:=am.lt;go_upto_region 4 with fail
  go_wp2
  go_loopw[5] (λs5 wr=>∃j:Nat,1<=j/\j<=n/\s5=int i64 j/\FM wr N j (Dp (AG ws).up (AG ws).byt (j-1))/\wr.heap[g]?=some (.cells #[slice ua n uc,slice da dn dc,slice xa xn xc,slice ba n bc,.map (some N),slice (some ⟨q,0,none⟩) n n] 277 (0,0))/\AU q (List.replicate n 0) wr/\wr.heap[w.heap.size]?=some (.cells #[slice ua n uc,slice da dn dc,slice xa xn xc,slice ba n bc] 150 (0,0))/\Br w wr) (λs5 _=>n-(intOf s5).toNat)
  case atStart=>exact⟨1,AC _,aD,rfl,(show FM wc N 1 (λ_=>none) from am.mono om),ao,ai,J,af⟩
  case round=>
   clear am ao ai J af;obtain⟨j,aK,aX,rfl,hm,D,C,J,Z⟩:=hrel;have k0:wr.cell? ⟨w.heap.size,0,none⟩=some (slice ua n uc):=by simp[cell?,J]
   have k3:wr.cell? ⟨w.heap.size,3,none⟩=some (slice ba n bc):=by simp[cell?,J]
   have g4:wr.cell? ⟨g,4,none⟩=some (.map (some N)):=by simp[cell?,D]
   by_cases aJ:j<n
   ·have hd:decide ((j:Int)<n)=true:=by simp;omega
    obtain⟨y,o⟩:∃y,(AB ws)[j]?=some y:=⟨(AB ws)[j]'(by have:=Y.out;omega),by simp⟩;obtain⟨b0,o0,u,e0,aI,cu,hu⟩:=DG (HT.out.below Z).up aJ;obtain⟨b3,o3,c,e3,aH,cb,hc⟩:=DG (HT.out.below Z).byt.1 aJ;dsimp only at e0 e3;subst e0 e3;have ap:=HT.out.byt.2 c (AX hc);obtain⟨t1,t2,_⟩:=JC o;obtain⟨k,hk⟩:=DR (LR (AX o));have I:=CV (CL ws).nodup hk;have bg:k<n:=by have:=(AP.1 hk).1;have:=Y.out;omega
    rw[t1,I]at hu;obtain rfl:(k:Int)=u:=AK hu;have HE:Hid ((λp=>if p=((k:Int),c) then some (j:Int) else Dp (AG ws).up (AG ws).byt (j-1) p)=Dp (AG ws).up (AG ws).byt (j+1-1)):=by
     obtain⟨i,rfl⟩:∃i,j=i+1:=⟨j-1,by omega⟩
     funext p
     show _=Dp _ _ (i+1) p
     conv=>rhs;unfold Dp
     rw[t1,I,hc];simp
    have i1:(0:Int)<=(j:Int):=by omega
    have i2:(j:Int)<(n:Int):=by omega
    clear t1 t2 hk I o hu hc;go_upto_region 7 with fail
    refine Hw 16 mixed kr ?_;dsimp only[List.take_succ_cons,List.take_zero,List.drop_succ_cons,List.drop_zero]
    repeat (go_big_quiet_step (fail))
    refine wpQuiet_nil ?_;rintro _ ⟨nq,rfl⟩;have H:=AN wr nq;refine adb rfl _ _ _ rfl rfl (hm.below H) (by unfold maxLen;omega) (k:Int) c j (by simp[Lit.wf,IntKind.min,IntKind.max,IntKind.signed,IntKind.bits];omega) om ap rfl rfl ?_;intro w5 aE a8;rw[HE.out]at aE;have gg:w5.heap[g]?=_:=(a8.block g (AD.1 D).1 (by intro e;injection e with e;exact aM e)).trans D;have gq:AU q (List.replicate n 0) w5:=(a8.block q (AD.1 (show wr.heap[q]?=_ from C)).1 (by intro e;injection e with e;exact al e.symm)).trans C;have gw:w5.heap[w.heap.size]?=_:=(a8.block _ (AD.1 J).1 (by intro e;injection e with e;omega)).trans J;have aZ:Br w w5:=(Z.trans (H.mono Z.size)).grown a8 Z.size (λk e=>by cases e;omega);go_wp2
    go_roundw
    case rel=>exact⟨j+1,by omega,by omega,by go_num,aE,gg,gq,gw,aZ⟩
    case measure=>simp[intOf];omega
   ·obtain rfl:j=n:=by omega
    have hd:decide ((j:Int)<j)=false:=by simp
    have aw:AU q (Cq ws j 1) wr:=by rw[aif Y.out aK];exact C
    have HE:Hid (Dp (AG ws).up (AG ws).byt (j-1)=Ex ws):=by unfold Hid Ex;rw[Y.out]
    rw[HE.out]at hm;clear C aX hd k3 g4;go_upto_region 8 with fail
    clear k0;go_wp2
    go_loopw[6] (λs6 wr=>∃i:Nat,1<=i/\i<=j/\s6=int i64 i/\FM wr N j (Ex ws)/\wr.heap[g]?=some (.cells #[slice ua j uc,slice da dn dc,slice xa xn xc,slice ba j bc,.map (some N),slice (some ⟨q,0,none⟩) j j] 277 (0,0))/\AU q (Cq ws j i) wr/\wr.heap[w.heap.size]?=some (.cells #[slice ua j uc,slice da dn dc,slice xa xn xc,slice ba j bc] 150 (0,0))/\Br w wr) (λs6 _=>j-(intOf s6).toNat)
    case atStart=>exact⟨1,AC _,aK,rfl,hm,D,aw,J,Z⟩
    case round=>
     clear hm D aw J Z;obtain⟨i,bh,a7,rfl,hm,D,C,J,Z⟩:=hrel;have k0:wr.cell? ⟨w.heap.size,0,none⟩=some (slice ua j uc):=by simp[cell?,J]
     by_cases a6:i<j
     ·have hd:decide ((i:Int)<j)=true:=by simp;omega
      obtain⟨y,o⟩:∃y,(AB ws)[i]?=some y:=⟨(AB ws)[i]'(by have:=Y.out;omega),by simp⟩;obtain⟨b0,o0,u,e0,aI,cu,hu⟩:=DG HT.out.up a6;obtain⟨b3,o3,c,e3,aH,cb,hc⟩:=DG HT.out.byt.1 a6;dsimp only at e0 e3;subst e0 e3;have ap:=HT.out.byt.2 c (AX hc);obtain⟨t1,t2,_⟩:=JC o;obtain⟨k,hk⟩:=DR (LR (AX o));have I:=CV (CL ws).nodup hk;rw[t1,I]at hu;obtain rfl:(k:Int)=u:=AK hu;obtain⟨v,a1,aT,av,aS,ag,au⟩:=am7 o om (show(AG ws).up[i]?=some (k:Int) by rw[t1,I]);rw[t2]at hc av;obtain rfl:DU y=c:=AK hc;have HP:=AA (JP o);have i1:(0:Int)<=(i:Int):=by omega
      have i2:(i:Int)<(j:Int):=by omega
      have c1:wr.cell? ⟨b0,o0+i,none⟩=some (int i64 (k:Int)):=(Z.cell (p:=⟨b0,o0+i,none⟩) aI).trans cu;clear t1 t2 I hu hk hc av aS
      by_cases hz:k=0
      ·subst hz;have HS:Hid (Cq ws j i=Cq ws j (i+1)):=aiW Y.out a6 (by rw[HP.out,ag rfl]);clear ag au a1 o;rw[HS.out]at C;go_wp2
       go_roundw
       case rel=>exact⟨i+1,by omega,by omega,by go_num,hm,D,C,J,Z⟩
       case measure=>simp[intOf];omega
      ·obtain⟨p,s,aA,az,ay⟩:=au hz;obtain⟨p2,e1,e2,e3⟩:=(aiJ ws (k+1)).at_ (Nat.lt_succ_self k) a1 hz;have a2:=JP a1;rw[aA]at a2;have be:p<k:=by rw[a2]at e1;have:=AK e1;omega
       have ae:(Cq ws j i)[k]?=some (p:Int):=by rw[ajl aT a7 Y.out];exact a2
       obtain⟨V,hV⟩:∃V,Gc ws y=V:=⟨_,rfl⟩;have b5:Hid ((Bo ws)[i]?=some V):=by rw[Hid,<-hV];exact HP.out
       have aW:=alf (ws:=ws) (j:=i) Y.out a7;have B:g<wr.heap.size:=(AD.1 D).1;have ax:q<wr.heap.size:=(AD.1 (show wr.heap[q]?=_ from C)).1;have ac:w.heap.size<wr.heap.size:=(AD.1 J).1;have row:∀d os,AU q (Cq ws j i) (grow (redrawn wr d) os):=λd os=>((Vf wr d os).block q ax).trans C;have aO:∀d os,Calls ZP 216 #[pointer (some ⟨g,0,none⟩),int i64 (p:Int),.int .u8 (DU y)] (grow (redrawn wr d) os) λe w'=>e=.returned (int i64 V)/\Below (grow (redrawn wr d) os).heap.size (grow (redrawn wr d) os) w':=λd os=>by
        have hb:=Vf wr d os;have:=akb g N q j j i p ws (Cq ws j i) _ s (DU y) (grow (redrawn wr d) os) ((hb.block g B).trans D) rfl rfl (hm.below hb) (row d os) aW Y.out om (an2 a7 Y.out) a7 om az ap
        rwa[<-ay,hV]at this
       have b4:=AA aO;have g5:∀d os,(grow (redrawn wr d) os).cell? ⟨g,5,none⟩=some (slice (some ⟨q,0,none⟩) j j):=λd os=>by have:(grow (redrawn wr d) os).heap[g]?=_:=((Vf wr d os).block g B).trans D;simp[cell?,this]
       have k3:∀d os,(grow (redrawn wr d) os).cell? ⟨w.heap.size,3,none⟩=some (slice (some ⟨b3,o3,none⟩) j bc):=λd os=>by have:(grow (redrawn wr d) os).heap[w.heap.size]?=_:=((Vf wr d os).block _ ac).trans J;simp[cell?,this]
       have rq:∀d os,(grow (redrawn wr d) os).cell? ⟨q,k,none⟩=some (int i64 (p:Int)):=λd os=>by rw[cell_of_row _ q k _ _ _ (row d os)];simp[ae]
       have b1:∀d os,(grow (redrawn wr d) os).cell? ⟨b3,o3+i,none⟩=some (.int .u8 (DU y)):=λd os=>by have h1:=Z.cell (p:=⟨b3,o3+i,none⟩) aH;exact((Vf wr d os).cell (p:=⟨b3,o3+i,none⟩) (by show b3<wr.heap.size;have:=Z.size;omega)).trans (h1.trans cb)
       have b2:=AA row;have bf:((k:Int) != 0)=true:=by simp;omega
       have i3:(0:Int)<=(k:Int):=by omega
       have i4:(k:Int)<(j:Int):=by omega
       clear aO aA az ay hV ae e1 e2 e3 a2 row a1 ag o;go_upto_region 13 with fail
       refine aaQ 20 mixed kr ?_;dsimp only[List.take_succ_cons,List.take_zero,List.drop_succ_cons,List.drop_zero]
       repeat (go_big_quiet_step (exact Eu (b4.out _ _)))
       refine wpQuiet_nil ?_;rintro _ ⟨⟨dq,U⟩,rfl⟩;have aa:=Vf wr dq U;have hI:=b2.out dq U;have fq:(grow (redrawn wr dq) U).frozen? ⟨q,i,none⟩=false:=by simp[frozen?,show(grow (redrawn wr dq) U).heap[q]?=_ from hI]
       have cq:∃z:Int,(grow (redrawn wr dq) U).cell? ⟨q,i,none⟩=some (int i64 z):=by refine⟨(Cq ws j i)[i]'om,?_⟩;rw[cell_of_row _ q i _ _ _ hI];simp
       obtain⟨z,cq⟩:=cq;have aP:=hI.set (j:=i) V;rw[agy Y.out a6 b5.out]at aP;have gg:((grow (redrawn wr dq) U).setCell ⟨q,i,none⟩ (int i64 V)).heap[g]?=_:=(AQ _ _ _ _ (by show g≠q;exact aL)).trans ((aa.block g B).trans D);have gw:((grow (redrawn wr dq) U).setCell ⟨q,i,none⟩ (int i64 V)).heap[w.heap.size]?=_:=(AQ _ _ _ _ (by show w.heap.size≠q;omega)).trans ((aa.block _ ac).trans J);have gm:FM ((grow (redrawn wr dq) U).setCell ⟨q,i,none⟩ (int i64 V)) N j (Ex ws):=(hm.below aa).set (Ne.symm al) _;have aY:Br w ((grow (redrawn wr dq) U).setCell ⟨q,i,none⟩ (int i64 V)):=(Z.trans (aa.mono Z.size)).setCell (by show w.heap.size<=q;omega) _;clear g5 k3 rq b1;go_wp2
       go_roundw
       case rel=>exact⟨i+1,by omega,by omega,by go_num,gm,gg,aP,gw,aY⟩
       case measure=>simp[intOf];omega
     ·obtain rfl:i=j:=by omega
      have hd:decide ((i:Int)<i)=false:=by simp
      have HF:Hid (Cq ws i i=Bo ws):=by unfold Hid Cq;rw[FG,List.replicate_zero,Cx,Ap (by rw[JO,Y.out];exact AC _)]
      rw[HF.out]at C;go_wp2;go_ret2;exact⟨g,rfl,⟨⟨N,q,i,by rw[Y.out];exact D,hm,C,by rw[JO],by omega,by omega,by omega,aM,aL,al,by omega⟩⟩,Z⟩
section
attribute[local go_sem] Oper.semAt_some
attribute[local simp] Ak Al
attribute[local go_sem] Ak Al
theorem ack(t:TV)(T:Ay)(X ws:Lq)(w:World)(U:Tri w t T)(J:t.un<=140737488351232)(V:CI T=some (X,ws)) :Calls ZP 127 #[.agg t.cells] w λe w'=>∃q,e=.returned (.tuple #[slice (some ⟨q,0,none⟩) (AB ws).length (AB ws).length,int i64 0])/\AU q (Bo ws) w'/\w.heap.size<=q/\Br w w':=by
 obtain⟨ua,un,uc,da,dn,dc,xa,xn,xc,ba,bn,bc⟩:=t;have hB:=AL w (.cells #[slice ua un uc,slice da dn dc,slice xa xn xc,slice ba bn bc] 150);have I:=AA (aiQ _ T X ws _ (U.below hB) J V);clear U V;go_enter func127,ntmps127
 go_wp2_with fail
 refine I.out.mono ?_;rintro e N ⟨g,rfl,Y,Z⟩;obtain⟨D,q,H,h1,h2,h3,h4,h5,h6,h7,_⟩:=Y.ex;have c5:N.cell? ⟨g,5,none⟩=some (slice (some ⟨q,0,none⟩) (AB ws).length (AB ws).length):=by simp[cell?,h1]
 simp only[DN]at h7;clear h1 h2 h4;go_wp2;go_ret2;exact⟨q,rfl,h3,by omega,hB.trans (Z.mono hB.size)⟩
end
theorem Hx{T:Ay}{Y ws:Lq}(Z:CI T=some (Y,ws)):(AB ws).length<=400:=by obtain⟨_,_,h⟩:=Fy.1 Z;rw[<-h];exact(abf Z).1
theorem AU.sl1{g:Nat}{l:List Int}{W:World}(h:AU g l W):Sl1 (int i64) W (some ⟨g,0,none⟩) l.length l:=
 ⟨rfl,.inr ⟨g,0,rfl,(AD.1 (show W.heap[g]?=_ from h)).1,λi x Z=>by rw[cell_of_row W g (0+i) _ _ _ h];simp[Z]⟩⟩
theorem ako{wss:Lq}(h:Ev wss=false)(fold:Bool):wss.length<=80/\(∀x∈wss,x.length<=3000)/\(Ad fold wss).length<=3000:=by
 unfold Ev at h;have h:=of_decide_eq_false h;have h1:wss.length<=80:=by omega
 have h2:Cs wss<=3000:=by omega
 have Z:∀(l:Lq),Cs l<=3000->(∀x∈l,x.length<=3000)/\((Ad fold l).length:Int)=Cs l:=by
  intro l
  induction l with
  |nil=>intro _;exact⟨by simp,by simp[Ad,Cs]⟩
  |cons x l ih=>
   intro U;have e:Cs (x::l)=min (x.length:Int) 4000+Cs l:=by simp[Cs]
   have I:=aax l;rw[e]at U⊢;obtain⟨V,J⟩:=ih om;refine⟨λy Y=>?_,?_⟩
   ·rcases CR.1 Y with rfl|Y
    ·omega
    ·exact V y Y
   ·have e2:Ad fold (x::l)=Dt (AO fold x)++Ad fold l:=by simp[Ad]
    rw[e2,List.length_append,Ks,Ew];omega
 obtain⟨X,N⟩:=Z wss h2;exact⟨h1,X,by omega⟩
def Dn(L:List Int)(m:Int)(row:Value)(t:TV)(lk:Value):List Value:=(L.map (int i64)++[int i64 m])++[row,slice t.ua t.un t.uc,slice t.da t.dn t.dc,slice t.xa t.xn t.xc,slice t.ba t.bn t.bc,lk]
structure Mk(W:World)(M:Nat)(L:List Int)(m:Int)(row:Value)(t:TV)(lk:Value):Prop where
 box:W.heap[M]?=some (.cells (Dn L m row t lk).toArray 227 (0,0))
 len:L.length=256
theorem Mk.lt{W:World}{M:Nat}{L:List Int}{m:Int}{row lk:Value}{t:TV}(h:Mk W M L m row t lk):M<W.heap.size:=(AD.1 h.box).1
theorem Mk.below{W V:World}{M:Nat}{L:List Int}{m:Int}{row lk:Value}{t:TV}(h:Mk W M L m row t lk)(Z:Br W V):Mk V M L m row t lk:=⟨(Z.block M h.lt).trans h.box,h.len⟩
theorem Mk.cls{W:World}{M:Nat}{L:List Int}{m:Int}{row lk:Value}{t:TV}(h:Mk W M L m row t lk){c:Nat}{v:Int}(Z:L[c]?=some v):W.cell? ⟨M,c,none⟩=some (int i64 v):=by
 have Y:c<256:=by have:=(AP.1 Z).1;have:=h.len;omega
 have e:(Dn L m row t lk)[c]?=some (int i64 v):=by
  unfold Dn;rw[By (by simp[h.len];omega),By (by simp[h.len];omega),BU,Z]
  rfl
 simp only[cell?,h.box];simp[e]
theorem Mk.off{W:World}{M:Nat}{L:List Int}{m:Int}{row lk:Value}{t:TV}(h:Mk W M L m row t lk){i:Nat}{v:Value}(Z:[int i64 m,row,slice t.ua t.un t.uc,slice t.da t.dn t.dc,slice t.xa t.xn t.xc,slice t.ba t.bn t.bc,lk][i]?=some v):W.cell? ⟨M,256+i,none⟩=some v:=by
 have e:(Dn L m row t lk)[256+i]?=some v:=by
  unfold Dn;rw[CE,DY (by simp[h.len])]
  simpa[h.len]using Z
 simp only[cell?,h.box];simp[e]
theorem Mk.cells{W:World}{M:Nat}{L:List Int}{m:Int}{row lk:Value}{t:TV}(h:Mk W M L m row t lk):W.cell? ⟨M,256,none⟩=some (int i64 m)/\W.cell? ⟨M,257,none⟩=some row/\W.cell? ⟨M,258,none⟩=some (slice t.ua t.un t.uc)/\W.cell? ⟨M,259,none⟩=some (slice t.da t.dn t.dc)/\W.cell? ⟨M,260,none⟩=some (slice t.xa t.xn t.xc)/\W.cell? ⟨M,261,none⟩=some (slice t.ba t.bn t.bc)/\W.cell? ⟨M,262,none⟩=some lk:=⟨h.off (i:=0) rfl,h.off (i:=1) rfl,h.off (i:=2) rfl,h.off (i:=3) rfl,h.off (i:=4) rfl,h.off (i:=5) rfl,h.off (i:=6) rfl⟩
theorem OP{x:Nat}(h:x<=1000000000000):IntKind.i64.wrap (x:Int)=(x:Int):=by simp[IntKind.wrap,IntKind.bits,IntKind.signed];omega
theorem aem(M R n many node:Nat)(L:List Int)(t:TV)(lk:Value)(w:World)(h:Mk w M L (many:Int) (slice (some ⟨R,0,none⟩) (many*n) (many*n)) t lk)(A:node<n)(s:many<=1000)(y:1<=many)(U:n<=1000000) :Calls ZP 178 #[pointer (some ⟨M,0,none⟩),int i64 (node:Int)] w λe w'=>e=.returned (slice (some ⟨R,node*many,none⟩) many (many*n-node*many))/\Br w w':=by
 have X:(node+1)*many<=many*n:=by rw[Nat.mul_comm many n];exact IO _ A
 have o:many*n<=1000*1000000:=GR s U;have Y:(node+1)*many=node*many+many:=Nat.succ_mul _ _;have c1:(node:Int)*(many:Int)=((node*many:Nat):Int):=(Iy _ _).symm;obtain⟨Q,C⟩:∃Q,many*n=Q:=⟨_,rfl⟩;obtain⟨P,B⟩:∃P,node*many=P:=⟨_,rfl⟩;rw[B]at Y c1⊢;rw[C]at h X o⊢;have j:IntKind.i64.wrap (((node:Int)+1)*(many:Int))=((node:Int)+1)*(many:Int):=by
  have e:((node:Int)+1)*(many:Int)=((P+many:Nat):Int):=by rw[Jr,Int.one_mul,c1];omega
  rw[e];exact OP om
 have e1:IntKind.i64.wrap ((node:Int)*(many:Int))=(node:Int)*(many:Int):=by rw[c1];exact OP om
 have e2:IntKind.i64.wrap ((node:Int)+1)=(node:Int)+1:=OP (x:=node+1) om;have I:Hid (∀V,Br w V->V.cell? ⟨M,256,none⟩=some (int i64 (many:Int))/\V.cell? ⟨M,257,none⟩=some (slice (some ⟨R,0,none⟩) Q Q)):=λV Z=>⟨((h.below Z).cells).1,((h.below Z).cells).2.1⟩;have HC:=AA c1;have c3:((node:Int)+1)*(many:Int)=((P+many:Nat):Int):=by rw[Jr,Int.one_mul,c1];omega
 obtain⟨E,J⟩:∃E,P+many=E:=⟨_,rfl⟩;rw[J]at c3;have H:=AA c3;have HE:=AA J;have l1:E<=Q:=by omega
 have l3:P<=E:=by omega
 have l2:¬Q=P:=by omega
 clear Y c1 c3 B C h J;clear X;go_enter func178,ntmps178;go_upto_region 1 with fail
 refine Vh ?_;refine Vg (S:=Br w) kr (AN w 1) (λhHeld=>?_);refine tkA 0 ?_;refine tkA 1 ?_;refine tkA 2 ?_;refine tkA 3 ?_;refine tkW 4 (v:=?_) ?_ ?_;rotate_left
 ·intro V Z;have D:=(I.out V Z).2
  first|(go_simp;done)|(go_simp;with_reducible rfl)
 try simp only[pq]
 refine tkA 5 ?_;refine tkA 6 ?_;refine tkA 7 ?_;refine tkA 8 ?_;refine tkA 9 ?_;refine tkW 10 (v:=?_) ?_ ?_;rotate_left
 ·intro V Z;have D:=(I.out V Z).1
  first|(go_simp;done)|(go_simp;with_reducible rfl)
 try simp only[pq]
 refine tkA 11 ?_;refine tkA 12 ?_;refine tkA 13 ?_;refine tkA 14 ?_;refine tkA 15 ?_;refine tkA 16 ?_;refine tkA 17 ?_;refine tkW 18 (v:=?_) ?_ ?_;rotate_left
 ·intro V Z;have D:=(I.out V Z).1
  first|(go_simp;done)|(go_simp;with_reducible rfl)
 try simp only[pq]
 refine tkA 19 ?_;rw[HC.out,H.out];clear e1 e2 j;refine tkA 20 ?_;refine tkA 21 ?_;refine Vj kr ?_ _;refine At ?_
 go_wp2_with fail
 have N:E-P=many:=by have:=HE.out;omega
 rw[N];go_ret;exact⟨rfl,AN w 1⟩
section
attribute[local go_sem] Oper.semAt_some
attribute[local simp] Ak Al
attribute[local go_sem] Ak Al
def GC(T:Ay)(node:Int):Nat->List (Int×Nat)
 |0=>[]
 |k+1=>GC T node k++(if 1<=k/\T.up[k]?=some node then [((T.byt[k]?).getD 0,k)] else [])
theorem ab5(T:Ay)(node:Int):∀k,(GC T node k).length<=k
 |0=>by simp[GC]
 |k+1=>by
  have:=ab5 T node k;unfold GC;rw[List.length_append]
  split<;>simp<;>omega
theorem ac0{T:Ay}{node:Int}{p:Int×Nat}:∀{k:Nat},p∈GC T node k↔1<=p.2/\p.2<k/\T.up[p.2]?=some node/\p.1=(T.byt[p.2]?).getD 0
 |0=>by simp[GC]
 |k+1=>by
  unfold GC;rw[Bf,ac0 (k:=k)]
  constructor
  ·rintro(⟨h1,h2,h3⟩|h)
   ·exact⟨h1,by omega,h3⟩
   ·split at h
    ·rename_i Z
     rw[Fq]at h;subst h;exact⟨Z.1,by dsimp only;omega,Z.2,rfl⟩
    ·cases h
  ·rintro⟨h1,h2,h3,h4⟩
   by_cases e:p.2=k
   ·right
    subst e;rw[Vb ⟨h1,h3⟩,Fq];exact Prod.ext h4 rfl
   ·exact .inl ⟨h1,by omega,h3,h4⟩
def Ec(L:List Int)(T:Ay)(node:Int)(k:Nat):List (Nat×Nat):=(GC T node k).map λp=>(((L[p.1.toNat]?).getD 0).toNat,p.2)
abbrev KdQ(many:Nat):={p:Nat×Nat // p.1<many}
def Ni{many:Nat}(p:KdQ many):Array Value:=#[int i64 (p.1.1:Int),int i64 (p.1.2:Int)]
theorem acy(M:Nat)(node:Int)(w:World) :Calls ZP 179 #[.pointer (some ⟨M,0,none⟩),.int .i64 node] w λe w'=>e=.returned (.func (.func 222) #[] #[.pointer (some ⟨w.heap.size,0,none⟩),.pointer (some ⟨w.heap.size+1,0,none⟩)])/\
   w'=(w.alloc (.cells #[pointer (some ⟨M,0,none⟩)] 285)).alloc (.cells #[int i64 node] 3):=by
 go_enter func179,ntmps179;go_wp2;go_ret;exact⟨rfl,rfl⟩
theorem ab9(t:TV)(T:Ay)(M R p1 p2 many:Nat)(node:Int)(m:Int)(row lk:Value)(L:List Int)(n:Nat)(w:World)(j:Tri w t T)(hn:T.byt.length=T.up.length)(a8:T.up.length<=400)
  (A:Mk w M L m row t lk) (hL:∀(c:Nat)(v:Int),L[c]?=some v->0<=v/\v<(many:Int))
  (h1:w.heap[p1]?=some (.cells #[pointer (some ⟨M,0,none⟩)] 285 (0,0))) (h2:w.heap[p2]?=some (.cells #[int i64 node] 3 (0,0)))
  (hR:M≠R/\p1≠R/\p2≠R/\(∀a,t.ua=some a->a.block≠R)/\(∀a,t.ba=some a->a.block≠R)) :
  SeqStopsK Fence.wide n ZP 222 #[pointer (some ⟨p1,0,none⟩),pointer (some ⟨p2,0,none⟩)] (Ni (many:=many)) (Cc (λk=>k<w.heap.size/\k≠R)) (λzs=>zs.map Subtype.val=Ec L T node T.up.length) (λ_=>True) 1000001 w:=by
 intro l J Jx W hW hJ ap hY h0;have B:Cc (λk=>k<w.heap.size/\k≠R) w W:=Ke hW (λk hk=>hk.1);obtain⟨ua,un,uc,da,dn,dc,xa,xn,xc,ba,bn,bc⟩:=t;dsimp only at hR;obtain⟨r0,r1,r2,r3,r4⟩:=hR;have a7:p1<w.heap.size:=(AD.1 h1).1;have a6:p2<w.heap.size:=(AD.1 h2).1;have ac:M<w.heap.size:=A.lt;have cells:∀v:World,Cc (λk=>k<w.heap.size/\k≠R) w v->v.cell? ⟨p1,0,none⟩=some (pointer (some ⟨M,0,none⟩))/\v.cell? ⟨p2,0,none⟩=some (int i64 node)/\v.cell? ⟨M,258,none⟩=some (slice ua un uc)/\v.cell? ⟨M,261,none⟩=some (slice ba bn bc)/\(∀(c:Nat)(v':Int),L[c]?=some v'->v.cell? ⟨M,c,none⟩=some (int i64 v')):=by intro v Y;have e1:=(Y p1 ⟨a7,r1⟩).trans h1;have e2:=(Y p2 ⟨a6,r2⟩).trans h2;have y:Mk v M L m row ⟨ua,un,uc,da,dn,dc,xa,xn,xc,ba,bn,bc⟩ lk:=⟨(Y M ⟨ac,r0⟩).trans A.box,A.len⟩;refine⟨by simp[cell?,e1],by simp[cell?,e2],y.cells.2.2.1,y.cells.2.2.2.2.2.1,λc v' h=>y.cls h⟩
 have kc:∀(v:World)(p:Addr),Cc (λk=>k<w.heap.size/\k≠R) w v->p.block<w.heap.size->p.block≠R->v.cell? p=w.cell? p:=λv p Y hp hr=>BC (Y _ ⟨hp,hr⟩);have KC:=AA kc;have HL:=AA hL;have ai:=AA A.len;have HC:=AA cells;have HT:=AA j;have U:Hid (T.up.length=un):=j.up.1;have af:bn=un:=by have h1:T.byt.length=bn:=j.byt.1.1;have:=U.out;omega
 have al:un<=400:=by have:=U.out;omega
 subst af;clear j hn a8 A h1 h2 cells hL kc;obtain⟨c1,c2,c3,c4,_⟩:=HC.out W B;refine callsIn_of_wp func222 rfl trivial ?_ rfl;simp only[ntmps222,Cw,Ao,Bw,Nat.reduceAdd,Nat.reduceSub,Dd,Dc,DX,Da,Av,CT]
 gi_wp2
 clear c1 c2 c3 c4
 gi_loopw[4] (λi wr=>∃(k:Nat)(Z:List (KdQ many)),1<=k/\i=int i64 k/\Hid (Z.map Subtype.val=Ec L T node k)/\Hid (k<=max bn 1)/\J Z wr/\Cc (λk=>k<w.heap.size/\k≠R) w wr) (λi _=>bn-(intOf i).toNat)
 case atStart=>exact⟨1,[],AC _,rfl,(by simp[Hid,Ec,GC]),Nat.le_max_right _ _,h0,B⟩
 case round=>
  obtain⟨k,Z,hk,rfl,HP,HK,hj,V⟩:=hrel;obtain⟨c1,c2,c3,c4,c5⟩:=HC.out wr V
  by_cases D:k<bn
  ·have ae:decide ((k:Int)<bn)=true:=by simp;omega
   obtain⟨b0,o0,u,e0,ab,I,s⟩:=DG HT.out.up D;subst e0;obtain⟨b3,o3,c,y,aa,H,o⟩:=DG HT.out.byt.1 D;subst y;have cu:wr.cell? ⟨b0,o0+k,none⟩=some (int i64 u):=(KC.out wr ⟨b0,o0+k,none⟩ V ab (r3 ⟨b0,o0,none⟩ rfl)).trans I;have cb:wr.cell? ⟨b3,o3+k,none⟩=some (.int .u8 c):=(KC.out wr ⟨b3,o3+k,none⟩ V aa (r4 ⟨b3,o3,none⟩ rfl)).trans H;have ao:=HT.out.byt.2 c (AX o);have a2:Z.length<=k:=by have h1:=congrArg List.length HP.out;have:=ab5 T node k;unfold Ec at h1;rw[BP,BP]at h1;omega
   have i1:(0:Int)<=(k:Int):=by omega
   have i2:(k:Int)<(bn:Int):=by omega
   obtain⟨c,rfl⟩:∃c':Nat,c=(c':Int):=⟨c.toNat,by omega⟩;obtain⟨v,Y⟩:∃v,L[c]?=some v:=⟨L[c]'(by rw[ai.out];omega),by simp⟩;obtain⟨ak,aj⟩:=HL.out c v Y;obtain⟨v,rfl⟩:∃v':Nat,v=(v':Int):=⟨v.toNat,by omega⟩;have cv:=c5 c _ Y;have i3:(0:Int)<=(c:Int):=by omega
   have i4:(c:Int)<256:=by omega
   by_cases X:u=node
   ·subst X;have HS:Hid ((Z++[(⟨(v,k),by dsimp only;omega⟩:KdQ many)]).map Subtype.val=Ec L T u (k+1)):=by
     unfold Hid Ec GC;rw[Vb ⟨hk,s⟩,Aj,Aj,HP.out,o];unfold Ec;simp[Y]
    clear I H s o c5 Y
    gi_wp2
    refine Ld (FL _ _) 27 mixed kr kr ?_;dsimp only[List.take_succ_cons,List.take_zero,List.drop_succ_cons,List.drop_zero]
    repeat (go_big_quiet_step (fail))
    refine wpQuiet_nil ?_;rintro _ ⟨nq,rfl⟩;have N:Br wr (wr.drewN nq):=⟨rfl,rfl,rfl,AC _,λ_ _=>rfl⟩;obtain⟨fn,tmps,assign,body,a1,ag⟩:=hY Z ⟨(v,k),by dsimp only;omega⟩ (wr.drewN nq) (IJ hJ hj N) om;dsimp only[Ni]at a1
    gi_wp2
    refine ag.mono ?_;rintro e W4 (⟨rfl,hJ4,hk4⟩|⟨rfl,hJx4⟩)
    ·gi_wp2
     go_roundw
     case rel=>exact⟨k+1,_,by omega,by go_num,HS,(by unfold Hid;omega),hJ4,GD V hk4⟩
     case measure=>simp[intOf];omega
    ·gi_wp2
     refine Vl (results_none rfl _ _ _) rfl ?_;exact⟨⟨_,rfl⟩,.inr ⟨_,trivial,hJx4⟩⟩
   ·have hd:(u==node)=false:=by simpa using X
    have HS:Hid (Z.map Subtype.val=Ec L T node (k+1)):=by
     unfold Hid Ec GC;rw[Va (λh=>X (by have:=h.2;rw[s]at this;exact AK this)),HP.out,Cx]
     rfl
    clear I H s o c5 Y
    gi_wp2
    refine KF (FL _ _) mixed kr kr ?_
    repeat (go_big_quiet_step (fail))
    refine wpQuiet_nil ?_;rintro _ ⟨nq,rfl⟩;have N:Br wr (wr.drewN nq):=⟨rfl,rfl,rfl,AC _,λ_ _=>rfl⟩;have C:Cc (λk=>k<w.heap.size/\k≠R) w (wr.drewN nq):=V
    gi_wp2
    go_roundw
    case rel=>exact⟨k+1,_,by omega,by go_num,HS,(by unfold Hid;omega),IJ hJ hj N,C⟩
    case measure=>simp[intOf];omega
  ·have ae:decide ((k:Int)<bn)=false:=by simp;omega
   clear c5
   gi_wp2
   go_end0
   refine⟨⟨_,rfl⟩,.inl ⟨Z,?_,hj⟩⟩;show Z.map Subtype.val=Ec L T node T.up.length;rw[HP.out,U.out];have am:=HK.out
   by_cases e:bn=0
   ·obtain rfl:k=1:=by omega
    subst e;simp[Ec,GC]
   ·obtain rfl:k=bn:=by omega
    rfl
end
def spl(F:List Int)(P:Nat)(r:List Int):List Int:=F.take P++r++F.drop (P+r.length)
theorem Oj{F r:List Int}{P:Nat}(h:P+r.length<=F.length):(spl F P r).length=F.length:=by unfold spl;simp;omega
theorem alx{F:List Int}{P m:Nat}(h:P+m<=F.length):spl F P ((F.drop P).take m)=F:=by
 unfold spl;have Z:((F.drop P).take m).length=m:=by simp;omega
 rw[Z,CE,<-List.drop_drop,Dx,Dx]
theorem Ok{F r:List Int}{P i:Nat}(h:P+r.length<=F.length)(Z:i<r.length):(spl F P r)[P+i]?=r[i]?:=by unfold spl;rw[CE,DY (by simp;omega)];rw[Ag,Nat.min_eq_left om,Nat.add_sub_cancel_left,By Z]
theorem ajT{F r:List Int}{P i:Nat}(h:P+r.length<=F.length)(Z:i<r.length)(v:Int):(spl F P r).set (P+i) v=spl F P (r.set i v):=by
 unfold spl;have Y:(F.take P).length=P:=by simp;omega
 rw[BG,CE,Jm _ _ om,Y,Nat.add_sub_cancel_left,List.set_append_left _ _ Z,CE]
def DV(r:List Int)(Z:List (Nat×Nat)):List Int:=Z.foldl (λr p=>r.set p.1 (p.2:Int)) r
theorem aaW(Z:List (Nat×Nat)):∀r:List Int,(DV r Z).length=r.length:=by
 induction Z with
 |nil=>intro r;rfl
 |cons k Z ih=>intro r;show(DV (r.set k.1 _) Z).length=_;rw[ih];simp
theorem abW(r:List Int)(Z:List (Nat×Nat))(p:Nat×Nat):DV r (Z++[p])=(DV r Z).set p.1 (p.2:Int):=by unfold DV;rw[FI];rfl
theorem AU.cell{g:Nat}{l:List Int}{W:World}(h:AU g l W){i:Nat}{v:Int}(Z:l[i]?=some v):W.cell? ⟨g,i,none⟩=some (int i64 v):=by rw[cell_of_row W g i _ _ _ h];simp[Z]
theorem AU.frozen{g:Nat}{l:List Int}{W:World}(h:AU g l W)(i:Nat):W.frozen? ⟨g,i,none⟩=false:=by have h2:W.heap[g]?=some (.cells (l.map (int i64)).toArray 3 (0,0)):=h;simp[frozen?,h2]
theorem AU.lt{g:Nat}{l:List Int}{W:World}(h:AU g l W):g<W.heap.size:=(AD.1 h).1
theorem acr{β:Type}(g:Nat)(f:β->List Int):Own (λs W=>AU g (f s) W):=λs X Y row U N V=>by have Z:X.heap[g]?=some (.cells ((f s).map (int i64)).toArray 3 (0,0)):=U;exact(N.block g U.lt (λe=>by obtain⟨o,ho,J⟩:=V g e.symm;rw[Z]at ho;cases ho;cases J)).trans Z
theorem aoG(w:World)(R P K m c1 c2:Nat)(F:List Int)(V:TypeId)(U:AU R F w)(J:P+m<=F.length)(I:K+m<=F.length) :(Builtin.copy_ #[30,30] V #[slice (some ⟨R,P,none⟩) m c1,slice (some ⟨R,K,none⟩) m c2]).run ZP w=.ok (int i64 m) (w.setRow R ((spl F P ((F.drop K).take m)).map (int i64)).toArray):=by
 have Y:((F.drop K).take m).length=m:=by simp;omega
 have h:=run_copy_row (P:=ZP) w 30 30 V 3 R P m c1 ⟨R,K,none⟩ m c2 ((F.map (Value.int .i64)).toArray) 3 (((F.drop K).take m).map (Value.int .i64)) underlying30 kr U
  (by rw[BP,Y];exact(Nat.min_self m).symm)
  (λj v Z=>by
   rw[BU,Fo]at Z;obtain⟨x,X,rfl⟩:=Z;have N:j<m:=by have:=(AP.1 X).1;omega
   rw[MW N,Hm]at X;have e:(⟨R,K,none⟩:Addr).add j=⟨R,K+j,none⟩:=by unfold Addr.add;split<;>simp_all
   rw[e];exact U.cell X)
  (by rw[BP,Y];simp;omega)
  (λv Z=>by obtain⟨x,_,rfl⟩:=Be.1 Z;rfl)
 rw[h,BP,Y];unfold spl;rw[Y];simp[goInt]
theorem ajm(w:World){o:Oper}{a:Act}{K:Act->World->Prop}{Q:Exit->Act->World->Prop}(d s:Operand)(t Z:TypeId)
  (ho:o.op=.call {callee:=.builtin .copy,args:=#[d,s],argTypes:=#[t,Z]}) (v u:Value) (V:a.eval d=v) (Y:a.eval s=u) {v':Value} {w':World}
  (X:(Builtin.copy_ #[t,Z] o.type #[v,u]).run ZP w=.ok v' w') (h:K (a.put o.dst v') w'):o.wp ZP a w K Q:=by
 unfold Oper.wp;simp only[execOp,ho,resolve,invoke,builtin,IN,IM,Result.andThen_ok,LI,BO,DE,V,Y,X];exact h
section
attribute[local go_sem] Oper.semAt_some
attribute[local simp] Ak Al
attribute[local go_sem] Ak Al
def Hd(F:List Int)(many node:Nat)(lk:List Int):List Int:=if node=0 then(F.drop (node*many)).take many else(F.drop (((lk[node]?).getD 0).toNat*many)).take many
def Kn(L:List Int)(T:Ay)(lk:List Int)(F:List Int)(many node:Nat):List Int:=spl F (node*many) (DV (Hd F many node lk) (Ec L T (node:Int) T.up.length))
theorem IE{many n k:Nat}(h:k<n):k*many+many<=many*n:=by have h1:(k+1)*many<=n*many:=IO _ h;rw[Nat.succ_mul,Nat.mul_comm n many]at h1;exact h1
theorem adR{F lk:List Int}{many n node:Nat}(V:F.length=many*n)(Y:node<n)(X:node≠0->∃k:Nat,lk[node]?=some (k:Int)/\k<n):(Hd F many node lk).length=many:=by
 unfold Hd
 split
 ·have:=IE (many:=many) Y;simp;omega
 ·rename_i h
  obtain⟨k,hk,Z⟩:=X h;have:=IE (many:=many) Z;rw[hk];simp;omega
def Lw(t:TV)(R:Nat):Prop:=∀a,(t.ua=some a∨t.da=some a∨t.xa=some a∨t.ba=some a)->a.block<R
theorem Sl1.keep{α:Type}{enc:α->Value}{R:Nat}{W V:World}{a:Option Addr}{n:Nat}{xs:List α}(h:Sl1 enc W a n xs)(Y:Below R W V)(J:R<=W.heap.size)(U:∀x,a=some x->x.block<R):Sl1 enc V a n xs:=by
 refine⟨h.1,?_⟩
 rcases h.2 with h0|⟨b,off,e,Z,N⟩
 ·exact .inl h0
 ·exact .inr ⟨b,off,e,Af Z Y.size,λi x X=>(BC (Y.block b (U _ e))).trans (N i x X)⟩
theorem Tri.keep{R:Nat}{W V:World}{t:TV}{T:Ay}(h:Tri W t T)(Y:Below R W V)(X:R<=W.heap.size)(Z:Lw t R):Tri V t T:=⟨h.up.keep Y X (λa e=>Z a (.inl e)),h.dep.keep Y X (λa e=>Z a (.inr (.inl e))),h.wrd.keep Y X (λa e=>Z a (.inr (.inr (.inl e)))),⟨h.byt.1.keep Y X (λa e=>Z a (.inr (.inr (.inr e)))),h.byt.2⟩,h.cap⟩
theorem Mk.keep{R:Nat}{W V:World}{M:Nat}{L:List Int}{m:Int}{row lk:Value}{t:TV}(h:Mk W M L m row t lk)(Z:Below R W V)(Y:M<R):Mk V M L m row t lk:=⟨(Z.block M Y).trans h.box,h.len⟩
theorem ah2(t:TV)(T:Ay)(M R q n many node:Nat)(L F lk:List Int)(w:World)(hT:Tri w t T)(hb:T.byt.length=T.up.length)(aO:T.up.length<=400)
  (hM:Mk w M L (many:Int) (slice (some ⟨R,0,none⟩) (many*n) (many*n)) t (slice (some ⟨q,0,none⟩) n n)) (hL:∀(c:Nat)(v:Int),L[c]?=some v->0<=v/\v<(many:Int))
  (b5:M<R/\q<R) (aD:Lw t R) (hq:AU q lk w) (bf:lk.length=n) (hR:AU R F w) (hF:F.length=many*n)
  (hn:node<n) (hm:many<=1000) (aQ:1<=many) (aP:n<=1000000) (hl:node≠0->∃k:Nat,lk[node]?=some (k:Int)/\k<n) :
  Calls ZP 129 #[pointer (some ⟨M,0,none⟩),int i64 (node:Int)] w λe w'=>e=.returned (.tuple #[])/\AU R (Kn L T lk F many node) w'/\Below R w w':=by
 obtain⟨r0,r1⟩:=b5;have r2:∀a,t.ua=some a->a.block<R:=λa h=>aD a (.inl h);have r3:∀a,t.ba=some a->a.block<R:=λa h=>aD a (.inr (.inr (.inr h)));have a1:=hR.lt;have ay:=adR (lk:=lk) hF hn hl;have hP:=IE (many:=many) hn;have H:=alx (F:=F) (P:=node*many) (m:=many) (by rw[hF];exact hP);refine Hc func129 rfl ?_;simp only[ntmps129,Cw,Ao,Bw,Nat.reduceAdd,Nat.reduceSub,Dd,Dc,DX,Da,Av,CT];have KR:=AA (aem M R n many node L t _ w hM hn hm aQ aP);obtain⟨P,aA⟩:∃P,node*many=P:=⟨_,rfl⟩;obtain⟨s,av⟩:∃s,Hd F many node lk=s:=⟨_,rfl⟩;have Y:=av;rw[av]at ay;unfold Hd at Y;rw[aA]at KR hP H Y;have b1:=AA aA;have b4:=AA av;have b3:=AA ay;have HF:=AA hF
 by_cases h0:node=0
 ·have hd:((node:Int) != 0)=false:=by simp[h0]
  rw[Vb h0]at Y;rw[Y]at H;have b8:=AA H;clear av aA Y hF ay hl H h0;go_upto_region 3 with(go_at_call 178;refine KR.out.mono ?_;rintro e w1 ⟨rfl,A⟩)
  obtain⟨X,a8⟩:∃W,W=w1.alloc (.cells #[slice (some ⟨R,P,none⟩) many (many*n-P)] 30):=⟨_,rfl⟩;have N:Boxed X w1.heap.size 30 (slice (some ⟨R,P,none⟩) many (many*n-P)):=by rw[a8];exact Boxed.new w1 30 _
  have a2:Br w X:=by rw[a8];exact A.alloc A.size _
  rw[<-a8];clear a8;have al:=hT.below a2;have ao:=hM.below a2;have B:AU R (spl F P s) X:=by rw[b8.out];exact(a2.block R a1).trans hR
  have au:Below R w X:=a2.mono (DP a1);have aq:R<w1.heap.size:=Af a1 A.size;obtain⟨BX,ar⟩:∃BX,w1.heap.size=BX:=⟨_,rfl⟩;rw[ar]at N aq⊢;clear hT hM hq hR A ar a2
  go_wp2_with (go_at_call 179;refine(acy M (node:Int) X).mono ?_;rintro e w' ⟨rfl,rfl⟩)
  obtain⟨y,C⟩:∃W,W=(X.alloc (.cells #[pointer (some ⟨M,0,none⟩)] 285)).alloc (.cells #[int i64 (node:Int)] 3):=⟨_,rfl⟩;have U:Br X y:=by rw[C];exact(AL _ _).alloc sm _
  have aw:Boxed y X.heap.size 285 (pointer (some ⟨M,0,none⟩)):=by rw[C];exact(Boxed.new X 285 _).alloc _
  have ab:Boxed y (X.heap.size+1) 3 (int i64 (node:Int)):=by
   rw[C];have:=Boxed.new (X.alloc (.cells #[pointer (some ⟨M,0,none⟩)] 285)) 3 (int i64 (node:Int))
   rwa[DN]at this
  rw[<-C];clear C;have aM:=ab.lt;have aj:Boxed y BX 30 (slice (some ⟨R,P,none⟩) many (many*n-P)):=(U.block _ N.lt).trans N;have aF:AU R (spl F P s) y:=(U.block _ B.lt).trans B;have ap:Below R w y:=au.trans (U.mono (DP B.lt));have aR:=B.lt;have aU:=N.lt;have aC:=ab9 t T M R X.heap.size (X.heap.size+1) many (node:Int) _ _ _ L 8 y (al.below U) hb aO (ao.below U) hL aw ab ⟨by omega,by omega,by omega,λa h=>Nat.ne_of_lt (r2 a h),λa h=>Nat.ne_of_lt (r3 a h)⟩;clear al ao aw ab B N U au
  apply KI rfl (enters_of func222 kr rfl) aC GD (JR λk hk=>hk.1) (λ_=>rfl)
   (λJ W=>Boxed W BX 30 (slice (some ⟨R,P,none⟩) many (many*n-P))/\AU R (spl F P (DV s (J.map Subtype.val))) W/\Below R w W/\y.heap.size<=W.heap.size)
   (λ_ _ _=>False)
  case hI=>exact OwnFrom.and (Own.from (boxed_own _ _ _) _) (OwnFrom.and (Own.from (acr _ _) _) (OwnFrom.and (ownFrom_below (DP a1) om) (Li _ _)))
  case hIx=>exact λ_ _ _ _ _ hs _ _=>hs
  case h0=>exact⟨aj,aF,ap,AC _⟩
  case hassign=>
   intro l x W K hK;unfold Ni
   gi_wp2
   exact hK
  case hbody=>
   rintro l' J ⟨⟨c,k⟩,hc⟩ W ⟨hx,hr,aa,hs⟩ aS;dsimp only at hc⊢;obtain⟨Z,hZ⟩:∃Z,DV s (J.map Subtype.val)=Z:=⟨_,rfl⟩;have a7:Z.length=many:=by rw[<-hZ,aaW,b3.out]
   have aL:Hid (DV s ((J++[(⟨(c,k),hc⟩:KdQ many)]).map Subtype.val)=Z.set c (k:Int)):=by rw[Hid,Aj];show DV s (J.map Subtype.val++[(c,k)])=_;rw[abW,hZ]
   rw[hZ]at hr;have HZ:=AA hZ;clear hZ;have c1:=hx.cell;have a6:c<Z.length:=by rw[a7];exact hc
   have c2:=hr.cell ((Ok (by rw[a7,HF.out];exact hP) a6).trans (Ar a6));have c3:=hr.frozen (P+c);have i1:(0:Int)<=(c:Int):=by omega
   have i2:(c:Int)<(many:Int):=by omega
   have I:=hr.set (j:=P+c) (k:Int);rw[ajT (by rw[a7,HF.out];exact hP) a6,<-aL.out]at I;have ax:=AA I;clear I
   gi_wp2
   refine⟨(Jp W ⟨R,P+c,none⟩ (int i64 (k:Int))).from y.heap.size,λb hb=>AQ _ _ _ _ (λe=>hb.2 (by simpa using e)),(AQ _ _ _ _ (by simp;omega)).trans hx,ax.out,aa.setCell sm _,by simpa using hs⟩
  case hdone=>
   rintro D zs W hD hS ⟨hx,hr,aa,hs⟩ aK;rw[hS]at hr;go_wp2;refine aon rfl aK (results_none rfl _ _ _) ⟨rfl,?_,FZ aa om om _⟩;unfold Kn;rw[b1.out,b4.out];exact(Cm om).trans hr
  case hstop=>exact λ_ _ _ _ _ _ h _=>h.elim
 ·have hd:((node:Int) != 0)=true:=by simp[h0]
  rw[Va h0]at Y;obtain⟨k,hk,aT⟩:=hl h0;rw[hk]at Y;have Y:(F.drop (k*many)).take many=s:=Y;have aX:=IE (many:=many) aT;obtain⟨KP,aJ⟩:∃KP,k*many=KP:=⟨_,rfl⟩;rw[aJ]at aX Y;have bd:=AA aJ;have be:=AA Y;clear av aA Y ay hl H h0 aJ;go_upto_region 2 with(go_at_call 178;refine KR.out.mono ?_;rintro e w1 ⟨rfl,A⟩)
  obtain⟨W2,az⟩:∃W,W=w1.alloc (.cells #[slice (some ⟨R,P,none⟩) many (many*n-P)] 30):=⟨_,rfl⟩;have ak:Boxed W2 w1.heap.size 30 (slice (some ⟨R,P,none⟩) many (many*n-P)):=by rw[az];exact Boxed.new w1 30 _
  have ag:Br w W2:=by rw[az];exact A.alloc A.size _
  rw[<-az];clear az;have aq:R<w1.heap.size:=Af a1 A.size;obtain⟨BX,ar⟩:∃BX,w1.heap.size=BX:=⟨_,rfl⟩;rw[ar]at ak aq⊢;have aI:=hM.below ag;have aW:=hT.below ag;have aN:AU q lk W2:=(ag.block q (by have:=hq.lt;omega)).trans hq;have aH:AU R F W2:=(ag.block R a1).trans hR;have o:=aH.lt;have b0:Below R w W2:=ag.mono (DP a1);have b6:=AA (λV (hV:Br W2 V)=>aem M R n many k L t _ V (aI.below hV) aT hm aQ aP);have b2:=AA aI;have b7:=AA aW;have bb:=AA aN;have b9:=AA aH;have ai:=AA ak;have HK:=AA hk;have j1:(0:Int)<=(node:Int):=by omega
  have j2:(node:Int)<(n:Int):=by omega
  clear hT hM hq hR A ag ak aI aW aN aH ar hk;refine Vh ?_;refine Vg (S:=λV=>RowKit.Below R W2 V/\Boxed V BX 30 (slice (some ⟨R,P,none⟩) many (many*n-P))) kr ⟨(AN W2 1).mono (DP o),((AN W2 1).block _ ai.out.lt).trans ai.out⟩ (λhHeld=>?_);refine tkW 0 (v:=?_) ?_ ?_;rotate_left
  ·intro V hV;have r0:=hV.2.cell
   first|(go_simp;done)|(go_simp;with_reducible rfl)
  try simp only[pq]
  refine tkA 1 ?_;refine tkA 2 ?_;refine tkA 3 ?_;refine tkA 4 ?_;refine tkW 5 (v:=?_) ?_ ?_;rotate_left
  ·intro V hV;have r0:=(b2.out.keep hV.1 (by assumption)).cells.2.2.2.2.2.2
   first|(go_simp;done)|(go_simp;with_reducible rfl)
  try simp only[pq]
  refine tkA 6 ?_;refine tkA 7 ?_;refine tkW 8 (v:=?_) ?_ ?_;rotate_left
  ·intro V hV;have r0:=AU.cell (show AU q lk V from(hV.1.block q (by assumption)).trans bb.out) HK.out
   first|(go_simp;done)|(go_simp;with_reducible rfl)
  try simp only[pq]
  refine rdy 9 (λK hK=>?_);go_simp;have aE:=b6.out W2.drew (AN W2 1);rw[bd.out]at aE
  go_at_call 178;refine aE.mono ?_;rintro e w4 ⟨rfl,aV⟩
  have af:Br W2 w4:=(AN W2 1).trans aV;refine hK.out _ _ ⟨af.mono (DP o),(af.block _ ai.out.lt).trans ai.out⟩ (λac=>?_);clear hK K hHeld;have hHeld:=ac;clear ac
  try simp only[pq]
  refine rdy 10 (λK hK=>?_);have aB:Boxed w4 BX 30 (slice (some ⟨R,P,none⟩) many (many*n-P)):=(af.block _ ai.out.lt).trans ai.out;have aG:AU R F w4:=(af.block R o).trans b9.out;have aY:P+many<=F.length:=by rw[HF.out];exact hP
  have aZ:KP+many<=F.length:=by rw[HF.out];exact aX
  refine acM kr ?_;refine ajm w4 _ _ _ _ rfl _ _ rfl rfl (aoG w4 R P KP many _ _ F _ aG aY aZ) ?_;rw[be.out];have am:=setRow_heap w4 R _ (((spl F P s).map (int i64)).toArray) _ _ aG;have ae:RowKit.Below R W2 (w4.setRow R (((spl F P s).map (int i64)).toArray)):=MF (af.mono (DP o)) (AC R) _;have N:Boxed (w4.setRow R (((spl F P s).map (int i64)).toArray)) BX 30 (slice (some ⟨R,P,none⟩) many (many*n-P)):=(setRow_other _ _ _ _ om).trans aB;obtain⟨X,a8⟩:∃W,W=w4.setRow R (((spl F P s).map (int i64)).toArray):=⟨_,rfl⟩;rw[<-a8]at am ae N⊢;have B:AU R (spl F P s) X:=am;have au:Below R w X:=b0.trans ae;have al:Tri X t T:=b7.out.keep ae (DP o) aD;have ao:=b2.out.keep ae (by assumption);clear a8 am aG aB aY aZ aE aV af;refine hK.out _ _ ⟨ae,N⟩ (λac=>?_);clear hK K hHeld ac ae
  try simp only[pq]
  refine Vj kr ?_ _;refine At ?_
  go_wp2_with (go_at_call 179;refine(acy M (node:Int) X).mono ?_;rintro e w' ⟨rfl,rfl⟩)
  obtain⟨y,C⟩:∃W,W=(X.alloc (.cells #[pointer (some ⟨M,0,none⟩)] 285)).alloc (.cells #[int i64 (node:Int)] 3):=⟨_,rfl⟩;have U:Br X y:=by rw[C];exact(AL _ _).alloc sm _
  have aw:Boxed y X.heap.size 285 (pointer (some ⟨M,0,none⟩)):=by rw[C];exact(Boxed.new X 285 _).alloc _
  have ab:Boxed y (X.heap.size+1) 3 (int i64 (node:Int)):=by
   rw[C];have:=Boxed.new (X.alloc (.cells #[pointer (some ⟨M,0,none⟩)] 285)) 3 (int i64 (node:Int))
   rwa[DN]at this
  rw[<-C];clear C;have aM:=ab.lt;have aj:Boxed y BX 30 (slice (some ⟨R,P,none⟩) many (many*n-P)):=(U.block _ N.lt).trans N;have aF:AU R (spl F P s) y:=(U.block _ B.lt).trans B;have ap:Below R w y:=au.trans (U.mono (DP B.lt));have aR:=B.lt;have aU:=N.lt;have aC:=ab9 t T M R X.heap.size (X.heap.size+1) many (node:Int) _ _ _ L 8 y (al.below U) hb aO (ao.below U) hL aw ab ⟨by omega,by omega,by omega,λa h=>Nat.ne_of_lt (r2 a h),λa h=>Nat.ne_of_lt (r3 a h)⟩;clear al ao aw ab B N U au
  apply KI rfl (enters_of func222 kr rfl) aC GD (JR λk hk=>hk.1) (λ_=>rfl)
   (λJ W=>Boxed W BX 30 (slice (some ⟨R,P,none⟩) many (many*n-P))/\AU R (spl F P (DV s (J.map Subtype.val))) W/\Below R w W/\y.heap.size<=W.heap.size)
   (λ_ _ _=>False)
  case hI=>exact OwnFrom.and (Own.from (boxed_own _ _ _) _) (OwnFrom.and (Own.from (acr _ _) _) (OwnFrom.and (ownFrom_below (DP a1) om) (Li _ _)))
  case hIx=>exact λ_ _ _ _ _ hs _ _=>hs
  case h0=>exact⟨aj,aF,ap,AC _⟩
  case hassign=>
   intro l x W K hK;unfold Ni
   gi_wp2
   exact hK
  case hbody=>
   rintro l' J ⟨⟨c,k⟩,hc⟩ W ⟨hx,hr,aa,hs⟩ aS;dsimp only at hc⊢;obtain⟨Z,hZ⟩:∃Z,DV s (J.map Subtype.val)=Z:=⟨_,rfl⟩;have a7:Z.length=many:=by rw[<-hZ,aaW,b3.out]
   have aL:Hid (DV s ((J++[(⟨(c,k),hc⟩:KdQ many)]).map Subtype.val)=Z.set c (k:Int)):=by rw[Hid,Aj];show DV s (J.map Subtype.val++[(c,k)])=_;rw[abW,hZ]
   rw[hZ]at hr;have HZ:=AA hZ;clear hZ;have c1:=hx.cell;have a6:c<Z.length:=by rw[a7];exact hc
   have c2:=hr.cell ((Ok (by rw[a7,HF.out];exact hP) a6).trans (Ar a6));have c3:=hr.frozen (P+c);have i1:(0:Int)<=(c:Int):=by omega
   have i2:(c:Int)<(many:Int):=by omega
   have I:=hr.set (j:=P+c) (k:Int);rw[ajT (by rw[a7,HF.out];exact hP) a6,<-aL.out]at I;have ax:=AA I;clear I
   gi_wp2
   refine⟨(Jp W ⟨R,P+c,none⟩ (int i64 (k:Int))).from y.heap.size,λb hb=>AQ _ _ _ _ (λe=>hb.2 (by simpa using e)),(AQ _ _ _ _ (by simp;omega)).trans hx,ax.out,aa.setCell sm _,by simpa using hs⟩
  case hdone=>
   rintro D zs W hD hS ⟨hx,hr,aa,hs⟩ aK;rw[hS]at hr;go_wp2;refine aon rfl aK (results_none rfl _ _ _) ⟨rfl,?_,FZ aa om om _⟩;unfold Kn;rw[b1.out,b4.out];exact(Cm om).trans hr
  case hstop=>exact λ_ _ _ _ _ _ h _=>h.elim
end
def NR(p:Int->Bool)(fold:Bool)(j:Nat):Prop:=p j=true/\(fold&&CF j)=false
theorem af3(p:Int->Bool)(fold:Bool){j:Nat}:∀{i:Nat},j<=i->(Ac p fold j).2<=(Ac p fold i).2
 |0,h=>by rw[Nat.le_zero.1 h];exact AC _
 |i+1,h=>by
  by_cases e:j=i+1
  ·rw[e];exact AC _
  ·have Z:=af3 p fold (j:=j) (i:=i) om;rw[Kr]
   split
   ·exact Z
   ·split
    ·exact Z
    ·exact Nat.le_succ_of_le Z
theorem akM{p:Int->Bool}{fold:Bool}{j:Nat}(h:NR p fold j):(Ac p fold (j+1)).2=(Ac p fold j).2+1:=by rw[Kr,Va (by rw[h.1];decide),Va (by rw[h.2];decide)]
theorem agb{p:Int->Bool}{fold:Bool}{j i:Nat}(h:NR p fold j)(Z:j<i):(Ac p fold j).2<(Ac p fold i).2:=by have h1:=akM h;have h2:=af3 p fold (j:=j+1) (i:=i) Z;omega
theorem aj5{p:Int->Bool}{fold:Bool}{j i:Nat}(h:NR p fold j)(Z:j<i):(Ac p fold i).1[j]?=some ((Ac p fold j).2:Int):=by rw[ajB p fold Z,Va (by rw[h.1];decide),Va (by rw[h.2];decide)]
theorem amJ{p:Int->Bool}{fold:Bool}{j i:Nat}(h:p j=false)(Z:j<i):(Ac p fold i).1[j]?=some 0:=by rw[ajB p fold Z,Vb h]
def EJ(fold:Bool)(c:Nat):Nat:=if(fold&&CF c)=true then c-32 else c
def Shut(p:Int->Bool)(fold:Bool):Prop:=∀j:Nat,(fold&&CF j)=true->p j=p ((j-32:Nat):Int)
theorem NI{p:Int->Bool}{fold:Bool}(Y:Shut p fold){c:Nat}(h:p c=true):NR p fold (EJ fold c):=by
 unfold EJ
 split
 ·rename_i Z
  refine⟨by rw[<-Y c Z];exact h,?_⟩;have h2:CF c=true:=by rw[Bq]at Z;exact Z.2
  unfold CF at h2⊢;rw[decide_eq_true_iff]at h2;have:¬(97<=((c-32:Nat):Int)/\((c-32:Nat):Int)<=122):=by omega
  rw[decide_eq_false this,Bool.and_false]
 ·rename_i Z
  exact⟨h,by simpa using Z⟩
theorem aof(fold:Bool)(c:Nat):EJ fold c<=c:=by unfold EJ;split<;>omega
def DA(p:Int->Bool)(fold:Bool)(c:Nat):Nat:=(Ac p fold (EJ fold c)).2
theorem ag8{p:Int->Bool}{fold:Bool}(X:Shut p fold){c i:Nat}(h:p c=true)(Y:c<i):(Ac p fold i).1[c]?=some (DA p fold c:Int):=by
 have ho:=NI X h;unfold DA
 by_cases Z:(fold&&CF c)=true
 ·rw[ajB p fold Y,Va (by rw[h];decide),Vb Z];have e:EJ fold c=c-32:=by unfold EJ;rw[Vb Z]
  rw[e]at ho⊢;have h2:CF c=true:=by rw[Bq]at Z;exact Z.2
  unfold CF at h2;rw[decide_eq_true_iff]at h2;rw[aj5 ho om]
  rfl
 ·have e:EJ fold c=c:=by unfold EJ;rw[Va Z]
  rw[e]at ho⊢;exact aj5 ho Y
theorem alr(p:Int->Bool)(fold:Bool)(c:Nat):1<=DA p fold c:=(Hb p fold _).1
theorem ME{p:Int->Bool}{fold:Bool}(Z:Shut p fold){c i:Nat}(h:p c=true)(Y:c<i):DA p fold c<(Ac p fold i).2:=agb (NI Z h) (Nat.lt_of_le_of_lt (aof fold c) Y)
theorem aln{p:Int->Bool}{fold:Bool}(Z:Shut p fold){c d:Nat}(X:p c=true)(Y:p d=true)(h:DA p fold c=DA p fold d):EJ fold c=EJ fold d:=by
 have h1:=NI Z X;have h2:=NI Z Y;unfold DA at h
 rcases Nat.lt_trichotomy (EJ fold c) (EJ fold d)with h3|h3|h3
 ·have:=agb h1 h3;omega
 ·exact h3
 ·have:=agb h2 h3;omega
def De(ws:Lq)(c:Int):Prop:=∃w∈ws,c∈w
theorem Kh{fold:Bool}{ws:Lq}{c:Int}(h:De ws c):inB fold ws c=true:=by obtain⟨w,h1,h2⟩:=h;unfold inB;rw[MZ];exact⟨w,h1,by rw[MZ];exact⟨c,h2,by simp⟩⟩
theorem afs{fold:Bool}{ws:Lq}{c:Int}:inB fold ws c=true↔∃x,De ws x/\(x=c∨fold=true/\CF x=true/\x-32=c):=by
 unfold inB;rw[MZ]
 constructor
 ·rintro⟨w,h1,h2⟩;rw[MZ]at h2;obtain⟨x,h3,h4⟩:=h2;refine⟨x,⟨w,h1,h3⟩,?_⟩;rw[Bool.or_eq_true,Bq,Bq,decide_eq_true_iff,decide_eq_true_iff]at h4
  rcases h4 with h4|⟨⟨h4,h5⟩,h6⟩
  ·exact .inl h4
  ·exact .inr ⟨h4,h5,h6⟩
 ·rintro⟨x,⟨w,h1,h2⟩,h3⟩;refine⟨w,h1,?_⟩;rw[MZ];refine⟨x,h2,?_⟩;rw[Bool.or_eq_true,Bq,Bq,decide_eq_true_iff,decide_eq_true_iff]
  rcases h3 with h3|⟨h3,h4,h5⟩
  ·exact .inl h3
  ·exact .inr ⟨⟨h3,h4⟩,h5⟩
def Fe(fold:Bool)(ws:Lq):Prop:=fold=true->∀x,De ws x->¬(65<=x/\x<=90)
theorem acv{fold:Bool}{ws:Lq}(Y:∀w∈ws,AO fold w=w):Fe fold ws:=by rintro rfl x ⟨w,h1,h2⟩ Z;have h:=Y w h1;unfold AO at h;rw[Vb rfl]at h;obtain⟨i,X⟩:=DR h2;have h3:=congrArg (λl=>l[i]?) h;simp only[BU,X,Dw]at h3;have h4:BE x=x:=AK h3;unfold BE at h4;rw[Vb Z]at h4;omega
theorem IF{fold:Bool}{ws:Lq}(V:Fe fold ws):Shut (inB fold ws) fold:=by
 intro j X;rw[Bq]at X;obtain⟨rfl,Y⟩:=X;have Z:=Y;unfold CF at Z;rw[decide_eq_true_iff]at Z;rw[Db,afs,afs]
 constructor
 ·rintro⟨x,h1,h2⟩;refine⟨j,?_,.inr ⟨rfl,Y,by omega⟩⟩
  rcases h2 with rfl|⟨_,h3,h4⟩
  ·exact h1
  ·unfold CF at h3;rw[decide_eq_true_iff]at h3;omega
 ·rintro⟨x,h1,h2⟩;have U:=V rfl x h1
  rcases h2 with h2|⟨_,h3,h4⟩
  ·omega
  ·obtain rfl:x=j:=by omega
   exact⟨_,h1,.inl rfl⟩
theorem agV{fold:Bool}{ws:Lq}(Z:Fe fold ws){c d:Nat}(X:De ws c)(Y:De ws d)(h:DA (inB fold ws) fold c=DA (inB fold ws) fold d):c=d:=by
 have h1:=aln (IF Z) (Kh X) (Kh Y) h;unfold EJ at h1
 cases fold with
 |false=>simpa using h1
 |true=>
  have U:=Z rfl c X;have V:=Z rfl d Y;unfold CF at h1;simp only[FJ,decide_eq_true_iff]at h1
  split at h1<;>split at h1<;>omega
end Go.Proofs.YtaamacoicojhnaaGreat
