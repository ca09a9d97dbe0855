/- Proofs over the given program, part 6. -/
import Derived.Test.YtaamacoicojhnaaGreatZO5
set_option linter.unusedVariables false
set_option linter.unusedSimpArgs false
set_option maxRecDepth 100000
set_option maxHeartbeats 16000000
open Go.Proofs.Tryz
open Go.Proofs.Tryz renaming prog→ZP
open Go.World(cell? frozen?)
open Go.Value(int slice pointer bool)
open Go.IntKind(i64)
namespace Go.Proofs.YtaamacoicojhnaaGreat
open Go.RowKit Go.Sort
theorem ae5{fn:Func}{p u v:Tmp}{tmps:Array Value}{W:World}{B:Nat}{cs:Array Value}(h:fn.results=#[.cell p 144,.tmp u,.tmp v])(X:tmps.getD p undef=pointer (some ⟨B,0,none⟩))(hB:W.heap[B]?=some (.cells cs 144 (0,0)))(Y:cs.size=256) :(results fn tmps).run ZP W=.ok (.tuple #[.agg cs,tmps.getD u undef,tmps.getD v undef]) W:=by
 have Z:tmps[p]?.getD undef=pointer (some ⟨B,0,none⟩):=by simpa using X
 simp[results,h,Z,asAddr,run_loadVar_row W B 144 144 cs (0,0) _ hB underlying144 rfl (by rw[Y];exact aiS)]
theorem KE(l:List Int):((l.map (int i64)).toArray).size=l.length:=by simp
theorem acS(l:List Int):((l.map (int i64)).toArray).all (·.oneCell')=true:=by simp[Value.oneCell']
abbrev apD(l:List Int):Value:=.agg (l.map (int i64)).toArray
theorem acM{c:Bool}{p q:Prop}(Z:c=true)(h:p):if c=true then p else q:=by rw[Vb Z];exact h
theorem akJ(fold:Bool)(a:Option Addr)(J ca:Nat)(wss:Lq)(w:World)(hA:Wds w a J wss)(a2:J<=1000000)(hM:∀x∈wss,x.length<=1000000)(hT:(Ad fold wss).length<=1000000)(hr:An fold wss=true) :Calls ZP 128 #[.agg (AM fold a J ca)] w λe w'=>e=.returned (.tuple #[apD (BF fold wss),int i64 (Ah fold wss),int i64 0])/\Br w w':=by
 obtain⟨W,hW⟩:∃W,W=(w.alloc (.cells (AM fold a J ca) 24)).alloc (.cells Tryz.zeroCells144 144):=⟨_,rfl⟩;have hB:Br w W:=by rw[hW];exact((AH _ _).alloc (AC _) _).alloc sm _
 have hO:Bx w.heap.size [.cells (AM fold a J ca) 24,.cells Tryz.zeroCells144 144] W:=by rw[hW];exact((Bx.nil _ w).snoc _ rfl).snoc _ sm
 have s0:W.cell? ⟨w.heap.size,0,none⟩=some (bool fold):=hO.cell (i:=0) rfl rfl;have s1:W.cell? ⟨w.heap.size,1,none⟩=some (slice a J ca):=hO.cell (i:=0) rfl rfl;have HC:=AA (afF fold a J ca wss W (hA.below hB) a2 hM hT hr);have HO:=AA hO;clear hr hO;go_enter func128,ntmps128;go_upto_region 1 with fail
 rw[<-hW];clear hW
 go_wp2_with fail
 refine HC.out.mono ?_;rintro e Z ⟨B,rfl,o,aa,H⟩;have h1:Z.heap[w.heap.size+1]?=some (.cells Tryz.zeroCells144 144 (0,0)):=(HO.out.below H) 1 _ rfl;rw[amX]at h1;have H1:=AA h1;have X:=AA o;obtain⟨L,hL⟩:∃L,BF fold wss=L:=⟨_,rfl⟩;obtain⟨M,C⟩:∃M:Int,(Ah fold wss:Int)=M:=⟨_,rfl⟩;rw[hL,C]at X;have a7:=AA hL;have a6:=AA C;have Y:L.length=256:=X.out.2;have hi:(ZP.info? 144).map (·.size)=some ((L.map (int i64))).length:=by rw[BP,Y];exact aiS
 have HI:=AA hi;have s:Hid (∀V,CB V B L M->V.rangeAt B 0 (L.map (int i64))/\V.cell? ⟨B,256,none⟩=some (int i64 M)):=λV h=>by refine⟨λj v hv=>?_,h.many⟩;rw[BU,Fo]at hv;obtain⟨x,hx,rfl⟩:=hv;rw[DD];exact h.cell (by have:=(AP.1 hx).1;omega) hx
 have a8:w.heap.size+1<W.heap.size:=(AD.1 (HO.out 1 _ rfl)).1;have a1:B≠w.heap.size+1:=by omega
 have U:w.heap.size+1<Z.heap.size:=by have:=H.size;omega
 clear h1 o hi s0 s1 HC hL C;go_upto_region 4 with fail
 refine Vh ?_;refine Vg (S:=λV=>CB V B L M/\RowKit.Below (w.heap.size+1) Z V) kr ⟨X.out.below (AN Z 1),(AN Z 1).mono (DP U)⟩ (λhHeld=>?_);refine tkA 0 ?_;refine tkA 1 ?_;refine tkA 2 ?_;refine tkA 3 ?_;refine' wpAnyH_take (i:=4) (v:=_) (by simp only[pD,pE,pF];rfl) kr kr kr (λ_ _ _ h=>h) (yieldsIf_load_mid (by rfl) _ _ rfl B 0 rfl (L.map (Value.int .i64)) _ (λV hV=>(s.out V hV.1).1) underlying144 rfl HI.out) (by assumption) ?_
 try simp only[pq]
 refine tkA 5 ?_;refine tkA 6 ?_;refine tkA 7 ?_;refine tkW 8 (v:=?_) ?_ ?_;rotate_left
 ·intro V hV;have r0:=(s.out V hV.1).2
  first|(go_simp;done)|(go_simp;with_reducible rfl)
 try simp only[pq]
 refine rdy 9 (λK hK=>?_);have I:Z.drew.heap[w.heap.size+1]?=some (.cells ((List.replicate 256 (0:Int)).map (int i64)).toArray 144 (0,0)):=H1.out;have y:(ZP.info? 144).map (·.size)=some (((L.map (int i64))).toArray).size:=by rw[Cw];exact HI.out
 refine acM kr ?_;refine wp_store_row 144 _ _ rfl (w.heap.size+1) _ rfl rfl 144 _ I y (by rw[KE,KE];rw[Y];rfl) (acS L) ?_;have h2:=setRow_heap Z.drew (w.heap.size+1) _ ((L.map (int i64)).toArray) _ _ I;have H2:=AA h2;have D:CB (Z.drew.setRow (w.heap.size+1) ((L.map (int i64)).toArray)) B L M/\RowKit.Below (w.heap.size+1) Z (Z.drew.setRow (w.heap.size+1) ((L.map (int i64)).toArray)):=
  ⟨⟨(setRow_other _ _ _ _ a1).trans (X.out.below (AN Z 1)).1,Y⟩,MF ((AN Z 1).mono (DP U)) (AC _) _⟩
 clear h2 I y;obtain⟨w2,A⟩:∃w2,w2=Z.drew.setRow (w.heap.size+1) ((L.map (int i64)).toArray):=⟨_,rfl⟩;rw[<-A]at H2 D⊢;clear A;refine hK.out _ _ D (λN=>?_);clear hK K hHeld;have hHeld:=N;clear N
 try simp only[pq]
 refine tkA 10 ?_;refine tkA 11 ?_;refine Vj kr ?_ _;refine At ?_
 go_wp2_with fail
 refine Vl (ae5 rfl rfl H2.out (by rw[KE];exact Y)) rfl ?_;rw[<-a7.out,<-a6.out];exact⟨rfl,hB.trans ((H.mono hB.size).trans (D.2.mono om))⟩
section
variable {ws:Lq}
theorem alj{i:Nat}{x:List Int}(Z:(AB ws)[i]?=some x):(AG ws).wrd[i]?=some (CW ws x):=by simp[AG,Z]
theorem aeh:(AG ws).up.length=(AB ws).length/\(AG ws).dep.length=(AB ws).length/\(AG ws).wrd.length=(AB ws).length/\(AG ws).byt.length=(AB ws).length:=by simp[AG]
end
def lsf(N:Lq):List Int->List Int
 |[]=>[]
 |a::t=>if(a::t)∈N then a::t else lsf N t
theorem Gb(N:Lq):∀b,lsf N b <:+b
 |[]=>List.suffix_refl _
 |a::t=>by
  unfold lsf
  split
  ·exact List.suffix_refl _
  ·exact(Gb N t).trans (List.suffix_cons a t)
theorem Id{N:Lq}(h0:[]∈N):∀b,lsf N b∈N
 |[]=>h0
 |a::t=>by
  unfold lsf
  split
  ·assumption
  ·exact Id h0 t
theorem Lv{N:Lq}{y:List Int}(Z:y∈N):∀{b},y <:+b->y.length<=(lsf N b).length
 |[],h=>by rw[List.eq_nil_of_suffix_nil h];exact AR _
 |a::t,h=>by
  unfold lsf
  split
  ·exact h.length_le
  ·rename_i Y
   rcases List.suffix_cons_iff.1 h with e|h
   ·rw[e]at Z;exact absurd Z Y
   ·exact Lv Z h
theorem Lu{N:Lq}{b:List Int}(h:b∈N):lsf N b=b:=by
 cases b with
 |nil=>rfl
 |cons a t=>unfold lsf;rw[Vb h]
theorem ajY{x y b:List Int}(Y:x <:+b)(Z:y <:+b)(h:x.length=y.length):x=y:=by obtain⟨s,rfl⟩:=Y;obtain⟨t,X⟩:=Z;exact(List.append_inj_right' X.symm om)
theorem aaP{N:Lq}{b y:List Int}(Y:y∈N)(Z:y <:+b)(h0:[]∈N)(X:∀z,z <:+b->z∈N->z.length<=y.length):lsf N b=y:=by have h1:=Lv Y Z;have h2:=X _ (Gb N b) (Id h0 b);exact ajY (Gb N b) Z om
def Pre(N:Lq):Prop:=[]∈N/\∀x c,x++[c]∈N->x∈N
theorem afk{y b:List Int}{c:Int}(h:y <:+b++[c]):y=[]∨∃z,y=z++[c]/\z <:+b:=by
 by_cases e:y=[]
 ·exact .inl e
 ·right
  obtain⟨s,Z⟩:=h;have h1:=Em e;rw[<-h1,<-CE]at Z;obtain⟨h2,h3⟩:=List.append_inj' Z rfl;refine⟨y.dropLast,?_,s,h2⟩;have h4:y.getLast e=c:=by simpa using h3
  rw[<-h4,h1]
theorem Ng{N:Lq}(V:Pre N)(s:List Int)(c:Int):lsf N (s++[c])=lsf N (lsf N s++[c]):=by
 refine aaP (Id V.1 _) ?_ V.1 (λz I J=>?_)
 ·refine(Gb N _).trans ?_;obtain⟨t,Y⟩:=Gb N s;exact⟨t,by rw[<-CE,Y]⟩
 ·rcases afk I with rfl|⟨y,rfl,U⟩
  ·exact AR _
  ·have Z:=V.2 _ _ J;have X:=Lv Z U;refine Lv J ?_;obtain⟨t,Y⟩:=List.suffix_of_suffix_length_le U (Gb N s) X;exact⟨t,by rw[<-CE,Y]⟩
def EC(N:Lq)(x:List Int):List Int:=lsf N x.tail
def GH(N:Lq):Nat->List Int->Lq
 |0,x=>[x]
 |n+1,x=>if x=[] then [x] else x::GH N n (EC N x)
theorem Lx{N:Lq}{x:List Int}(h:x≠[]):(EC N x).length<x.length:=by have h1:=(Gb N x.tail).length_le;have:x.length≠0:=λe=>h (Bz e);rw[List.length_tail]at h1;unfold EC;omega
theorem afr(N:Lq)(n:Nat)(x:List Int):∃l,GH N n x=x::l:=by
 cases n with
 |zero=>exact⟨[],rfl⟩
 |succ n=>
  unfold GH
  split
  ·exact⟨[],rfl⟩
  ·exact⟨_,rfl⟩
theorem ady{N:Lq}{c:Int}(h:[c] ∉ N):lsf N [c]=[]:=by
 unfold lsf;rw[Va h]
 rfl
theorem Oh{N:Lq}(Y:Pre N)(c:Int):∀{n:Nat}{x:List Int},x∈N->x.length<=n->
  lsf N (x++[c])=match (GH N n x).find? (λy=>decide (y++[c]∈N))with|some y=>y++[c]|none=>[]
 |n,x,hx,hn=>by
  by_cases hk:x++[c]∈N
  ·rw[Lu hk];obtain⟨l,V⟩:=afr N n x;rw[V,List.find?_cons,Ve hk]
  ·cases n with
   |zero=>
    have:x=[]:=Bz om;subst this;have Z:[c] ∉ N:=hk;show lsf N [c]=_;rw[ady Z];unfold GH;rw[List.find?_cons,decide_eq_false hk]
    rfl
   |succ n=>
    unfold GH
    by_cases e:x=[]
    ·subst e;have Z:[c] ∉ N:=hk;show lsf N [c]=_;rw[ady Z,Vb rfl,List.find?_cons,decide_eq_false hk]
     rfl
    ·rw[Va e,List.find?_cons,decide_eq_false hk];dsimp only;have X:=Oh Y c (n:=n) (x:=EC N x) (Id Y.1 _) (by have:=Lx (N:=N) e;omega);rw[<-X];unfold EC;rw[<-Ng Y]
     cases x with
     |nil=>exact absurd rfl e
     |cons a t=>
      have Z:a::(t++[c]) ∉ N:=hk;show lsf N (a::(t++[c]))=lsf N (t++[c])
      conv=>lhs;unfold lsf
      rw[Va Z]
theorem KQ(ws:Lq):Pre (AB ws):=
 ⟨(DT ws).2 (.inl rfl),λx c h=>by have:=((DT ws).1 h).up;rw[LJ]at this;exact(DT ws).2 this⟩
theorem agl{N:Lq}{M:Nat}(h0:[]∈N)(X:∀y∈N,y.length<=M)(b:List Int):lsf N (b.drop (b.length-M))=lsf N b:=by
 symm
 refine aaP (Id h0 _) ((Gb N _).trans (List.drop_suffix _ _)) h0 (λz Z Y=>?_);refine Lv Y (List.suffix_of_suffix_length_le Z (List.drop_suffix _ _) ?_);have h1:=X z Y;have h2:=Z.length_le;rw[List.length_drop];omega
theorem al2{N:Lq}{b:List Int}{k:Nat}(hk:k<b.length)(h:b.drop k ∉ N):lsf N (b.drop k)=lsf N (b.drop (k+1)):=by
 rw[List.drop_eq_getElem_cons hk]at h⊢
 conv=>lhs;unfold lsf
 rw[Va h]
theorem afH{ws:Lq}{i k:Nat}{x y:List Int}(V:(AB ws)[i]?=some x)(Z:(AB ws)[k]?=some y)(h:y.length<x.length):k<i:=by
 have h1:=(AP.1 V);have h2:=(AP.1 Z)
 rcases Nat.lt_trichotomy k i with Y|rfl|X
 ·exact Y
 ·rw[V]at Z;have:=AK Z;rw[this]at h;omega
 ·have:=List.pairwise_iff_getElem.1 (CL ws) i k h1.1 h2.1 X;rw[h1.2,h2.2]at this;have:=ag6 this;omega
def Gc(ws:Lq)(x:List Int):Int:=CW (AB ws) (EC (AB ws) x)
def Bo(ws:Lq):List Int:=(AB ws).map (Gc ws)
theorem acQ{ws:Lq}(x:List Int):∃k:Nat,Gc ws x=k/\(AB ws)[k]?=some (EC (AB ws) x):=by have Z:=Id (KQ ws).1 x.tail;obtain⟨k,hk⟩:=DR Z;exact⟨k,CV (CL ws).nodup hk,hk⟩
theorem anK{ws:Lq}{x:List Int}{c:Int}(h0:x≠[]):EC (AB ws) (x++[c])=lsf (AB ws) (EC (AB ws) x++[c]):=by
 unfold EC;rw[<-Ng (KQ ws)]
 cases x with
 |nil=>exact absurd rfl h0
 |cons a t=>rfl
theorem akI{ws:Lq}(c:Int):EC (AB ws) [c]=[]:=rfl
def an1(b e:List Int):Bool:=decide (e.length<=b.length)&&decide (b.drop (b.length-e.length)=e)
theorem ajO{b e:List Int}:an1 b e=true↔e <:+b:=by
 unfold an1;rw[Bq,decide_eq_true_iff,decide_eq_true_iff]
 constructor
 ·rintro⟨_,h⟩;exact List.suffix_iff_eq_drop.2 h.symm
 ·intro h;exact⟨h.length_le,(List.suffix_iff_eq_drop.1 h).symm⟩
section
variable {ws:Lq}
theorem alt(b:List Int)(c:Int):an1 (b++[c]) (lsf (AB ws) (b++[c]))=true/\(lsf (AB ws) (b++[c])).length<=(lsf (AB ws) b).length+1/\lsf (AB ws) (b++[c])=lsf (AB ws) (lsf (AB ws) b++[c]):=by have h:=Ng (KQ ws) b c;refine⟨ajO.2 (Gb _ _),?_,h⟩;rw[h];have:=(Gb (AB ws) (lsf (AB ws) b++[c])).length_le;rw[List.length_append,OK]at this;exact this
end
section
open Go Go.RowKit Go.Sort
def Dp(U B:List Int):Nat->Int×Int->Option Int
 |0,_=>none
 |j+1,q=>if q=((U[j+1]?).getD 0,(B[j+1]?).getD 0) then some ((j:Int)+1) else Dp U B j q
theorem acF{U B:List Int}{q:Int×Int}{k:Int}:∀{j:Nat},Dp U B j q=some k->∃i:Nat,1<=i/\i<=j/\k=i/\q=((U[i]?).getD 0,(B[i]?).getD 0)
 |0,h=>by simp[Dp]at h
 |j+1,h=>by
  unfold Dp at h
  split at h
  ·rename_i Z
   exact⟨j+1,by omega,AC _,by have:=AK h;omega,Z⟩
  ·obtain⟨i,h1,h2,h3⟩:=acF h;exact⟨i,h1,by omega,h3⟩
theorem acw{U B:List Int}{q:Int×Int}:∀{j:Nat},Dp U B j q=none->∀i:Nat,1<=i->i<=j->q≠((U[i]?).getD 0,(B[i]?).getD 0)
 |0,h,i,h1,h2=>by omega
 |j+1,h,i,h1,h2=>by
  unfold Dp at h
  split at h
  ·cases h
  ·rename_i Z
   by_cases e:i=j+1
   ·subst e;exact Z
   ·exact acw h i h1 om
section
variable {ws:Lq}
theorem EM{i:Nat}{x:List Int}(Z:(AB ws)[i]?=some x):i=0↔x=[]:=by
 have h0:=CM ws
 constructor
 ·rintro rfl;rw[h0]at Z;exact(AK Z).symm
 ·rintro rfl;have h1:=CV (CL ws).nodup Z;have h2:=CV (CL ws).nodup h0;omega
theorem alO{i k:Nat}{x:List Int}(Z:(AB ws)[i]?=some x)(hk:(AB ws)[k]?=some x):i=k:=by have h1:=CV (CL ws).nodup Z;have h2:=CV (CL ws).nodup hk;omega
theorem JC{i:Nat}{y:List Int}(Z:(AB ws)[i]?=some y):(AG ws).up[i]?=some (CW (AB ws) y.dropLast)/\(AG ws).byt[i]?=some (DU y)/\(AG ws).dep[i]?=some (y.length:Int)/\(AG ws).wrd[i]?=some (CW ws y):=by simp[AG,Z]
theorem LR{y:List Int}(Z:y∈AB ws):y.dropLast∈AB ws:=(DT ws).2 ((DT ws).1 Z).up
theorem Om{y:List Int}(h:y≠[]):y=y.dropLast++[DU y]:=by obtain⟨q,Z⟩:∃q,y.length=q+1:=⟨y.length-1,by have:y.length≠0:=λe=>h (Bz e);omega⟩;unfold DU;rw[MV h];exact(Em h).symm
theorem ajk{z:Nat}{x:List Int}(D:(AB ws)[z]?=some x)(c:Int) :Dp (AG ws).up (AG ws).byt ((AB ws).length-1) ((z:Int),c)=if x++[c]∈AB ws then some (CW (AB ws) (x++[c])) else none:=by
 have Z:=(CL ws).nodup
 cases e:Dp (AG ws).up (AG ws).byt ((AB ws).length-1) ((z:Int),c)with
 |some k=>
  obtain⟨i,h1,h2,rfl,N⟩:=acF e;obtain⟨y,Y⟩:∃y,(AB ws)[i]?=some y:=⟨(AB ws)[i]'om,by simp⟩;obtain⟨u1,X,_⟩:=JC Y;rw[u1,X]at N;simp only[CG,Jk]at N;have V:y≠[]:=λe2=>by have:=(EM Y).2 e2;omega
  obtain⟨j,I⟩:=DR (LR (AX Y));have v:=CV Z I;have J:j=z:=by omega
  subst J;rw[D]at I;have U:x++[c]=y:=by rw[AK I,N.2];exact(Om V).symm
  rw[U,Vb (AX Y),CV Z Y]
 |none=>
  rw[Va];intro C;obtain⟨i,H⟩:=DR C;have B:=(AP.1 H).1;have A:i≠0:=λe2=>by have:=(EM H).1 e2;simp at this
  obtain⟨u1,X,_⟩:=JC H;refine acw e i om om ?_;rw[u1,X];simp only[CG,Jk,LJ];refine⟨(CV Z D).symm,?_⟩;simp[DU]
def chN(L:List Int):Nat->Nat->List Nat
 |0,z=>[z]
 |f+1,z=>if z=0 then [z] else z::chN L f ((L[z]?).getD 0).toNat
def IK(ws:Lq)(L:List Int)(i:Nat):Prop:=∀(j:Nat)(x:List Int),j<i->(AB ws)[j]?=some x->L[j]?=some (Gc ws x)
theorem IK.at_{L:List Int}{i z:Nat}(h:IK ws L i){x:List Int}(X:z<i)(Z:(AB ws)[z]?=some x)(h0:z≠0):∃k:Nat,L[z]?=some (k:Int)/\k<z/\(AB ws)[k]?=some (EC (AB ws) x):=by obtain⟨k,h1,h2⟩:=acQ (ws:=ws) x;have Y:=h z x X Z;rw[h1]at Y;refine⟨k,Y,afH Z h2 (Lx λe=>h0 ((EM Z).2 e)),h2⟩
theorem adl{L:List Int}{i:Nat}(h:IK ws L i):∀{f g z:Nat}{x:List Int},z<i->z<=f->(AB ws)[z]?=some x->x.length<=g->(chN L f z).map (λk=>(AB ws)[k]?)=(GH (AB ws) g x).map some
 |0,g,z,x,hz,hf,hx,hg=>by
  obtain rfl:z=0:=by omega
  have Z:=(EM hx).1 rfl;subst Z
  cases g<;>simp[chN,GH,hx]
 |f+1,g,z,x,hz,hf,hx,hg=>by
  unfold chN
  by_cases h0:z=0
  ·subst h0;have Z:=(EM hx).1 rfl;subst Z
   cases g<;>simp[GH,hx]
  ·have Z:x≠[]:=λe=>h0 ((EM hx).2 e);obtain⟨k,h1,h2,h3⟩:=h.at_ hz hx h0;obtain⟨g',rfl⟩:∃g',g=g'+1:=⟨g-1,by have:x.length≠0:=λe=>Z (Bz e);omega⟩;unfold GH;rw[Va h0,Va Z,h1,BO,BO,hx,CG,Aa,adl (g:=g') h om om h3 (by have:=Lx (N:=AB ws) Z;omega)]
theorem alI{L:List Int}{i f g z0:Nat}(h:IK ws L i){x:List Int}(V:z0<i)(I:z0<=f)(U:(AB ws)[z0]?=some x)(J:x.length<=g){p:List Nat}{r:List Nat}(N:chN L f z0=p++r) :∃Y Z,GH (AB ws) g x=Y++Z/\p.map (λk=>(AB ws)[k]?)=Y.map some/\r.map (λk=>(AB ws)[k]?)=Z.map some:=by have X:=adl h V I U J;rw[N,Aj]at X;obtain⟨Y,Z,h1,h2,h3⟩:=List.map_eq_append_iff.1 X.symm;exact⟨Y,Z,h1,h2.symm,h3.symm⟩
theorem ael{c:Int}{p:List Nat}{Y:Lq}(V:p.map (λk=>(AB ws)[k]?)=Y.map some)(U:∀y∈p,Dp (AG ws).up (AG ws).byt ((AB ws).length-1) ((y:Int),c)=none):∀y∈Y,¬(y++[c]∈AB ws):=by
 intro y X N;have:some y∈p.map (λk=>(AB ws)[k]?):=by rw[V];exact List.mem_map_of_mem X
 obtain⟨k,hk,Z⟩:=Be.1 this;have h1:=U k hk;rw[ajk Z,Vb N]at h1
 cases h1
theorem aiZ{L:List Int}{i f z0 z:Nat}(h:IK ws L i){x:List Int}(N:z0<i)(C:z0<=f)(X:(AB ws)[z0]?=some x){p r:List Nat}{c k:Int}(I:chN L f z0=p++[z]++r)
  (D:∀y∈p,Dp (AG ws).up (AG ws).byt ((AB ws).length-1) ((y:Int),c)=none) (hk:Dp (AG ws).up (AG ws).byt ((AB ws).length-1) ((z:Int),c)=some k):k=CW (AB ws) (lsf (AB ws) (x++[c])):=by
 obtain⟨A,B,h1,h2,_⟩:=alI h N C X (AC _) I;rw[Aj]at h2;obtain⟨U,Y,rfl,h3,h4⟩:=List.map_eq_append_iff.1 h2.symm;obtain⟨y,rfl,J⟩:∃y,Y=[y]/\(AB ws)[z]?=some y:=by
  cases Y with
  |nil=>simp at h4
  |cons y t=>
   cases t with
   |nil=>exact⟨y,rfl,by simpa using h4.symm⟩
   |cons _ _=>simp at h4
 rw[ajk J]at hk;have V:y++[c]∈AB ws:=by
  by_cases e:y++[c]∈AB ws
  ·exact e
  ·rw[Va e]at hk;cases hk
 rw[Vb V]at hk;rw[Oh (KQ ws) c (AX X) (AC _),h1];have Z:U.find? (λy=>decide (y++[c]∈AB ws))=none:=by
  rw[List.find?_eq_none];intro q H
  simpa using ael h3.symm D q H
 rw[CE,List.find?_append,Z];simp[V];exact(AK hk).symm
theorem ajN{L:List Int}{i f z0:Nat}(h:IK ws L i){x:List Int}(X:z0<i)(N:z0<=f)(Y:(AB ws)[z0]?=some x){c:Int}
  (U:∀y∈chN L f z0,Dp (AG ws).up (AG ws).byt ((AB ws).length-1) ((y:Int),c)=none):(0:Int)=CW (AB ws) (lsf (AB ws) (x++[c])):=by
 have J:=adl h X N Y (AC _);rw[Oh (KQ ws) c (AX Y) (AC _)];have Z:(GH (AB ws) x.length x).find? (λy=>decide (y++[c]∈AB ws))=none:=by
  rw[List.find?_eq_none];intro q V
  simpa using ael J U q V
 rw[Z];have:=CV (CL ws).nodup (CM ws);simp[this]
theorem JP{j:Nat}{x:List Int}(Z:(AB ws)[j]?=some x):(Bo ws)[j]?=some (Gc ws x):=by simp[Bo,Z]
theorem aiJ(ws:Lq)(i:Nat):IK ws (Bo ws) i:=λj x _ Z=>JP Z
theorem am7{j u:Nat}{x:List Int}(V:(AB ws)[j]?=some x)(h0:j≠0)(N:(AG ws).up[j]?=some (u:Int)) :∃y,(AB ws)[u]?=some y/\u<j/\(AG ws).byt[j]?=some (DU x)/\x=y++[DU x]/\(u=0->Gc ws x=0)/\(u≠0->∃(k:Nat)(v:List Int),Gc ws y=k/\(AB ws)[k]?=some v/\Gc ws x=CW (AB ws) (lsf (AB ws) (v++[DU x]))):=by
 have Y:x≠[]:=λe=>h0 ((EM V).2 e);obtain⟨u1,J,_⟩:=JC V;obtain⟨q,X⟩:=DR (LR (AX V));have I:=CV (CL ws).nodup X;rw[u1,I]at N;obtain rfl:q=u:=by have:=AK N;omega
 have Z:=Om Y;refine⟨x.dropLast,X,afH V X (by rw[List.length_dropLast];have:x.length≠0:=λe=>Y (Bz e);omega),J,Z,λe=>?_,λe=>?_⟩
 ·have U:x.dropLast=[]:=(EM X).1 e;rw[U]at Z;unfold Gc;rw[Z];show CW (AB ws) (EC (AB ws) ([]++[DU x]))=0;rw[Av,akI];exact CV (CL ws).nodup (CM ws)
 ·have U:x.dropLast≠[]:=λe2=>e ((EM X).2 e2);obtain⟨k,h1,h2⟩:=acQ (ws:=ws) x.dropLast;refine⟨k,_,h1,h2,?_⟩;rw[<-anK U,<-Z]
  rfl
end
end
section
abbrev Sv:=Option Addr×Nat×Nat
abbrev svV(v:Sv):Value:=slice v.1 v.2.1 v.2.2
structure GM(g n:Nat)(l:Lq)(W:World):Prop where
 ex:∃vs:List Sv,W.heap[g]?=some (.cells (vs.map svV).toArray 32 (0,0))/\vs.length=n/\l.length<=n/\∀(i:Nat)(v:Sv)(x:List Int),vs[i]?=some v->l[i]?=some x->Bys W v.1 v.2.1 x/\v.2.1<=v.2.2
theorem aj9:(ZP.info? 32).map (λi=>(i.zero,i.size,i.bytes))=some (some (slice none 0 0),1,24):=by kernel_rfl
def GW(n:Nat):Array Value:=Array.replicate n (slice none 0 0)
theorem agW(n:Nat):madeCells (slice none 0 0).cells n=GW n:=by
 apply Array.ext
 ·simp[madeCells,GW]
 ·intro i h1 h2;simp[madeCells,GW,Value.cells,Nat.mod_one]
theorem aiI{T:Ay}{i:Nat}(Y:1<=i)(h:Cy T i=none):∀k,i<=k->Cy T k=none:=by
 intro k hk;obtain⟨d,rfl⟩:∃d,k=i+d:=⟨k-i,by omega⟩;clear hk
 induction d with
 |zero=>exact h
 |succ d ih=>
  obtain⟨j,Z⟩:∃j,i+d=j+1:=⟨i+d-1,by omega⟩;rw[show i+(d+1)=j+2 by omega];unfold Cy;rw[<-Z,ih]
  rfl
theorem Bys.setSl{w:World}{a:Option Addr}{n:Nat}{x:List Int}(h:Bys w a n x){g i:Nat}{N:List Sv}{t:TypeId}(H:w.heap[g]?=some (.cells (N.map svV).toArray t (0,0)))(u:Value):Bys (w.setCell ⟨g,i,none⟩ u) a n x:=by
 refine⟨⟨h.1.1,?_⟩,h.2⟩
 rcases h.1.2 with h0|⟨b,off,e,Z,U⟩
 ·exact .inl h0
 ·by_cases I:x=[]
  ·left;have:=h.1.1;rw[I]at this;simpa using this.symm
  ·refine .inr ⟨b,off,e,by simpa[World.setCell]using Z,λj y V=>?_⟩;have X:g≠b:=by
    rintro rfl;have Y:=U j y V;rw[cell_of_row w g (off+j) _ _ _ H]at Y;simp only[Dy,BU,Fo]at Y;obtain⟨v,_,J⟩:=Y
    cases J
   rw[OG _ _ _ _ X];exact U j y V
theorem GM.step{g n i:Nat}{l:Lq}{W U:World}(s:GM g n l W)(A:l.length=i)(o:i<n)(hB:Br W U){a:Option Addr}{m c:Nat}{x:List Int}(D:Bys U a m x)(C:m<=c) :GM g n (l++[x]) (U.setCell ⟨g,i,none⟩ (slice a m c)):=by
 obtain⟨H,Y,N,B,X⟩:=s.ex;have h2:U.heap[g]?=_:=(hB.block g (AD.1 Y).1).trans Y;refine⟨H.set i (a,m,c),?_,by simp[N],by simp;omega,λj v y V Z=>?_⟩
 ·have:=AJ (i:=i) h2 (slice a m c)
  simpa[Is,svV]using this
 ·by_cases I:j=i
  ·subst I;rw[FU om]at V;obtain rfl:=AK V;rw[<-A,MX]at Z;obtain rfl:=AK Z;exact⟨D.setSl h2 _,C⟩
  ·rw[FH (Ne.symm I)]at V;have J:=(AP.1 Z).1;rw[By (by simp at J;omega)]at Z;obtain⟨h3,h4⟩:=X j v y V Z;exact⟨(h3.below hB).setSl h2 _,h4⟩
theorem Ol{T:Ay}:∀{i:Nat}{l:Lq},Cy T i=some l->∀x∈l,x.length<i
 |0,l,h=>by simp[Cy]at h
 |1,l,h=>by simp[Cy]at h;subst h;simp
 |i+2,l,h=>by
  unfold Cy at h;obtain⟨V,h0,h1⟩:=Io.1 h;have Y:=Ol h0
  split at h1
  ·split at h1
   ·obtain⟨p,X,rfl⟩:=Fo.1 h1;intro x Z
    rcases Bf.1 Z with Z|Z
    ·have:=Y x Z;omega
    ·rw[Fq]at Z;subst Z;have:=Y p (AX X);simp;omega
   ·cases h1
  ·cases h1
theorem Mt{P:Program}{w:World}{V:Array Oper}{o:Oper}{a:Act}{K:Act->World->Prop}{Q:Exit->Act->World->Prop}{E:Prop}(H:o.guard=none)(s x:Operand)(t:TypeId)
  (ho:o.op=.call {callee:=.builtin .append,args:=#[s,x],argTypes:=#[t,t]}) {α:Type} {enc:α->Value} (N:∀x,(enc x).oneCell'=true)
  (base:Nat) (e:TypeId) (i:TypeInfo) (z:Value) (bytes:Nat) (ht:P.underlying t=some (.slice e)) (hi:P.info? e=some i) (B:i.zero=some z) (Y:i.size=1) (D:i.bytes=bytes) (J:z.cells.size=1)
  (v:Value) (n:Nat) (xs:List Value) (hs:a.eval s=v) (U:w.ownsRow base e 1 v n xs) (A:Option Addr) (m c:Nat) (ys:List α) (y:a.eval x=slice A m c) (I:Sl1 enc w A m ys)
  (C:n+m<=maxLen) (Z:(n+m)*bytes<=140737488355328) (X:base<=w.heap.size)
  (h:∀v' w',w'.ownsRow base e 1 v' (n+m) (xs++ys.map enc)->w.grownBy w' v.ownBlock->(v'.ownBlock=v.ownBlock∨v'.ownBlock=some w.heap.size)->K (a.put o.dst v') w') :
  if Region.wanted o (yielded V a.tmps)=true then Oper.wp P o a w K Q else E:=by
 have j:Region.wanted o (yielded V a.tmps)=true:=by simp[Region.wanted,H]
 rw[Vb j];obtain⟨v',w',hr,h2,h3,h4⟩:=aak (P:=P) N w base t o.type e i z bytes ht hi B Y D J v n xs U A m c ys I C Z X;unfold Oper.wp execOp;simp only[ho,resolve,invoke,builtin,IN,IM,Result.andThen_ok,LI,BO,DE,hs,y,hr];exact h v' w' h2 h3 h4
attribute[local go_sem ↓] Go.wp_at_zero Go.wp_at_succ
theorem ajf(t:TV)(T:Ay)(w:World)(hT:Tri w t T)(hb:t.un<=140737488351232) :Calls ZP 276 #[.agg t.cells] w λe w'=>(∀D,spO T=some D->∃g,e=.returned (.tuple #[slice (some ⟨g,0,none⟩) D.length D.length,bool true])/\w.heap.size<=g/\GM g D.length D w')/\(spO T=none->e=.returned (.tuple #[slice none 0 0,bool false]))/\Br w w':=by
  obtain⟨ua,un,uc,da,dn,dc,xa,xn,xc,ba,bn,bc⟩:=t;dsimp only at hb;obtain⟨W,hW⟩:∃W,W=w.alloc (.cells #[slice ua un uc,slice da dn dc,slice xa xn xc,slice ba bn bc] 150):=⟨_,rfl⟩;have hB:Br w W:=by rw[hW];exact AL _ _
  have hO:Bx w.heap.size [.cells #[slice ua un uc,slice da dn dc,slice xa xn xc,slice ba bn bc] 150] W:=by rw[hW];exact(Bx.nil _ w).snoc _ rfl
  have ak:=hT.below hB
  by_cases af:1<=un/\un<=400/\bn=un/\dn=un/\xn=un
  ·
    obtain⟨h1,h2,e1,e2,e3⟩:=af;subst e1 e2 e3;have HO:Hid (spO T=Cy T xn):=by unfold Hid spO;rw[hT.up.1,hT.byt.1.1,hT.dep.1,hT.wrd.1,Vb ⟨h1,h2,rfl,rfl,rfl⟩]
    have c0:W.cell? ⟨w.heap.size,0,none⟩=some (slice ua _ uc):=hO.cell (i:=0) rfl rfl;have c1:W.cell? ⟨w.heap.size,1,none⟩=some (slice da _ dc):=hO.cell (i:=0) rfl rfl;have c2:W.cell? ⟨w.heap.size,2,none⟩=some (slice xa _ xc):=hO.cell (i:=0) rfl rfl;have c3:W.cell? ⟨w.heap.size,3,none⟩=some (slice ba _ bc):=hO.cell (i:=0) rfl rfl;have ay:∀V:World,(Instr.makeSlice 22 (int i64 xn) (int i64 xn)).run ZP V=.ok (slice (some ⟨V.heap.size,0,none⟩) xn xn) (V.alloc (.cells (GW xn) 32)):=λV=>by
      obtain⟨i0,hi,B,J,C⟩:=Vk aj9;have h:=run_makeSlice (P:=ZP) (w:=V) 22 32 i0 (.slice none 0 0) underlying22 hi B .i64 .i64 (xn:Int) (xn:Int) om om (by rw[J];omega) (by rw[C];omega) om;rw[J]at h;have e1:(xn:Int).toNat*1=xn:=by omega
      rw[e1,agW,Aa]at h;exact h
    go_enter func276,ntmps276;go_upto_region 1 with fail
    rw[<-hW];clear hW;go_upto_region 5 with fail
    clear ay c0 c1 c2 c3;obtain⟨V,hV⟩:∃V,V=W.alloc (.cells (GW xn) 32):=⟨_,rfl⟩;obtain⟨g,hg⟩:∃g,g=W.heap.size:=⟨_,rfl⟩;have hR:GM g xn [[]] V:=by
      rw[hV,hg];refine⟨List.replicate xn (none,0,0),?_,by simp,by simpa using h1,λi v x y hx=>?_⟩
      ·rw[AT];simp[GW,svV]
      ·
        rw[Jo]at y
        split at y
        ·
          obtain rfl:=AK y
          cases i with
          |zero=>simp at hx;subst hx;exact⟨Bys.nil _ _,AC _⟩
          |succ i=>simp at hx
        ·cases y
    have X:Br W V:=by rw[hV];exact AL _ _
    have a8:=hO.below X;rw[<-hV,<-hg];clear hV;have HG:=AA hg;clear hg;go_wp2
    go_loopw[6,7] (λs6 _ wr=>∃(i:Nat)(l:Lq),1<=i/\i<=xn/\s6=int i64 i/\Hid (Cy T i=some l)/\GM g xn l wr/\Br W wr/\Bx w.heap.size [.cells #[slice ua xn uc,slice da xn dc,slice xa xn xc,slice ba xn bc] 150] wr) (λs6 _ _=>xn-(intOf s6).toNat)
    case atStart=>exact⟨1,[[]],AC _,h1,rfl,rfl,hR,X,a8⟩
    case round=>
      clear hR X a8;obtain⟨i,l,aW,aV,rfl,HS,hR,X,a8⟩:=hrel;have c0:wr.cell? ⟨w.heap.size,0,none⟩=some (slice ua xn uc):=a8.cell (i:=0) rfl rfl
      by_cases ag:i<xn
      ·
        have aA:decide ((i:Int)<xn)=true:=by simp;omega
        obtain⟨b0,o0,u,aF,aT,cu,hu⟩:=DG (ak.up.below X) ag;subst aF;have HU:=AA hu;clear hu
        by_cases aw:0<=u/\u<i
        ·
          have ap:decide (u<0)=false:=by simp;omega
          have aB:decide ((i:Int)<=u)=false:=by simp;omega
          obtain⟨k,rfl⟩:∃k:Nat,u=k:=⟨u.toNat,by omega⟩;have aU:k<i:=by omega
          clear aw;obtain⟨vs,A,aR,az,ae⟩:=hR.ex;have ao:l.length=i:=Mv HS.out;obtain⟨⟨va,H,vc⟩,y⟩:∃v,vs[k]?=some v:=⟨vs[k]'om,by simp⟩;obtain⟨p,hp⟩:∃p,l[k]?=some p:=⟨l[k]'om,by simp⟩;obtain⟨s,av⟩:=ae k _ _ y hp;dsimp only at s av;obtain⟨b3,o3,c,rfl,aE,cb,hc⟩:=DG (ak.byt.1.below X) ag;have aC:=ak.byt.2 c (AX hc);have aL:Hid (Cy T (i+1)=some (l++[p++[c]])):=by
            obtain⟨j,rfl⟩:∃j,i=j+1:=⟨i-1,by omega⟩;show Cy T (j+1+1)=_;unfold Cy;rw[HS.out,EV,HU.out,hc];dsimp only;rw[Vb (show 0<=(k:Int)/\(k:Int)<(j:Int)+1 by omega),Aa,hp]
            rfl
          have aM:Hid (p.length<i):=Ol HS.out p (AX hp);have ai:g<wr.heap.size:=(AD.1 A).1;have HK:Hid (∀w',Br wr w'->w'.cell? ⟨g,k,none⟩=some (slice va H vc)/\w'.cell? ⟨w.heap.size,3,none⟩=some (slice (some ⟨b3,o3,none⟩) xn bc)/\w'.cell? ⟨b3,o3+i,none⟩=some (.int .u8 c)):=by intro w' U;have aI:=a8.below U;refine⟨?_,aI.cell (i:=0) rfl rfl,(U.cell (p:=⟨b3,o3+i,none⟩) aE).trans cb⟩;rw[cell_of_row w' g k _ _ _ ((U.block g ai).trans A)];simp[y,svV]
          have aP:w.heap.size<g:=by have h:=HG.out;have:=hO 0 _ rfl;have:=(AD.1 this).1;omega
          have aK:g≠b3:=by
            rintro rfl;rw[cell_of_row wr g _ _ _ _ A]at cb;simp only[Dy,BU,Fo]at cb;obtain⟨v,_,y⟩:=cb
            cases y
          have aO:Hid (∀w',Br wr w'->∀u,(w'.setCell ⟨g,i,none⟩ u).cell? ⟨g,k,none⟩=some (slice va H vc)/\(w'.setCell ⟨g,i,none⟩ u).cell? ⟨w.heap.size,3,none⟩=some (slice (some ⟨b3,o3,none⟩) xn bc)/\(w'.setCell ⟨g,i,none⟩ u).cell? ⟨b3,o3+i,none⟩=some (.int .u8 c)):=by
            intro w' U u;obtain⟨_,h2,h3⟩:=HK.out w' U;refine⟨?_,?_,?_⟩
            ·rw[cell_of_row _ g k _ _ _ (AJ (i:=i) ((U.block g ai).trans A) u),Array.getElem?_setIfInBounds_ne om];simp[y,svV]
            ·rw[OG _ _ _ _ (by show g≠w.heap.size;omega)];exact h2
            ·rw[OG _ _ _ _ aK];exact h3
          have HF:Hid (∀w',Br wr w'->w'.cell? ⟨g,i,none⟩=some (svV (vs[i]'om))/\w'.frozen? ⟨g,i,none⟩=false):=by
            intro w' U;have:=(U.block g ai).trans A;refine⟨?_,by simp[frozen?,this]⟩;rw[cell_of_row w' g i _ _ _ this,Dy,BU,Ar om]
            rfl
          clear cb hc y hp ae A az;go_wp2;have au:Br wr wr.drew:=(AH _ _).drew;have i1:k<xn:=by omega
          have i2:(0:Int)<=(k:Int):=by omega
          have i3:(k:Int)<(xn:Int):=by omega
          have i4:(0:Int)<=(i:Int):=by omega
          have i5:(i:Int)<(xn:Int):=by omega
          obtain⟨k1,k2,k3⟩:=HK.out wr (AH _ _);have f0:=HF.out wr (AH _ _);have ax:Bys wr.drew va H p:=s.below ((AH _ _).drew);have aQ:H<400:=by have:=aM.out;have:=s.len;omega
          obtain⟨i0,hi,B,J,C⟩:=Vk Gs;have al:∀o,Br wr (wr.alloc o).drew:=λo=>((AH _ _).alloc (AC _) o).drew;have am:∀o,Bys (wr.alloc o).drew va H p:=λo=>s.below (al o);have ab:∀o,wr.heap.size<=(wr.alloc o).drew.heap.size:=λo=>(al o).size;have aG:∀(c:Int)(t:TypeId),Sl1 (Value.int .u8) (wr.alloc (.cells #[.int .u8 c] t)).drew (some ⟨wr.heap.size,0,none⟩) 1 [c]:=λc t=>(Sl1.lay (Value.int .u8) wr [c] t _ rfl).below ((AH _ _).drew);have aJ:∀o,Br wr (wr.drew.alloc o):=λo=>au.alloc (AC _) o
          go_region_held3 (λw'=>w'.cell? ⟨g,k,none⟩=some (.slice va H vc)/\w'.cell? ⟨w.heap.size,3,none⟩=some (.slice (some ⟨b3,o3,none⟩) xn bc)/\w'.cell? ⟨b3,o3+i,none⟩=some (.int .u8 c)) (first | (go_keep;done) | exact HK.out _ (aJ _) | exact HK.out _ (Y.alloc Y.size _) | exact aO.out _ N _) (first
            | (refine Mt (by rfl) _ _ 32 (by rfl) JB wr.heap.size 5 i0 (.int .u8 0) 1 underlying32 hi B J C rfl (.slice none 0 0) 0 [] (by rfl) (BN _ _ _ _) va H vc p (by rfl) ax.1 (by unfold maxLen;omega) om (AC _) ?_
               intro v1 w1 Z aa a7;have Y:Br wr w1:=au.grown aa (AC _) (λk e=>by cases e);rw[DD,Av]at Z;obtain⟨a1,c1,rfl,aD,_⟩:=Co (enc:=Value.int .u8) (xs:=p) Z;obtain⟨d1,d2,d3⟩:=HK.out w1 Y;clear a7)
            | (refine Mt (by rfl) _ _ 32 (by rfl) JB wr.heap.size 5 i0 (.int .u8 0) 1 underlying32 hi B J C rfl (.slice none 0 0) 0 [] (by rfl) (BN _ _ _ _) va H vc p (by rfl) (am _).1 (by unfold maxLen;omega) om (ab _) ?_
               intro v1 w1 Z aa a7;have Y:Br wr w1:=(al _).grown aa (ab _) (λk e=>by cases e);have aH:Sl1 (Value.int .u8) w1 (some ⟨wr.heap.size,0,none⟩) 1 [c]:=(aG c _).below ((AH _ _).grown aa (AC _) (λk e=>by cases e));rw[DD,Av]at Z;obtain⟨a1,c1,rfl,aD,_⟩:=Co (enc:=Value.int .u8) (xs:=p) Z;obtain⟨d1,d2,d3⟩:=HK.out w1 Y;clear a7)
            | (refine Mt (by rfl) _ _ 32 (by rfl) JB wr.heap.size 5 i0 (.int .u8 0) 1 underlying32 hi B J C rfl (.slice a1 H c1) H (p.map (Value.int .u8)) (by rfl) (Z.alloc _) (some ⟨w1.heap.size,0,none⟩) 1 1 [c] (by rfl) (Sl1.lay (Value.int .u8) w1 [c] _ _ rfl) (by unfold maxLen;omega) om (by have:=Y.size;simp;omega) ?_
               intro v2 w2 I aj a6;have N:Br wr w2:=(Y.alloc Y.size _).grown aj (by have:=Y.size;simp;omega) (λj hj=>(Z.lt j hj).1);obtain⟨a2,c2,rfl,aq,ac⟩:=Co (enc:=Value.int .u8) (xs:=p++[c]) (by simpa using I);obtain⟨e1,e2,e3⟩:=HK.out w2 N;obtain⟨e4,e5⟩:=HF.out w2 N;clear a6)
            | (refine Mt (by rfl) _ _ 32 (by rfl) JB wr.heap.size 5 i0 (.int .u8 0) 1 underlying32 hi B J C rfl (.slice a1 H c1) H (p.map (Value.int .u8)) (by rfl) Z (some ⟨wr.heap.size,0,none⟩) 1 1 [c] (by rfl) aH (by unfold maxLen;omega) om Y.size ?_
               intro v2 w2 I aj a6;have N:Br wr w2:=Y.grown aj Y.size (λj hj=>(Z.lt j hj).1);obtain⟨a2,c2,rfl,aq,ac⟩:=Co (enc:=Value.int .u8) (xs:=p++[c]) (by simpa using I);obtain⟨e1,e2,e3⟩:=HK.out w2 N;obtain⟨e4,e5⟩:=HF.out w2 N;clear a6))
          all_goals
            go_wp2;have ar:Br W (w2.setCell ⟨g,i,none⟩ (slice a2 (H+1) c2)):=(X.trans (N.mono X.size)).setCell (by show W.heap.size<=g;exact Gq HG.out.symm) _
            go_roundw
            case rel=>
              refine⟨i+1,_,by omega,by omega,by go_num,aL,hR.step ao ag N ⟨ac,λx hx=>?_⟩ aq,ar,hO.below ar⟩
              rcases Bf.1 hx with hx|hx
              ·exact s.2 x hx
              ·rw[Fq]at hx;subst hx;exact aC
            case measure=>simp[intOf];omega
        ·
          have HN:Hid (∀k,i+1<=k->Cy T k=none):=by
            refine aiI om ?_;obtain⟨j,rfl⟩:∃j,i=j+1:=⟨i-1,by omega⟩;unfold Cy;rw[HS.out,EV,HU.out]
            cases aX:T.byt[j+1]? with
            |none=>rfl
            |some c=>simp;omega
          by_cases aS:u<0
          ·
            have ap:decide (u<0)=true:=by simp;omega
            have HZ:Hid (spO T=none):=by rw[Hid,HO.out];exact HN.out xn om
            go_wp2;go_ret2;exact⟨λD h=>(by rw[HZ.out]at h;cases h),λ_=>rfl,hB.trans (X.mono hB.size)⟩
          ·
            have ap:decide (u<0)=false:=by simp;omega
            have aB:decide ((i:Int)<=u)=true:=by simp;omega
            have HZ:Hid (spO T=none):=by rw[Hid,HO.out];exact HN.out xn om
            go_wp2;go_ret2;exact⟨λD h=>(by rw[HZ.out]at h;cases h),λ_=>rfl,hB.trans (X.mono hB.size)⟩
      ·
        obtain rfl:i=xn:=by omega
        have aA:decide ((i:Int)<i)=false:=by simp
        have aN:Hid (l.length=i):=Mv HS.out;go_wp2;go_ret2;refine⟨λD h=>?_,λh=>?_,hB.trans (X.mono hB.size)⟩
        ·rw[HO.out,HS.out]at h;obtain rfl:=AK h;rw[aN.out];exact⟨g,rfl,by rw[HG.out];exact hB.size,hR⟩
        ·rw[HO.out,HS.out]at h;cases h
  ·
    have HZ:Hid (spO T=none):=by unfold Hid spO;rw[Va];rw[hT.up.1,hT.byt.1.1,hT.dep.1,hT.wrd.1];exact af
    have c0:W.cell? ⟨w.heap.size,0,none⟩=some (slice ua un uc):=hO.cell (i:=0) rfl rfl;have c1:W.cell? ⟨w.heap.size,1,none⟩=some (slice da dn dc):=hO.cell (i:=0) rfl rfl;have c2:W.cell? ⟨w.heap.size,2,none⟩=some (slice xa xn xc):=hO.cell (i:=0) rfl rfl;have c3:W.cell? ⟨w.heap.size,3,none⟩=some (slice ba bn bc):=hO.cell (i:=0) rfl rfl
    by_cases q1:un<1
    ·
      have g1:decide ((un:Int)<1)=true:=by simp;omega
      go_enter func276,ntmps276;go_upto_region 1 with fail
      rw[<-hW];clear hW;go_wp2;go_ret2;exact⟨λD h=>(by rw[HZ.out]at h;cases h),λ_=>rfl,hB⟩
    ·
      have g1:decide ((un:Int)<1)=false:=by simp;omega
      by_cases q2:400<un
      ·
        have g2:decide (400<(un:Int))=true:=by simp;omega
        go_enter func276,ntmps276;go_upto_region 1 with fail
        rw[<-hW];clear hW;go_wp2;go_ret2;exact⟨λD h=>(by rw[HZ.out]at h;cases h),λ_=>rfl,hB⟩
      ·
        have g2:decide (400<(un:Int))=false:=by simp;omega
        by_cases q3:bn=un
        ·
          subst q3
          by_cases q4:dn=bn
          ·
            subst q4;have q5:xn≠dn:=λe=>af ⟨by omega,by omega,rfl,rfl,e⟩;have g5:((xn:Int) != dn)=true:=by simp;omega
            go_enter func276,ntmps276;go_upto_region 1 with fail
            rw[<-hW];clear hW;go_wp2;go_ret2;exact⟨λD h=>(by rw[HZ.out]at h;cases h),λ_=>rfl,hB⟩
          ·
            have g4:((dn:Int) != bn)=true:=by simp;omega
            go_enter func276,ntmps276;go_upto_region 1 with fail
            rw[<-hW];clear hW;go_wp2;go_ret2;exact⟨λD h=>(by rw[HZ.out]at h;cases h),λ_=>rfl,hB⟩
        ·
          have g3:((bn:Int) != un)=true:=by simp;omega
          go_enter func276,ntmps276;go_upto_region 1 with fail
          rw[<-hW];clear hW;go_wp2;go_ret2;exact⟨λD h=>(by rw[HZ.out]at h;cases h),λ_=>rfl,hB⟩
end
def AU(g:Nat)(l:List Int)(W:World):Prop:=W.heap[g]?=some (.cells (l.map (int i64)).toArray 3 (0,0))
def GE(n:Nat):Array Value:=Array.replicate n (int i64 0)
theorem Nc(n:Nat):madeCells (int i64 0).cells n=GE n:=by
 apply Array.ext
 ·simp[madeCells,GE]
 ·intro i h1 h2;simp[madeCells,GE,Value.cells,Nat.mod_one]
theorem aiH{T:Ay}{n i:Nat}(h:Dl T n i=none):∀k,i<=k->Dl T n k=none:=by
 intro k hk;obtain⟨d,rfl⟩:∃d,k=i+d:=⟨k-i,by omega⟩;clear hk
 induction d with
 |zero=>exact h
 |succ d ih=>
  show Dl T n (i+d+1)=none;unfold Dl;rw[ih]
  rfl
theorem akU{T:Ay}{Z:Lq}{i:Nat}(Y:i<=T.wrd.length)(h:Dl T Z.length i=none):nuO T Z=none:=by
 unfold nuO;rw[aiH h _ Y]
 rfl
theorem akc{Z:Lq}{l:List Int}{i:Nat}(h:Df Z l i=none):∀k,i<=k->Df Z l k=none:=by
 intro k hk;obtain⟨d,rfl⟩:∃d,k=i+d:=⟨k-i,by omega⟩;clear hk
 induction d with
 |zero=>exact h
 |succ d ih=>
  show Df Z l (i+d+1)=none;unfold Df;rw[ih]
  rfl
theorem Mh{Z:Lq}{l:List Int}:∀{i:Nat}{r:Lq},Df Z l i=some r->r.length=i
 |0,r,h=>by simp[Df]at h;simp[<-h]
 |i+1,r,h=>by
  unfold Df at h;obtain⟨X,h0,h⟩:=Io.1 h;have Y:=Mh h0
  split at h
  ·split at h
   ·cases h
   ·obtain⟨p,V,rfl⟩:=Fo.1 h;simp[Y]
  ·cases h
theorem akq{P:Sv->List Int->Prop}{X:List Sv}{r:Lq}{v0:Sv}{U:List Int}(J:X.length=r.length)(h:∀(i:Nat)(v:Sv)(x:List Int),X[i]?=some v->r[i]?=some x->P v x)(h0:P v0 U) :∀(i:Nat)(v:Sv)(x:List Int),(X++[v0])[i]?=some v->(r++[U])[i]?=some x->P v x:=λi v x Z Y=>by
 rw[List.getElem?_append]at Z Y
 by_cases N:i<X.length
 ·rw[Vb N]at Z;rw[Vb om]at Y;exact h i v x Z Y
 ·rw[Va N]at Z;rw[Va om]at Y;have V:i-X.length=0:=by
   have:=(AP.1 Z).1;simp at this;omega
  rw[V]at Z;rw[<-J,V]at Y;simp at Z Y;subst Z Y;exact h0
theorem AU.new(W:World)(n:Nat):AU W.heap.size (List.replicate n 0) (W.alloc (.cells (GE n) 3)):=by unfold AU;rw[AT];simp[GE]
theorem agd(t:TV)(T:Ay)(g n:Nat)(J:Lq)(w:World)(hT:Tri w t T)(hR:GM g n J w)(hn:J.length=n)(b1:n<=400)(X:t.xn=n) :Calls ZP 277 #[.agg t.cells,slice (some ⟨g,0,none⟩) n n] w λe w'=>(∀ws,nuO T J=some ws->∃v c,e=.returned (.tuple #[slice v ws.length c,bool true])/\Wds w' v ws.length ws/\ws.length<=c)/\(nuO T J=none->e=.returned (.tuple #[slice none 0 0,bool false]))/\Br w w':=by
 obtain⟨ua,un,uc,da,dn,dc,xa,xn,xc,ba,bn,bc⟩:=t;dsimp only at X
 replace X:=X.symm
 subst X;obtain⟨W,hW⟩:∃W,W=w.alloc (.cells #[slice ua un uc,slice da dn dc,slice xa n xc,slice ba bn bc] 150):=⟨_,rfl⟩;have hB:Br w W:=by rw[hW];exact AL _ _
 have hO:Bx w.heap.size [.cells #[slice ua un uc,slice da dn dc,slice xa n xc,slice ba bn bc] 150] W:=by rw[hW];exact(Bx.nil _ w).snoc _ rfl
 have aL:=hT.below hB;have c2:W.cell? ⟨w.heap.size,2,none⟩=some (slice xa n xc):=hO.cell (i:=0) rfl rfl;have aD:∀V:World,(Instr.makeSlice 30 (int i64 n) (int i64 n)).run ZP V=.ok (slice (some ⟨V.heap.size,0,none⟩) n n) (V.alloc (.cells (GE n) 3)):=λV=>by
  obtain⟨i0,hi,a8,B,a7⟩:=Vk JS;have h:=run_makeSlice (P:=ZP) (w:=V) 30 3 i0 (.int .i64 0) underlying30 hi a8 .i64 .i64 (n:Int) (n:Int) om om (by rw[B];omega) (by rw[a7];omega) om;rw[B]at h;have e1:(n:Int).toNat*1=n:=by omega
  rw[e1,Nc,Aa]at h;exact h
 go_enter func277,ntmps277;go_upto_region 1 with fail
 rw[<-hW];clear hW;go_upto_region 2 with fail
 clear aD;obtain⟨V,hV⟩:∃V,V=W.alloc (.cells (GE n) 3):=⟨_,rfl⟩;obtain⟨q,hq⟩:∃q,q=W.heap.size:=⟨_,rfl⟩;have hI:AU q (List.replicate n 0) V:=by rw[hV,hq];exact AU.new W n
 have Y:Br W V:=by rw[hV];exact AL _ _
 have av:=hO.below Y;have aP:V.cell? ⟨w.heap.size,2,none⟩=some (slice xa n xc):=av.cell (i:=0) rfl rfl;rw[<-hV,<-hq];have HQ:=AA hq;clear hV hq;go_wp2
 go_loopw[7,19] (λm s wr=>∃(i:Nat)(l:List Int)(k:Nat),i<=n/\s=int i64 i/\m=int i64 k/\Hid (Dl T n i=some (l,(k:Int)))/\l.length=n/\Hid (l.countP (λx=>x != 0)=k)/\Hid (∀x∈l,0<=x/\x<n)/\AU q l wr/\Br W wr) (λ_ s _=>n-(intOf s).toNat)
 case atStart=>
  refine⟨0,List.replicate n 0,0,AR _,rfl,rfl,rfl,by simp,by simp[Hid],?_,hI,Y⟩;intro x X;obtain⟨h0,rfl⟩:=List.mem_replicate.1 X;omega
 case round=>
  clear hI Y av aP;obtain⟨i,l,k,b7,rfl,rfl,HS,ap,HC,HE,hI,Y⟩:=hrel
  by_cases aE:i<n
  ·have aI:decide ((i:Int)<n)=true:=by simp;omega
   obtain⟨b0,o0,x,aJ,o,cx,X⟩:=DG (aL.wrd.below Y) aE;subst aJ;have HX:=AA X;clear X
   by_cases h1:x=-1
   ·have ag:Hid (Dl T n (i+1)=some (l,(k:Int))):=by
     unfold Hid Dl;rw[HS.out,EV,HX.out];simp[h1]
    subst h1;go_wp2
    go_roundw
    case rel=>exact⟨i+1,l,k,by omega,by go_num,rfl,ag,ap,HC,HE,hI,Y⟩
    case measure=>simp[intOf];omega
   ·by_cases h2:0<=x/\x<n/\i≠0/\(l[x.toNat]?).getD 0=0
    ·obtain⟨h3,h4,h5,h6⟩:=h2;obtain⟨Z,rfl⟩:∃Z:Nat,x=Z:=⟨x.toNat,by omega⟩;rw[Aa]at h6;have aq:Z<n:=by omega
     have I:Z<l.length:=by omega
     have o:l[Z]=0:=by rw[Ar I]at h6;exact h6
     have ag:Hid (Dl T n (i+1)=some (l.set Z i,((k+1:Nat):Int))):=by unfold Hid Dl;rw[HS.out,EV,HX.out];dsimp only;rw[Va h1,Va (by rw[Aa,h6];omega),Aa];simp
     have aU:Hid ((l.set Z (i:Int)).countP (λx=>x != 0)=k+1):=by rw[Hid,List.countP_set I,HC.out,o];simp;omega
     have aT:Hid (∀x∈l.set Z (i:Int),0<=x/\x<n):=λx X=>by
      rcases List.mem_or_eq_of_mem_set X with h|rfl
      ·exact HE.out x h
      ·omega
     have aM:AU q (l.set Z i) (wr.setCell ⟨q,Z,none⟩ (int i64 i)):=by
      have:=AJ (i:=Z) hI (int i64 i);unfold AU
      simpa[Is]using this
     have aO:Br W (wr.setCell ⟨q,Z,none⟩ (int i64 i)):=Y.setCell (by show W.heap.size<=q;exact Gq HQ.out.symm) _;have cq:wr.cell? ⟨q,Z,none⟩=some (int i64 0):=by rw[cell_of_row wr q Z _ _ _ hI];simp[I,o]
     have fq:wr.frozen? ⟨q,Z,none⟩=false:=by simp[frozen?,show wr.heap[q]?=_ from hI]
     have ao:(l.set Z (i:Int)).length=n:=by simpa using ap
     have d1:(((Z:Int))==-1)=false:=by simp
     have b2:k<=n:=by have:=HC.out;have:=List.countP_le_length (p:=λx:Int=>x != 0) (l:=l);omega
     have d2:decide ((Z:Int)<0)=false:=by simp
     have d3:decide ((n:Int)<=(Z:Int))=false:=by simp;omega
     have d4:((i:Int)==0)=false:=by simp;omega
     have i2:(0:Int)<=(Z:Int):=by omega
     have i3:(Z:Int)<(n:Int):=by omega
     clear hI o h6;go_wp2
     go_roundw
     case rel=>exact⟨i+1,_,k+1,by omega,by go_num,by go_num,ag,ao,aU,aT,aM,aO⟩
     case measure=>simp[intOf];omega
    ·have HN:Hid (nuO T J=none):=by
      refine akU (i:=i+1) (by have h7:=hT.wrd.1;dsimp only at h7;omega) ?_;rw[hn];unfold Dl;rw[HS.out,EV,HX.out];dsimp only;rw[Va h1,Vb]
      rcases Classical.em (x<0)with h3|h3
      ·exact .inl h3
      ·rcases Classical.em ((n:Int)<=x)with h4|h4
       ·exact .inr (.inl h4)
       ·rcases Classical.em (i=0)with h5|h5
        ·exact .inr (.inr (.inl h5))
        ·exact .inr (.inr (.inr λh6=>h2 ⟨by omega,by omega,h5,h6⟩))
     have a1:Br w wr:=hB.trans (Y.mono hB.size);have d1:(x==-1)=false:=by simpa using h1
     by_cases h3:x<0
     ·have d2:decide (x<0)=true:=by simpa using h3
      clear h2 h3 h1;go_wp2;go_ret2;exact⟨λws h=>(by rw[HN.out]at h;cases h),λ_=>rfl,a1⟩
     ·have d2:decide (x<0)=false:=by simpa using h3
      by_cases h4:(n:Int)<=x
      ·have d3:decide ((n:Int)<=x)=true:=by simpa using h4
       clear h2 h3 h1 h4;go_wp2;go_ret2;exact⟨λws h=>(by rw[HN.out]at h;cases h),λ_=>rfl,a1⟩
      ·have d3:decide ((n:Int)<=x)=false:=by simpa using h4
       by_cases h5:i=0
       ·have d4:((i:Int)==0)=true:=by simpa using h5
        clear h2 h3 h1 h4 h5;go_wp2;go_ret2;exact⟨λws h=>(by rw[HN.out]at h;cases h),λ_=>rfl,a1⟩
       ·have d4:((i:Int)==0)=false:=by simpa using h5
        obtain⟨Z,rfl⟩:∃Z:Nat,x=Z:=⟨x.toNat,by omega⟩;have aq:Z<n:=by omega
        have I:Z<l.length:=by omega
        have am:l[Z]≠0:=λe=>h2 ⟨by omega,by omega,h5,by rw[Aa,Ar I];exact e⟩;obtain⟨y,C⟩:∃y,l[Z]=y:=⟨_,rfl⟩;rw[C]at am;have cq:wr.cell? ⟨q,Z,none⟩=some (int i64 y):=by rw[cell_of_row wr q Z _ _ _ hI];simp[I,C]
        have d5:(y != 0)=true:=by simpa using am
        have i2:(0:Int)<=(Z:Int):=by omega
        have i3:(Z:Int)<(n:Int):=by omega
        clear h2 h3 h1 h4 C;go_wp2;go_ret2;exact⟨λws h=>(by rw[HN.out]at h;cases h),λ_=>rfl,a1⟩
  ·obtain rfl:i=n:=by omega
   have aI:decide ((i:Int)<i)=false:=by simp
   have aq:k<=i:=by have:=HC.out;have:=List.countP_le_length (p:=λx:Int=>x != 0) (l:=l);omega
   have b4:(0:Int)<=(k:Int):=by omega
   have b3:(k:Int)<=(i:Int):=by omega
   have af:Hid (nuO T J=Df J l k):=by unfold Hid nuO;have h7:=hT.wrd.1;dsimp only at h7;rw[hn,h7,HS.out,EV,Aa]
   have H:Br w wr:=hB.trans (Y.mono hB.size);have aC:q<wr.heap.size:=(AD.1 hI).1;obtain⟨aj,aa,aZ,_,a2⟩:=hR.ex;have aF:g<w.heap.size:=(AD.1 aa).1;have ae:wr.heap[g]?=_:=(H.block g aF).trans aa;have au:g<wr.heap.size:=(AD.1 ae).1;have ax:=AA a2;have HI:=AA hI;have aR:=AA ae;clear a2 hI ae aa;obtain⟨i0,hi,a8,B,a7⟩:=Vk aj9;obtain⟨V2,aK⟩:∃V,V=wr:=⟨_,rfl⟩;subst aK;go_wp2
   go_loopw[10,12,56] (λay _ a6 wq=>∃(j:Nat)(vs:List Sv)(r:Lq),j<=k/\a6=int i64 j/\wq.ownsRow V2.heap.size 32 1 ay j (vs.map svV)/\vs.length=j/\Hid (Df J l j=some r)/\Hid (∀(i:Nat)(v:Sv)(x:List Int),vs[i]?=some v->r[i]?=some x->Bys V2 v.1 v.2.1 x/\v.2.1<=v.2.2)/\Br V2 wq) (λ_ _ a6 _=>k-(intOf a6).toNat)
   case atStart=>exact⟨0,[],[],AR _,rfl,BN _ _ _ _,rfl,rfl,(by intro i v x h;simp at h),AH _ _⟩
   case round=>
    obtain⟨j,vs,r,b6,rfl,D,ab,HW,ai,U⟩:=hrel
    by_cases b5:j<k
    ·have aH:decide ((j:Int)<k)=true:=by simp;omega
     have ar:j<l.length:=by omega
     obtain⟨y,C⟩:∃y,l[j]?=some y:=⟨l[j],by simp[ar]⟩;have aY:=HE.out y (AX C);have cj:wr.cell? ⟨q,j,none⟩=some (int i64 y):=by rw[cell_of_row wr q j _ _ _ ((U.block q aC).trans HI.out)];simp[C]
     have i2:(0:Int)<=(j:Int):=by omega
     have i3:(j:Int)<(k:Int):=by omega
     have aX:((j:Nat):Int).toNat=j:=by simp
     by_cases A:y=0
     ·subst A;have HZ:Hid (nuO T J=none):=by
       rw[Hid,af.out];refine akc (i:=j+1) ?_ k om;unfold Df;rw[HW.out,EV,C];simp
      clear C;go_wp2;go_ret2;exact⟨λws h=>(by rw[HZ.out]at h;cases h),λ_=>rfl,H.trans (U.mono H.size)⟩
     ·have d1:(y==0)=false:=by simpa using A
      obtain⟨N,rfl⟩:∃N:Nat,y=N:=⟨y.toNat,by omega⟩;have aW:N<i:=by omega
      have ak:N<J.length:=by omega
      obtain⟨x,X⟩:∃x,J[N]?=some x:=⟨J[N],by simp[ak]⟩;obtain⟨⟨va,vn,vc⟩,hv⟩:∃v,aj[N]?=some v:=⟨aj[N]'om,by simp⟩;have HV:=ax.out N _ _ hv X;have cg:wr.cell? ⟨g,N,none⟩=some (slice va vn vc):=by rw[cell_of_row wr g N _ _ _ ((U.block g au).trans aR.out)];simp[hv,svV]
      have aQ:Hid (Df J l (j+1)=some (r++[x])):=by
       unfold Hid Df;rw[HW.out,EV,C];dsimp only;rw[Va A,Aa,X]
       rfl
      have aS:Hid (∀(i:Nat)(v:Sv)(x1:List Int),(vs++[((va,vn,vc):Sv)])[i]?=some v->(r++[x])[i]?=some x1->Bys V2 v.1 v.2.1 x1/\v.2.1<=v.2.2):=
       akq (by rw[ab,Mh HW.out]) ai.out ⟨HV.1.below H,HV.2⟩
      have al:Hid ((vs++[((va,vn,vc):Sv)]).length=j+1):=by simp[Hid,ab]
      have i4:(0:Int)<=(N:Int):=by omega
      have i5:(N:Int)<(i:Int):=by omega
      have aB:=U.size;clear C X hv HV A
      go_wp2_with (at_builtin;refine wpList_append_own _ rfl _ _ 22 rfl V2.heap.size 32 i0 (.slice none 0 0) 1 24 underlying22 hi a8 B a7 rfl (by decide) _ _ _ rfl (D.alloc _) ⟨wr.heap.size,0,none⟩ 1 1 [svV (va,vn,vc)] rfl rfl (GI _ _ sm) (by simp[Value.oneCell']) (by unfold maxLen;omega) om (by simp;omega) ?_;intro v' w6 ac aG aV)
      have aN:Br V2 w6:=(U.alloc aB _).grown aG (by simp;omega) (λk e=>(D.lt k e).1)
      go_roundw
      case rel=>exact⟨j+1,_,_,by omega,by go_num,(by simpa using ac),al,aQ,aS,aN⟩
      case measure=>simp[intOf];omega
    ·obtain rfl:j=k:=by omega
     have aH:decide ((j:Int)<j)=false:=by simp
     have aw:=AA (Mh HW.out);obtain⟨va,vc,rfl,az,aA⟩:=Co (enc:=svV) D;go_wp2;go_ret2;refine⟨λws h=>?_,λh=>?_,H.trans (U.mono H.size)⟩
     ·rw[af.out,HW.out]at h;obtain rfl:=AK h;rw[aw.out];exact⟨va,vc,rfl,⟨vs,aA,by rw[ab,aw.out],λi v x hv X=>⟨(ai.out i v x hv X).1.below U,(ai.out i v x hv X).2⟩⟩,az⟩
     ·rw[af.out,HW.out]at h;cases h
structure apo(W:World)(g:Nat)(t:TV)(sp ws:Lq):Prop where
 ex:∃(sa:Option Addr)(sc:Nat)(wa:Option Addr)(wc:Nat),W.heap[g]?=some (.cells #[slice t.ua t.un t.uc,slice t.da t.dn t.dc,slice t.xa t.xn t.xc,slice t.ba t.bn t.bc,slice sa sp.length sc,slice wa ws.length wc] 378 (0,0))/\Wds W sa sp.length sp/\Wds W wa ws.length ws/\sp.length<=sc/\ws.length<=wc
theorem GM.wds{g n:Nat}{l:Lq}{W:World}(h:GM g n l W)(X:l.length=n):Wds W (some ⟨g,0,none⟩) n l:=by obtain⟨Z,h1,h2,h3,h4⟩:=h.ex;refine⟨Z,⟨h2,.inr ⟨g,0,rfl,(AD.1 h1).1,λj x Y=>?_⟩⟩,by omega,h4⟩;rw[cell_of_row W g (0+j) _ _ _ h1];simp[Y]
theorem GM.below{g n:Nat}{l:Lq}{W V:World}(h:GM g n l W)(X:Br W V):GM g n l V:=by obtain⟨U,h1,h2,h3,h4⟩:=h.ex;exact⟨U,(X.block g (AD.1 h1).1).trans h1,h2,h3,λi v x Y Z=>⟨(h4 i v x Y Z).1.below X,(h4 i v x Y Z).2⟩⟩
theorem aoz{T:Ay}{Z:Lq}(h:spO T=some Z):Z.length=T.up.length/\T.up.length<=400/\T.wrd.length=T.up.length/\∀x∈Z,x.length<400:=by
 unfold spO at h
 split at h
 ·rename_i Y
  refine⟨Mv h,Y.2.1,Y.2.2.2.2,λx X=>?_⟩;have:=Ol h x X;omega
 ·cases h
theorem agp{Y:Lq}{l:List Int}:∀{i:Nat}{r:Lq},Df Y l i=some r->∀x∈r,x∈Y
 |0,r,h=>by unfold Df at h;obtain rfl:=AK h;simp
 |i+1,r,h=>by
  unfold Df at h;obtain⟨U,h0,h⟩:=Io.1 h;have X:=agp h0
  split at h
  ·split at h
   ·cases h
   ·obtain⟨p,V,rfl⟩:=Fo.1 h;intro x Z
    rcases Bf.1 Z with Z|Z
    ·exact X x Z
    ·rw[Fq]at Z;subst Z;exact AX V
  ·cases h
theorem aiV{T:Ay}{n:Nat}:∀{i:Nat}{s:List Int×Int},Dl T n i=some s->s.2<=i
 |0,s,h=>by simp[Dl]at h;simp[<-h]
 |i+1,s,h=>by
  unfold Dl at h;obtain⟨Z,h0,h⟩:=Io.1 h;have Y:=aiV h0
  split at h
  ·split at h
   ·obtain rfl:=AK h;omega
   ·split at h
    ·cases h
    ·obtain rfl:=AK h;dsimp only;omega
  ·cases h
theorem aog{T:Ay}{Z ws:Lq}(h:nuO T Z=some ws):ws.length<=T.wrd.length/\∀x∈ws,x∈Z:=by unfold nuO at h;obtain⟨s,h0,h⟩:=Io.1 h;have:=aiV h0;have:=Mh h;exact⟨by omega,agp h⟩
theorem anv{fold:Bool}{ws:Lq}{m M:Nat}(h1:ws.length<=m)(h2:∀x∈ws,x.length<=M):(Ad fold ws).length<=m*M:=by
 refine AS ?_ (IO M h1);clear h1
 revert h2
 refine IT (P:=λws=>(∀x∈ws,x.length<=M)->(Ad fold ws).length<=ws.length*M) (by simp[Ad]) (λl x Z h=>?_) ws;have:=Z (λy Y=>h y (by simp[Y]));have:=h x sm;rw[abQ,List.length_append,Ks,Ew,List.length_append,OK,Nat.add_mul];omega
theorem agS(t:TV)(T:Ay)(w:World)(hT:Tri w t T)(hb:t.un<=140737488351232) :Calls ZP 252 #[.agg t.cells] w λe w'=>(∀N ws,CI T=some (N,ws)->∃g,e=.returned (.tuple #[pointer (some ⟨g,0,none⟩),bool true])/\apo w' g t N ws/\w.heap.size<=g)/\(CI T=none->e=.returned (.tuple #[pointer none,bool false]))/\Br w w':=by
 have aw:=AA hT;obtain⟨ua,un,uc,da,dn,dc,xa,xn,xc,ba,bn,bc⟩:=t;dsimp only at hb;obtain⟨W,hW⟩:∃W,W=w.alloc (.cells #[slice ua un uc,slice da dn dc,slice xa xn xc,slice ba bn bc] 150):=⟨_,rfl⟩;have hB:Br w W:=by rw[hW];exact AL _ _
 have hO:Bx w.heap.size [.cells #[slice ua un uc,slice da dn dc,slice xa xn xc,slice ba bn bc] 150] W:=by rw[hW];exact(Bx.nil _ w).snoc _ rfl
 have aa:=hT.below hB;have cells:∀V,Br W V->V.cell? ⟨w.heap.size,0,none⟩=some (slice ua un uc)/\V.cell? ⟨w.heap.size,1,none⟩=some (slice da dn dc)/\V.cell? ⟨w.heap.size,2,none⟩=some (slice xa xn xc)/\V.cell? ⟨w.heap.size,3,none⟩=some (slice ba bn bc):=λV hV=>by have h:=hO.below hV;exact⟨h.cell (i:=0) rfl rfl,h.cell (i:=0) rfl rfl,h.cell (i:=0) rfl rfl,h.cell (i:=0) rfl rfl⟩
 have HC:=AA cells;clear cells hO;obtain⟨c0,c1,c2,c3⟩:=HC.out W (AH _ _);have k1:=AA (ajf _ T W aa hb);go_enter func252,ntmps252;go_upto_region 1 with fail
 rw[<-hW];clear hW
 go_wp2_with fail
 refine k1.out.mono ?_;rintro e w1 ⟨hs,hn,D⟩
 cases Z:spO T with
 |none=>
  obtain rfl:=hn Z;have B:Hid (CI T=none):=by unfold Hid CI;rw[Z];rfl
  clear hs hn Z;go_wp2;go_ret2;exact⟨λN ws h=>(by rw[B.out]at h;cases h),λ_=>rfl,hB.trans (D.mono hB.size)⟩
 |some N=>
  obtain⟨g,rfl,hg,hR⟩:=hs N Z;obtain⟨o1,o2,o3,o4⟩:=aoz Z;have aj:=AA Z;clear hs hn Z c0 c1 c2 c3;have av:T.up.length=un:=hT.up.1;have au:T.wrd.length=xn:=hT.wrd.1;obtain⟨n,a7⟩:∃n,N.length=n:=⟨_,rfl⟩;rw[a7]at hR⊢;obtain⟨c0,c1,c2,c3⟩:=HC.out w1 D;have ao:=aa.below D;have k2:=AA (agd _ T g n N w1 ao hR a7 om (by show xn=n;omega))
  go_wp2_with fail
  refine k2.out.mono ?_;rintro e w2 ⟨hs,hn,a8⟩;have J:Br W w2:=D.trans (a8.mono D.size)
  cases Y:nuO T N with
  |none=>
   obtain rfl:=hn Y;have B:Hid (CI T=none):=by unfold Hid CI;rw[aj.out,EV,Y];rfl
   clear hs hn Y;go_wp2;go_ret2;exact⟨λN ws h=>(by rw[B.out]at h;cases h),λ_=>rfl,hB.trans (J.mono hB.size)⟩
  |some ws=>
   obtain⟨v,c,rfl,s,ab⟩:=hs ws Y;obtain⟨p1,p2⟩:=aog Y;have ap:=AA Y;clear hs hn Y c0 c1 c2 c3;obtain⟨c0,c1,c2,c3⟩:=HC.out w2 J;have al:ws.length<=400:=by omega
   have a6:∀x∈ws,x.length<=400:=λx hx=>DP (o4 x (p2 x hx));have ac:(Ad false ws).length<=1000000:=AS (anv al a6) om;obtain⟨m,hm⟩:∃m,ws.length=m:=⟨_,rfl⟩;rw[hm]at s ab⊢;have I:Hid (CI T=if(An false ws&&eqT (AG ws) T)=true then some (N,ws) else none):=by unfold Hid CI;rw[aj.out,EV,ap.out,EV]
   cases hr:An false ws with
   |false=>
    have k3:=AA (amr false v m c ws w2 s om (λx hx=>by have:=a6 x hx;omega) ac hr);have B:Hid (CI T=none):=by unfold Hid;rw[I.out,hr];rfl
    clear hr
    go_wp2_with fail
    refine k3.out.mono ?_;rintro e U ⟨rfl,H⟩;have j:Br W U:=J.trans (H.mono J.size);go_wp2;go_ret2;have X:Br w U:=hB.trans (j.mono hB.size);exact⟨λN ws h=>(by rw[B.out]at h;cases h),λ_=>rfl,X.alloc X.size _⟩
   |true=>
    have k3:=AA (abH false v m c ws w2 s om (λx hx=>by have:=a6 x hx;omega) ac hr);have nn:=NE hr;have ak:=AA hr;clear hr
    go_wp2_with fail
    refine k3.out.mono ?_;rintro e U ⟨u,rfl,hU,H⟩;have j:Br W U:=J.trans (H.mono J.size);have am:u.un<=400/\u.dn<=400/\u.xn<=400/\u.bn<=400:=by obtain⟨l1,l2,l3,l4⟩:=aeh (ws:=ws);have:=hU.up.1;have:=hU.dep.1;have:=hU.wrd.1;have:=hU.byt.1.1;omega
    obtain⟨va,vn,vc,ea,en,ec,ya,yn,yc,fa,fn,fc⟩:=u;dsimp only at am;go_upto_region 8 with fail
    obtain⟨w4,A⟩:∃w4,w4=U.alloc (.cells #[slice va vn vc,slice ea en ec,slice ya yn yc,slice fa fn fc] 150):=⟨_,rfl⟩;have y:Br U w4:=by rw[A];exact AL _ _
    have C:Bx U.heap.size [.cells #[slice va vn vc,slice ea en ec,slice ya yn yc,slice fa fn fc] 150] w4:=by rw[A];exact(Bx.nil _ U).snoc _ rfl
    rw[<-A];clear A;have o:Br W w4:=j.trans (y.mono j.size);have q0:w4.cell? ⟨U.heap.size,0,none⟩=some (slice va vn vc):=C.cell (i:=0) rfl rfl;have q1:w4.cell? ⟨U.heap.size,1,none⟩=some (slice ea en ec):=C.cell (i:=0) rfl rfl;have q2:w4.cell? ⟨U.heap.size,2,none⟩=some (slice ya yn yc):=C.cell (i:=0) rfl rfl;have q3:w4.cell? ⟨U.heap.size,3,none⟩=some (slice fa fn fc):=C.cell (i:=0) rfl rfl;obtain⟨c0,c1,c2,c3⟩:=HC.out w4 o;have k4:=AA (aiD _ _ (AG ws) T w4 (hU.below y) (aa.below o) (by dsimp only;omega));clear C hU
    go_wp2_with fail
    refine k4.out.mono ?_;rintro e w5 ⟨rfl,af⟩;have ai:Br W w5:=o.trans (af.mono o.size);have X:Br w w5:=hB.trans (ai.mono hB.size);clear c0 c1 c2 c3 q0 q1 q2 q3;obtain⟨c0,c1,c2,c3⟩:=HC.out w5 ai
    cases he:eqT (AG ws) T with
    |false=>
     have B:Hid (CI T=none):=by unfold Hid;rw[I.out,ak.out,he];rfl
     clear he;go_wp2;go_ret2;exact⟨λN ws h=>(by rw[B.out]at h;cases h),λ_=>rfl,X⟩
    |true=>
     have B:Hid (CI T=some (N,ws)):=by unfold Hid;rw[I.out,ak.out,he];rfl
     clear he;have a1:=AA a7;have HM:=AA hm;go_wp2;go_ret2;refine⟨λar aq h=>?_,λh=>(by rw[B.out]at h;cases h),X.alloc X.size _⟩;rw[B.out]at h
     injection h with h
     injection h with e1 e2
     subst e1 e2;have ae:Br w5 (w5.alloc (.cells #[slice ua un uc,slice da dn dc,slice xa xn xc,slice ba bn bc,slice (some ⟨g,0,none⟩) n n,slice v m c] 378)):=AL _ _;have a2:Br w2 w5:=H.trans ((y.trans (af.mono y.size)).mono H.size);have ag:Br w1 w5:=a8.trans (a2.mono a8.size);refine⟨_,rfl,⟨_,n,_,c,by rw[a1.out,HM.out];exact AT _ _,?_,?_,by rw[a1.out];exact AC _,by rw[HM.out];exact ab⟩,X.size⟩
     ·rw[a1.out];exact((hR.below ag).wds a1.out).below ae
     ·rw[HM.out];exact(s.below a2).below ae
theorem amc(t:TV)(T:Ay)(Z ws:Lq)(w:World)(V:Tri w t T)(X:t.un<=140737488351232)(Y:CI T=some (Z,ws)) :Calls ZP 252 #[.agg t.cells] w λe w'=>∃g,e=.returned (.tuple #[pointer (some ⟨g,0,none⟩),bool true])/\apo w' g t Z ws/\Br w w':=(agS t T w V X).mono λe w' ⟨h1,_,h3⟩=>(h1 Z ws Y).elim λg ⟨U,e2,_⟩=>⟨g,U,e2,h3⟩
theorem ao0(t:TV)(T:Ay)(w:World)(X:Tri w t T)(Y:t.un<=140737488351232)(Z:CI T=none) :Calls ZP 252 #[.agg t.cells] w λe w'=>e=.returned (.tuple #[pointer none,bool false])/\Br w w':=(agS t T w X Y).mono λe w' ⟨_,h2,h3⟩=>⟨h2 Z,h3⟩
theorem abf{T:Ay}{Z ws:Lq}(h:CI T=some (Z,ws)):Z.length<=400/\ws.length<=400/\Z.length=T.up.length:=by obtain⟨h1,rfl,rfl⟩:=Fy.1 h;have:=NE h1;have:=OS h1;exact⟨by omega,by omega,aeh.1.symm⟩
def JF(T:Ay):Bool:=(CI T).isSome
theorem ai5(t:TV)(T:Ay)(w:World)(D:Tri w t T)(H:t.un<=140737488351232) :Calls ZP 215 #[.agg t.cells] w λe w'=>e=.returned (bool (JF T))/\Br w w':=by
 obtain⟨ua,un,uc,da,dn,dc,xa,xn,xc,ba,bn,bc⟩:=t;dsimp only at H;obtain⟨W,hW⟩:∃W,W=w.alloc (.cells #[slice ua un uc,slice da dn dc,slice xa xn xc,slice ba bn bc] 150):=⟨_,rfl⟩;have hB:Br w W:=by rw[hW];exact AL _ _
 have J:Bx w.heap.size [.cells #[slice ua un uc,slice da dn dc,slice xa xn xc,slice ba bn bc] 150] W:=by rw[hW];exact(Bx.nil _ w).snoc _ rfl
 have X:=D.below hB;have c0:W.cell? ⟨w.heap.size,0,none⟩=some (slice ua un uc):=J.cell (i:=0) rfl rfl;have c1:W.cell? ⟨w.heap.size,1,none⟩=some (slice da dn dc):=J.cell (i:=0) rfl rfl;have c2:W.cell? ⟨w.heap.size,2,none⟩=some (slice xa xn xc):=J.cell (i:=0) rfl rfl;have c3:W.cell? ⟨w.heap.size,3,none⟩=some (slice ba bn bc):=J.cell (i:=0) rfl rfl;have a2:T.up.length=un:=D.up.1
 cases Z:CI T with
 |none=>
  have B:Hid (JF T=false):=by unfold Hid JF;rw[Z];rfl
  have I:=AA (ao0 _ T W X H Z);clear Z D X;go_enter func215,ntmps215;go_upto_region 1 with fail
  rw[<-hW];clear hW
  go_wp2_with fail
  refine I.out.mono ?_;rintro e U ⟨rfl,Y⟩;have V:Br w U:=hB.trans (Y.mono hB.size);go_wp2;go_ret;exact⟨(by rw[B.out];rfl),V⟩
 |some r=>
  obtain⟨A,ws⟩:=r;have B:Hid (JF T=true):=by unfold Hid JF;rw[Z];rfl
  have I:=AA (amc _ T A ws W X H Z);obtain⟨s,y,v⟩:=abf Z;clear Z;go_enter func215,ntmps215;go_upto_region 1 with fail
  rw[<-hW];clear hW
  go_wp2_with fail
  refine I.out.mono ?_;rintro e U ⟨g,rfl,C,Y⟩;obtain⟨j,sc,o,wc,N,hS,a7,a6,a1⟩:=C.ex;dsimp only at N;have V:Br w U:=hB.trans (Y.mono hB.size);have g0:U.cell? ⟨g,0,none⟩=some (slice ua un uc):=by simp[cell?,N]
  have g4:U.cell? ⟨g,4,none⟩=some (slice j A.length sc):=by simp[cell?,N]
  have g5:U.cell? ⟨g,5,none⟩=some (slice o ws.length wc):=by simp[cell?,N]
  go_wp2;go_ret;exact⟨(by rw[B.out];rfl),V⟩
section
open Go Go.RowKit Go.Sort
def OE{β:Type}(B:Nat)(Pb:Nat->World->World->Prop)(J:β->World->Prop):Prop:=
 ∀(s:β)(W Z:World)(row:Option Nat),J s W->W.grownBy Z row->(∀r,row=some r->(B<=r/\∃o:Obj,W.heap[r]?=some o/\o.isWalk=true)∨Pb r W Z)->J s Z
def BT{β:Type}(B:Nat)(Pb:Nat->World->World->Prop)(I:β->World->Prop):Prop:=
 ∀(s:β)(W Z:World)(row:Option Nat),I s W->W.grownBy Z row->(∀r,row=some r->(B<=r/\∃o:Obj,W.heap[r]?=some o/\o.isCells=false)∨Pb r W Z)->I s Z
def Hi{α:Type}(F:Fence)(n:Nat)(P:Program)(g:Nat)(I:Array Value)(X:α->Array Value)(D:World->World->Prop)(Pb:Nat->World->World->Prop)(S:List α->World->Prop)(H:List α->Prop)(N:Nat)(w:World):Prop:=
 ∀(l:Nat) (J U:List α->World->Prop) (W:World),Below w.heap.size w W->OE W.heap.size Pb J->OE W.heap.size Pb U->
  (∀Z x V,J Z V->Z.length<N->YieldAt F (n-1) P l (X x) V λe Y=>(e=.returned (bool true)/\J (Z++[x]) Y/\D V Y)∨(e=.returned (bool false)/\U (Z++[x]) Y))->
  J [] W->
  CallsIn F n P g (#[.func (.yield l) #[] #[]]++I) W λe Y=>(∃v,e=.returned v)/\((∃xs,S xs Y/\J xs Y)∨(∃Z,H Z/\U Z Y))
theorem BT.and{β:Type}{B:Nat}{Pb:Nat->World->World->Prop}{I U:β->World->Prop}(h:BT B Pb I)(N:BT B Pb U):BT B Pb (λs W=>I s W/\U s W):=λs W V row Z X Y=>⟨h s W V row Z.1 X Y,N s W V row Z.2 X Y⟩
theorem BT.below{β:Type}{B Z:Nat}{Pb:Nat->World->World->Prop}{w:World}(hB:Z<=B)(U:Z<=w.heap.size)(J:∀r W X,Pb r W X->Z<=r):BT B Pb (λ(_:β) W=>Below Z w W):=λs W X row Y N V=>
 Y.grown N (AS U Y.size) (λk e=>by rcases V k e with⟨h,_⟩|h;exact AS hB h;exact J k _ _ h)
theorem BT.size{β:Type}(B:Nat)(Pb:Nat->World->World->Prop)(n:Nat):BT B Pb (λ(_:β) W=>n<=W.heap.size):=λs W X row Z Y _=>AS Z Y.size
theorem BT.block{β:Type}(B:Nat)(Pb:Nat->World->World->Prop)(b:Nat)(cs:β->Array Value)(t:TypeId)(fr:Nat×Nat)(J:∀W X,¬Pb b W X):BT B Pb (λs W=>W.heap[b]?=some (.cells (cs s) t fr)):=λs W X row Y U V=>
 (U.block b (AD.1 Y).1 (λe=>by
  rcases V b e.symm with⟨_,o,ho,N⟩|h
  ·have Z:W.heap[b]?=some (.cells (cs s) t fr):=Y;rw[Z]at ho;cases ho;cases N
  ·exact J _ _ h)).trans Y
theorem Jf{β:Type}{B:Nat}{Pb:Nat->World->World->Prop}{J:β->World->Prop}(h:OE B Pb J){s:β}{w w':World}(Z:J s w)(Y:Br w w'):J s w':=h s w w' none Z (Km Y) (λr e=>by cases e)
theorem aet{β:Type}{B:Nat}{Pb:Nat->World->World->Prop}{J:β->World->Prop}(h:OE B Pb J){s:β}{w:World}(Y:J s w){p:Nat}(i:Nat)(u:Value)(Z:Pb p w (w.setCell ⟨p,i,none⟩ u)):J s (w.setCell ⟨p,i,none⟩ u):=h s w _ (some p) Y ⟨rfl,rfl,rfl,by simp,λk _ hk=>AQ w ⟨p,i,none⟩ u k (λe=>hk (by rw[e]))⟩ (λr e=>by cases e;exact .inr Z)
def ajr(A B:World):Prop:=B.heap.size=A.heap.size/\∀(k:Nat)(cs:Array Value)(t:TypeId)(f:Nat×Nat),A.heap[k]?=some (Obj.cells cs t f)->B.heap[k]?=some (Obj.cells cs t f)
theorem NL{P:Program}{α:Type}{g:Operand}{ps:Array Tmp}{assign body:Code}{Q:Exit->Act->World->Prop}{a:Act}{w:World}{gf:Nat}{lb:Array Value}
  (hg:a.eval g=.func (.func gf) #[] lb) (eg:∀args w,(callFunc gf args).run P w=.ok (.enter gf args) w)
  {aa:α->Array Value} {Kp:World->World->Prop} {Pb:Nat->World->World->Prop} {S:List α->World->Prop} {Sp:List α->Prop} {N:Nat} (ap:Hi Fence.wide 8 P gf lb aa Kp Pb S Sp N w) (aF:∀r W W',Pb r W W'->r<w.heap.size) (hSk:∀(xs:List α)(W:World)(l:Nat)(o o':Obj),w.heap.size<=l->W.heap[l]?=some o->o.isCells=false->S xs W->S xs (W.putObj l o'))
  (ao:∀{A B C:World},Kp A B->Kp B C->Kp A C) (hKb:∀(W:World)(l:Nat)(o o':Obj),w.heap.size<=l->W.heap[l]?=some o->o.isCells=false->o.isWalk=false->Kp W (W.putObj l o')) (aw:∀x,(aa x).size=ps.size)
  (I:List α->World->Prop) (Ix:Code->List α->World->Prop) (hI:BT w.heap.size Pb I) (hIx:∀c,BT w.heap.size Pb (Ix c)) (h0:I [] w) (a₁:α->World->Act) (wA:α->World->World) (hwA:∀x W,Br W (wA x W)) (hKg:∀x W,w.heap.size<=W.heap.size->Kp W (wA x W))
  (hassign:∀(l:Nat) (x:α) (W:World) (K:Act->World->Prop),K (a₁ x W) (wA x W)->
   assign.wpIn (Fence.wide.inRound l) 7 P (Exit.then K (λ_ _ _=>False)) {tmps:=(ps.zip (aa x)).foldl (λt (p,v)=>t.setIfInBounds p v) a.tmps,defers:=[]} W)
  (hbody:∀(l:Nat)(Y:List α)(x:α)(W V:World),ajr (wA x W) V->I Y V->Y.length<N->body.wpIn (Fence.wide.inRound l) 7 P (ownPostG w.heap.size Kp I Ix (Y++[x]) V) (a₁ x W) V)
  (hdone:∀(D:Nat)(xs:List α)(W:World),w.heap.size<=D->S xs W->I xs W->W.heap[D]?=some (.deferred (some []))->Q .normal {a with defers:={target:=.collected D,args:=#[]}::a.defers} W)
  (hstop:∀(D:Nat)(c:Code)(Y:List α)(W:World),w.heap.size<=D->Sp Y->Ix c Y W->W.heap[D]?=some (.deferred (some []))->c.wp P Q {a with defers:={target:=.collected D,args:=#[]}::a.defers} W) :
  (Code.rangeFunc g ps assign body).wp P Q a w:=by
 refine(wpIn_wide (n:=9)).1 (wpIn_rangeFunc λfn aD=>?_)
 let rec_:LoopState->Option Code->Loop:=λst pe=>{state:=st,pending:=pe,fn,tmps:=a.tmps,params:=ps,assign,body,defers:=w.heap.size}
 have U:∀st pe,rec_ st pe={state:=st,pending:=pe,fn,tmps:=a.tmps,params:=ps,assign,body,defers:=w.heap.size}:=λ_ _=>rfl
 clear_value rec_
 have ae:∀{J:List α->World->Prop},BT w.heap.size Pb J->∀{s:List α}{W:World}{q:Nat}{o:Obj}(o':Obj),J s W->w.heap.size<=q->W.heap[q]?=some o->o.isCells=false->J s (W.putObj q o'):=λhJ _ W q o o' hs hq ho hc=>
  hJ _ _ _ _ hs (grownBy_putObj' W q o') (λr e=>by cases e;exact .inl ⟨hq,o,ho,hc⟩)
 have al:∀{J:List α->World->Prop},BT w.heap.size Pb J->∀{s:List α}{W:World}(o:Obj),J s W->J s (W.alloc o):=λhJ _ W o hs=>hJ _ _ _ none hs (MR W o none) (λr e=>by cases e);obtain⟨W1,ac⟩:∃W1,(w.alloc (.deferred (some []))).alloc (.loop (rec_ .ready none))=W1:=⟨_,rfl⟩;have aG:W1.heap[w.heap.size+1]?=some (.loop (rec_ .ready none)):=by rw[<-ac];have:=AT (w.alloc (.deferred (some []))) (.loop (rec_ .ready none));rwa[DN]at this
 have aI:W1.heap[w.heap.size]?=some (.deferred (some [])):=by rw[<-ac];exact(Bg _ _ _ sm).trans (AT w _)
 have aJ:I [] W1:=by rw[<-ac];exact al hI _ (al hI _ h0)
 have aE:Br w W1:=by rw[<-ac];exact((AH _ w).alloc (AC _) _).alloc sm _
 have aL:W1.heap.size=w.heap.size+1+1:=by rw[<-ac];simp
 refine⟨w.heap.size+1,[{target:=.collected w.heap.size,args:=#[]}],W1,{target:=.fn (.func gf) lb,args:=#[.func (.yield (w.heap.size+1)) #[] #[]]},W1,gf,
  #[.func (.yield (w.heap.size+1)) #[] #[]]++lb,W1,?_,?_,?_,?_,λ_=>(by decide),?_⟩
 ·rw[<-ac,U];exact run_enterLoop_outer _ _ _ _ _
 ·simp only[resolve,hg];simp[go_sem]
 ·intro f' aM;trivial
 ·simp[invoke,go_sem,eg]
 ·have y:∀{A B:World}{row:Option Nat},A.grownBy B row->(∀r,row=some r->(W1.heap.size<=r/\∃o:Obj,A.heap[r]?=some o/\o.isWalk=true)∨Pb r A B)->∀q,w.heap.size<=q->q<W1.heap.size->∀o,A.heap[q]?=some o->B.heap[q]?=some o:=λa2 j q h1 h2 o ho=>
   (a2.block q (AD.1 ho).1 (λe=>by
    rcases j q e.symm with⟨h,_⟩|h
    ·omega
    ·have:=aF q _ _ h;omega)).trans ho
  have own:∀{A B:World}{row:Option Nat},(∀r,row=some r->(W1.heap.size<=r/\∃o:Obj,A.heap[r]?=some o/\o.isWalk=true)∨Pb r A B)->∀r,row=some r->(w.heap.size<=r/\∃o:Obj,A.heap[r]?=some o/\o.isCells=false)∨Pb r A B:=λj r e=>by
   rcases j r e with⟨h,o,ho,hw⟩|h
   ·exact .inl ⟨by omega,o,ho,Obj.not_cells_of_walk hw⟩
   ·exact .inr h
  refine (ap (w.heap.size+1)
   (λY W=>I Y W/\W.heap[w.heap.size+1]?=some (.loop (rec_ .ready none))/\W.heap[w.heap.size]?=some (.deferred (some [])))
   (λY W=>∃c,Ix c Y W/\W.heap[w.heap.size+1]?=some (.loop (rec_ .done (some c)))/\W.heap[w.heap.size]?=some (.deferred (some [])))
   W1 aE
   (λs A B row hs a2 j=>⟨hI s A B row hs.1 a2 (own j),y a2 j _ om om _ hs.2.1,y a2 j _ om om _ hs.2.2⟩)
   (λs A B row hs a2 j=>by obtain⟨c,hc,hl,hk⟩:=hs;exact⟨c,hIx c s A B row hc a2 (own j),y a2 j _ om om _ hl,y a2 j _ om om _ hk⟩)
   ?_ ⟨aJ,aG,aI⟩).mono ?_
  ·rintro Y x W ⟨hi,hl,hk⟩ ar;have ax:w.heap.size+1<W.heap.size:=(AD.1 hl).1;have hy:=run_yield (P:=P) (args:=aa x) hl (by rw[U];exact aw x);rw[U]at hy;obtain⟨WA,ai⟩:∃X,wA x W=X:=⟨_,rfl⟩;have am:Br W WA:=by rw[<-ai];exact hwA x W
   have af:WA.heap[w.heap.size+1]?=some (.loop (rec_ .ready none)):=(am.block _ ax).trans hl;have az:WA.heap[w.heap.size]?=some (.deferred (some [])):=(am.block _ om).trans hk;have aC:I Y WA:=hI _ _ _ none hi (Km am) (λr e=>by cases e);have aH:Kp W WA:=by rw[<-ai];exact hKg x W om
   have aq:w.heap.size+1<WA.heap.size:=(AD.1 af).1;refine⟨fn,_,assign,body,hy,roundIn_of_wpIn aD (hassign _ x W _ ?_)⟩;rw[ai];refine⟨_,run_beginRound af (by rw[U]),?_⟩;obtain⟨V,hV⟩:∃V,WA.putObj (w.heap.size+1) (.loop {rec_ .ready none with state:=.busy})=V:=⟨_,rfl⟩;rw[hV];have ay:V.heap[w.heap.size+1]?=some (.loop {rec_ .ready none with state:=.busy}):=by rw[<-hV];exact apF aq
   have aA:V.heap[w.heap.size]?=some (.deferred (some [])):=by rw[<-hV];exact(Cm om).trans az
   have av:Kp W V:=by rw[<-hV];exact ao aH (hKb _ _ _ _ om af rfl rfl)
   have aB:I Y V:=by rw[<-hV];exact ae hI _ aC om af rfl
   have aK:ajr (wA x W) V:=by
    rw[ai,<-hV];refine⟨by simp[World.putObj],λk cs t f hc=>(Cm (λe=>?_)).trans hc⟩;rw[e,af]at hc
    cases hc
   refine wpIn_mono (hbody _ Y x W V aK aB ar) ?_;have ag:∀(Z:Option Code) (H:World),KeepsFrom w.heap.size V H->
     (Instr.endRound (w.heap.size+1) Z).run P H=.ok (bool Z.isNone) (H.putObj (w.heap.size+1) (.loop (rec_ (if Z.isNone then .ready else .done) Z)))/\
     H.heap[w.heap.size+1]?=some (.loop {rec_ .ready none with state:=.busy})/\
     (H.putObj (w.heap.size+1) (.loop (rec_ (if Z.isNone then .ready else .done) Z))).heap[w.heap.size+1]?=some (.loop (rec_ (if Z.isNone then .ready else .done) Z))/\
     (H.putObj (w.heap.size+1) (.loop (rec_ (if Z.isNone then .ready else .done) Z))).heap[w.heap.size]?=some (.deferred (some [])):=λZ H ab=>by
    have a6:=ab.same _ _ om ay rfl;have a1:=ab.same _ _ (AC _) aA rfl;have aj:=run_endRound (P:=P) Z a6;rw[U]at aj;refine⟨?_,a6,apF (AD.1 a6).1,(Cm om).trans a1⟩;rw[U];exact aj
   have a7:∀(c:Code)(H:World),KeepsFrom w.heap.size V H->Ix c (Y++[x]) H->∃(c':Code),Ix c' (Y++[x]) (H.putObj (w.heap.size+1) (.loop (rec_ .done (some c))))/\c'=c:=λc H ab ak=>by obtain⟨_,a6,_,_⟩:=ag (some c) H ab;exact⟨c,ae (hIx _) _ ak om a6 rfl,rfl⟩
   rintro e a3 H hp
   cases e with
   |normal=>
    obtain⟨ab,au,ak⟩:=hp;obtain⟨j,a6,a8,a1⟩:=ag none H ab;exact⟨_,_,j,.inl ⟨rfl,⟨ae hI _ ak om a6 rfl,a8,a1⟩,ao (ao av au) (hKb _ _ _ _ om a6 rfl rfl)⟩⟩
   |ret=>
    obtain⟨j,_,a8,a1⟩:=ag (some .ret) H hp.1;obtain⟨_,h,rfl⟩:=a7 .ret H hp.1 hp.2;exact⟨_,_,j,.inr ⟨rfl,_,h,a8,a1⟩⟩
   |exit id=>
    obtain⟨j,_,a8,a1⟩:=ag (some (.exit id)) H hp.1;obtain⟨_,h,rfl⟩:=a7 (.exit id) H hp.1 hp.2;exact⟨_,_,j,.inr ⟨rfl,_,h,a8,a1⟩⟩
   |goto t=>
    obtain⟨j,_,a8,a1⟩:=ag (some (.goto t)) H hp.1;obtain⟨_,h,rfl⟩:=a7 (.goto t) H hp.1 hp.2;exact⟨_,_,j,.inr ⟨rfl,_,h,a8,a1⟩⟩
   |panic ch=>exact hp.elim
   |outgrown=>exact hp.elim
  ·rintro e W2 ⟨⟨v,rfl⟩,(⟨xs,hS,hi,hl,hk⟩|⟨Y,hSp,c,hi,hl,hk⟩)⟩
   ·exact⟨none,_,by have:=run_endLoop (P:=P) hl (by rw[U];simp);rw[U]at this;exact this,hdone _ xs _ (AC _) (hSk _ _ _ _ _ om hl rfl hS) (ae hI _ hi om hl rfl) ((Cm om).trans hk)⟩
   ·exact⟨some c,_,by have:=run_endLoop (P:=P) hl (by rw[U];simp);rw[U]at this;exact this,wpIn_wide.2 (hstop _ c Y _ (AC _) hSp (ae (hIx c) _ hi om hl rfl) ((Cm om).trans hk))⟩
end
section
open Go Go.RowKit Go.Sort
def OF{β:Type}(B:Nat)(Pb:Nat->Prop)(J:β->World->Prop):Prop:=
 ∀(s:β)(W Z:World)(row:Option Nat),J s W->W.grownBy Z row->(∀r,row=some r->(B<=r/\∃o:Obj,W.heap[r]?=some o/\o.isWalk=true)∨Pb r)->J s Z
def BL{β:Type}(B:Nat)(Pb:Nat->Prop)(I:β->World->Prop):Prop:=
 ∀(s:β)(W Z:World)(row:Option Nat),I s W->W.grownBy Z row->(∀r,row=some r->(B<=r/\∃o:Obj,W.heap[r]?=some o/\o.isCells=false)∨Pb r)->I s Z
def abI{α:Type}(F:Fence)(n:Nat)(P:Program)(g:Nat)(I:Array Value)(X:α->Array Value)(D:World->World->Prop)(Pb:Nat->Prop)(S H:List α->Prop)(N:Nat)(w:World):Prop:=
 ∀(l:Nat) (J U:List α->World->Prop) (W:World),Below w.heap.size w W->OF W.heap.size Pb J->OF W.heap.size Pb U->
  (∀Z x V,J Z V->Z.length<N->YieldAt F (n-1) P l (X x) V λe Y=>(e=.returned (bool true)/\J (Z++[x]) Y/\D V Y)∨(e=.returned (bool false)/\U (Z++[x]) Y))->
  J [] W->
  CallsIn F n P g (#[.func (.yield l) #[] #[]]++I) W λe Y=>(∃v,e=.returned v)/\((∃xs,S xs/\J xs Y)∨(∃Z,H Z/\U Z Y))
theorem BL.and{β:Type}{B:Nat}{Pb:Nat->Prop}{I U:β->World->Prop}(h:BL B Pb I)(N:BL B Pb U):BL B Pb (λs W=>I s W/\U s W):=λs W V row Z X Y=>⟨h s W V row Z.1 X Y,N s W V row Z.2 X Y⟩
theorem BL.pure{β:Type}(B:Nat)(Pb:Nat->Prop)(p:β->Prop):BL B Pb (λs (_:World)=>p s):=λs W Y row Z _ _=>Z
theorem BL.box{β:Type}(B:Nat)(Pb:Nat->Prop)(b:Nat)(t:TypeId)(f:β->Value)(N:¬Pb b):BL B Pb (λs W=>Boxed W b t (f s)):=λs W J row Y V X=>
 (V.block b (AD.1 Y).1 (λe=>by
  rcases X b e.symm with⟨_,o,ho,U⟩|h
  ·have Z:W.heap[b]?=some (.cells #[f s] t (0,0)):=Y;rw[Z]at ho;cases ho;cases U
  ·exact N h)).trans Y
theorem BL.below{β:Type}{B Z:Nat}{Pb:Nat->Prop}{w:World}(hB:Z<=B)(V:Z<=w.heap.size)(N:∀r,Pb r->Z<=r):BL B Pb (λ(_:β) W=>Below Z w W):=λs W J row Y U X=>
 Y.grown U (AS V Y.size) (λk e=>by rcases X k e with⟨h,_⟩|h;exact AS hB h;exact N k h)
theorem BL.size{β:Type}(B:Nat)(Pb:Nat->Prop)(n:Nat):BL B Pb (λ(_:β) W=>n<=W.heap.size):=λs W X row Z Y _=>AS Z Y.size
theorem al1{β:Type}{B:Nat}{Pb:Nat->Prop}{J:β->World->Prop}(h:OF B Pb J){s:β}{w w':World}(Z:J s w)(Y:Br w w'):J s w':=h s w w' none Z (Km Y) (λr e=>by cases e)
theorem adx{β:Type}{B:Nat}{Pb:Nat->Prop}{J:β->World->Prop}(h:OF B Pb J){s:β}{w:World}(Y:J s w){p:Nat}(Z:Pb p)(i:Nat)(u:Value):J s (w.setCell ⟨p,i,none⟩ u):=h s w _ (some p) Y ⟨rfl,rfl,rfl,by simp,λk _ hk=>AQ w ⟨p,i,none⟩ u k (λe=>hk (by rw[e]))⟩ (λr e=>by cases e;exact .inr Z)
theorem amM{P:Program}{α:Type}{g:Operand}{s:Array Tmp}{assign body:Code}{Q:Exit->Act->World->Prop}{a:Act}{w:World}{H:Nat}{lb:Array Value}
  (hg:a.eval g=.func (.func H) #[] lb) (eg:∀args w,(callFunc H args).run P w=.ok (.enter H args) w)
  {Y:α->Array Value} {X:World->World->Prop} {Pb:Nat->Prop} {S Sp:List α->Prop} {N:Nat} (U:abI Fence.wide 8 P H lb Y X Pb S Sp N w) (e:∀r,Pb r->r<w.heap.size)
  (a1:∀{A B C:World},X A B->X B C->X A C) (hKb:∀(W:World)(l:Nat)(o o':Obj),w.heap.size<=l->W.heap[l]?=some o->o.isCells=false->o.isWalk=false->X W (W.putObj l o')) (j:∀x,(Y x).size=s.size)
  (I:List α->World->Prop) (y:Code->List α->World->Prop) (hI:BL w.heap.size Pb I) (hIx:∀c,BL w.heap.size Pb (y c)) (h0:I [] w) (a₁:α->Act)
  (hassign:∀(l:Nat) (x:α) (W:World) (K:Act->World->Prop),K (a₁ x) W->
   assign.wpIn (Fence.wide.inRound l) 7 P (Exit.then K (λ_ _ _=>False)) {tmps:=(s.zip (Y x)).foldl (λt (p,v)=>t.setIfInBounds p v) a.tmps,defers:=[]} W)
  (hbody:∀(l:Nat)(Z:List α)(x:α)(W:World),I Z W->Z.length<N->body.wpIn (Fence.wide.inRound l) 7 P (ownPostG w.heap.size X I y (Z++[x]) W) (a₁ x) W)
  (hdone:∀(D:Nat)(xs:List α)(W:World),w.heap.size<=D->S xs->I xs W->W.heap[D]?=some (.deferred (some []))->Q .normal {a with defers:={target:=.collected D,args:=#[]}::a.defers} W)
  (hstop:∀(D:Nat)(c:Code)(Z:List α)(W:World),w.heap.size<=D->Sp Z->y c Z W->W.heap[D]?=some (.deferred (some []))->c.wp P Q {a with defers:={target:=.collected D,args:=#[]}::a.defers} W)
  (hKr:∀W,X W W) :
  (Code.rangeFunc g s assign body).wp P Q a w:=
 NL hg eg (Pb:=λr _ _=>Pb r) (S:=λxs _=>S xs) (λl J Jx W h1 h2 h3 h4 h5=>U l J Jx W h1 h2 h3 h4 h5) (λr _ _ h=>e r h) (λ_ _ _ _ _ _ _ _ h=>h) a1 hKb j I y hI hIx h0 (λx _=>a₁ x) (λ_ W=>W) (λ_ _=>AH _ _) (λ_ W _=>hKr W)
  (λl x W K hK=>hassign l x W K hK) (λl Z x W V _ hI hN=>hbody l Z x V hI hN) hdone hstop
end
end Go.Proofs.YtaamacoicojhnaaGreat
