/- Proofs over the given program, part 6. -/
import Derived.Test.YtaamacoicojhnaaGreatZQ5
set_option linter.unusedVariables false
set_option linter.unusedSimpArgs false
set_option maxRecDepth 100000
set_option maxHeartbeats 16000000
open Go.Proofs.Tryz
open Go.Proofs.Tryz renaming prog→ZP
open Go.World(cell? frozen?)
open Option renaming some→E,none→O
open Go.Value renaming int→R,slice→T,pointer→L,bool→i6,tuple→ta,agg→i8
open Go.IntKind renaming i64→K
open Bool renaming false→M,true→G
open Go renaming World→Wa,Value→Vk
open Go.Ending renaming returned→ra
open Go.Obj renaming cells→i7
open List renaming length→lc
namespace Go.Proofs.YtaamacoicojhnaaGreat
open Go.RowKit Go.Sort
theorem adY:(ZP.info? 3).map (λi=>(i.zero,i.size,i.bytes))=E (E (R K 0),1,8):=by kernel_rfl
def Cr(us:List Bool)(n:Int):Bool:=decide (0<=n)&&us.getD n.toNat M
theorem aaR{X:Nat->Prop}{J:Nat->Nat}{B U D size:Nat}{C:Vk}{A:List Vk}{fr:List Int}{us:List Bool}{ds:Lb}(n:Int)(w:Wa)(h:BB X J B U D C A size fr us ds w) :Calls ZP 233 #[L (E ⟨B,0,O⟩),R K n] w λe w'=>e=ra (i6 (Cr us n))/\La w w':=by
 have c2:w.cell? ⟨B,2,O⟩=E (T (E ⟨U,0,O⟩) (lc us) (lc us)):=by simp[cell?,h.box]
 have HD:=AA (λq=>AN w q)
 by_cases h0:0<=n
 ·obtain⟨k,rfl⟩:=Mb h0;have s:decide ((k:Int)>=0)=G:=by simp
  have V:decide ((0:Int)<=(k:Int))=G:=by simp
  by_cases Y:k<lc us
  ·have v:decide ((k:Int)<(lc us:Int))=G:=by simp;omega
   have I:decide (k<lc us)=G:=by simp;omega
   have N:us[k]?=E us[k]:=Ar Y;obtain⟨y,H⟩:∃y,us[k]=y:=⟨_,rfl⟩;rw[H]at N;have j:w.cell? ⟨U,k,O⟩=E (i6 y):=by simp[cell?,h.used,N]
   have Z:Cr us (k:Int)=y:=by unfold Cr;rw[Aa,DZ,N];simp
   have i0:(0:Int)<=(k:Int):=by omega
   have i1:(k:Int)<(lc us:Int):=by omega
   rw[Z];clear h Z N H h0 Y;go_enter func233,ntmps233;go_wp2;go_ret;exact⟨rfl,AH _ _⟩
  ·have v:decide ((k:Int)<(lc us:Int))=M:=by simp;omega
   have I:decide (k<lc us)=M:=by simp;omega
   have Z:Cr us (k:Int)=M:=by unfold Cr;rw[Aa,DZ,GT om];simp
   rw[Z];clear h Z h0 Y;go_enter func233,ntmps233;go_wp2;go_ret;exact⟨rfl,AH _ _⟩
 ·have s:decide (n>=0)=M:=by simp;omega
  have V:decide (0<=n)=M:=by simp;omega
  have Z:Cr us n=M:=by unfold Cr;rw[V];rfl
  rw[Z];clear h Z h0;go_enter func233,ntmps233;go_wp2;go_ret;exact⟨rfl,AH _ _⟩
theorem an8{w:Wa}{e:TypeId}{a:Option Addr}{n c:Nat}{xs:List Vk}{x:Vk}(h:w.ownsRow 0 e 1 (T a (n+1) c) (n+1) (xs++[x])):w.ownsRow 0 e 1 (T a n c) n xs/\∃g,a=E ⟨g,0,O⟩/\w.cell? ⟨g,n,O⟩=E x:=by
 have Y:lc xs=n:=by have:=h.1;simp at this;omega
 rcases h.2 with⟨_,h0⟩|⟨g,cap,Z,X,h1,h2,h3,h4,h5,h6⟩
 ·omega
 ·cases X
  refine⟨⟨by omega,.inr ⟨g,c,Z,rfl,h1,h2,by omega,h4,h5,?_⟩⟩,g,rfl,?_⟩
  ·have:=congrArg (List.take (n*1)) h6;rw[List.take_take,Nat.min_eq_left om,List.take_left' om]at this;exact this
  ·simp only[cell?,h2];have:Z[n]?=E x:=by
    have:=congrArg (λl=>l[n]?) h6;rw[FT,Lq om,DY om,Y,FG]at this
    simpa using this
   simpa using this
def api(X:Nat->Prop)(Y:Nat->Nat)(B U D size:Nat)(V:List Vk)(fr:List Int)(us:List Bool)(ds:Lb)(w:Wa)(e:Ending)(w':Wa):Prop:=
 e=ra (ta #[R K (fr.getLast?.getD 0),i6 (!fr.isEmpty)])/\(∃fv' Z,BB (λk=>X k∨w.heap.size<=k) Z B U D fv' V size fr.dropLast us ds w')/\Chg X w w'
theorem aig{X:Nat->Prop}{N:Nat->Nat}{B U D size:Nat}{fv:Vk}{j:List Vk}{fr:List Int}{us:List Bool}{ds:Lb}(w:Wa)(h:BB X N B U D fv j size fr us ds w)(I:lc fr<=1000000) :Calls ZP 232 #[L (E ⟨B,0,O⟩)] w (api X N B U D size j fr us ds w):=by
 obtain⟨a,c,rfl,J,_⟩:=SlK.own h.free.1.1;have c0:w.cell? ⟨B,0,O⟩=E (T a (lc fr) c):=by simp[cell?,h.box]
 have HH:=AA h
 rcases List.eq_nil_or_concat fr with rfl|⟨l,x,rfl⟩
 ·clear h I;go_enter func232,ntmps232;go_wp2;go_ret2;exact⟨rfl,⟨_,N,HH.out.wide λ_ _ hx=>.inl hx⟩,Chg.refl _ _⟩
 ·have Z:=h.free.1.1;rw[List.concat_eq_append]at *;have Y:(l++[x]).length=lc l+1:=by simp
  rw[Y,Aj]at Z;rw[Y]at c0 I J;obtain⟨A,g,rfl,r2⟩:=an8 Z;obtain⟨m,v⟩:∃m,lc l=m:=⟨_,rfl⟩;have e0:decide (((m+1:Nat):Int)=0)=M:=by simp;omega
  have e1:(((m+1:Nat):Int)==0)=M:=by simp;omega
  have e2:IntKind.i64.wrap (((m+1:Nat):Int)-1)=(m:Int):=by rw[BK];omega
  obtain⟨C,H,q3,_⟩:=h.setF (fv':=T (E ⟨g,0,O⟩) (lc l) c) (fr':=l) (V:=w) A (Chg.refl _ _) (λk e=>.inl e);rw[v]at C H c0 r2 J I;obtain⟨Ta,s⟩:∃Ta,m+1=Ta:=⟨_,rfl⟩;rw[s]at e0 e1 e2 c0 J I;have i0:(0:Int)<=(m:Int):=by omega
  have i1:(m:Int)<(Ta:Int):=by omega
  have i2:(m:Int)<=(c:Int):=by omega
  have i3:m<=c:=by omega
  have Q1:=AA C;have Q2:=AA H;clear h Z A C H v s Y;go_enter func232,ntmps232;go_wp2;go_ret2;refine⟨by simp,⟨_,_,by rw[LJ];exact Q1.out⟩,Q2.out⟩
theorem abn{X:Nat->Prop}{a2:Nat->Nat}{B U D size:Nat}{fv:Vk}{dv:List Vk}{fr:List Int}{us:List Bool}{ds:Lb}(x:Int)(w:Wa)(h:BB X a2 B U D fv dv size fr us ds w)(hn:lc fr<=1000000) :Calls ZP 138 #[L (E ⟨B,0,O⟩),R K x] w λe w'=>(∃v,e=ra v)/\(∃fv' Z,BB (λk=>X k∨w.heap.size<=k) Z B U D fv' dv size (fr++[x]) us ds w')/\Chg X w w':=by
 obtain⟨i0,hi,a8,a7,a6⟩:=Vh adY;obtain⟨a,c,rfl,ab,_⟩:=SlK.own h.free.1.1;have c0:w.cell? ⟨B,0,O⟩=E (T a (lc fr) c):=by simp[cell?,h.box]
 have C:=AL w (i7 #[R K x] 3);have N:=DJ h.free.1.1 C;have I:SlK 1 (w.alloc (i7 #[R K x] 3)) (E ⟨w.heap.size,0,O⟩) 1 [R K x]:=by
  have hx:(w.alloc (i7 #[R K x] 3)).heap[w.heap.size]?=E (i7 #[R K x] 3 (0,0)):=AT _ _;refine⟨rfl,.inr ⟨_,0,rfl,by simp,λi u hu=>?_⟩⟩;have e:(w.alloc (i7 #[R K x] 3)).cell? ⟨w.heap.size,0+i,O⟩=(#[R K x]:Array Vk)[0+i]?:=by simp only[cell?,hx];simp
  rw[e,DD];show(List.toArray [R K x])[i]?=E u;rw[Dy];exact hu
 have HH:=AA h;have HF:Hid (∀Y J,J.ownsRow 0 3 1 Y (lc fr+1) (fr.map (Value.int .i64)++[.int .i64 x])->(w.alloc (i7 #[.int .i64 x] 3)).grownBy J (Value.slice a (lc fr) c).ownBlock->(Y.ownBlock=(Value.slice a (lc fr) c).ownBlock∨Y.ownBlock=E (w.alloc (i7 #[.int .i64 x] 3)).heap.size)->
   (∃Z,BB (λk=>X k∨w.heap.size<=k) Z B U D Y dv size (fr++[x]) us ds (J.setCell ⟨B,0,O⟩ Y))/\Chg X w (J.setCell ⟨B,0,O⟩ Y)/\J.frozen? ⟨B,0,O⟩=M/\(∃u,J.cell? ⟨B,0,O⟩=E u)/\∃j c1,Y=T j (lc fr+1) c1):=λY J ho hg ac=>by
  obtain⟨q1,q2,q3,q4⟩:=h.setF (fv':=Y) (fr':=fr++[x]) (V:=J) (by rw[List.length_append,Aj];exact ho) ((Chg.of_same C).grown hg λg e _=>e) (λg e=>by
   rcases ac with e2|e2
   ·rw[e2]at e;exact .inl e
   ·rw[e2]at e;have:(w.alloc (i7 #[R K x] 3)).heap.size=w.heap.size+1:=by simp
    have:=AK e
    right
    omega)
  obtain⟨j,c1,e,_,_⟩:=SlK.own ho;exact⟨⟨_,q1⟩,q2,q3,q4,j,c1,e⟩
 clear h ab C;go_enter func138,ntmps138
 go_wp2_with (at_builtin;refine JA rfl _ _ 30 rfl 0 3 i0 (.int .i64 0) 1 8 underlying30 hi a8 a7 a6 rfl (by decide) _ (lc fr) (fr.map (Value.int .i64)) rfl N (E ⟨w.heap.size,0,O⟩) 1 1 [.int .i64 x] rfl I (by simp[Value.oneCell']) (by unfold maxLen;omega) om (AR _) ?_;intro Y J A s H;obtain⟨⟨Z,g1⟩,g2,g3,⟨u,g4⟩,j,c1,aa⟩:=HF.out Y J A s H;subst aa;have G1:=AA g1;have G2:=AA g2;clear A s H N I g1 g2)
 go_end0
 exact⟨⟨_,rfl⟩,⟨_,_,G1.out⟩,G2.out⟩
structure Bc where
 num:Nat
 start:Nat
 warm:Nat
 data:List Int
 buf:Nat
structure RdM where
 ph:Nat
 holds:Bool
 buf:Nat
 warm:Nat
 own:Nat
 ahead:Nat
 tail:List Int
 ended:Bool
structure WkM where
 ph:Nat
 blk:Bc
 node:Nat
 done:Nat
 hits:List AF
structure CfM where
 W:Nat
 K:Nat
 R:Nat
 Q:Nat
 O:Nat
 S:Nat
 F:Nat
 L:Nat
 scan:Nat->Nat->List Int->Nat->Nat->Nat×Nat×List AF×Bool
 br:Bool
 ans:List Bool
def CfM.wm(c:CfM):Nat:=c.L-1
structure PlM where
 rs:Lb
 told:Nat
 off:Nat
 tk:List AF
 fr:List Nat
 us:List Bool
 ds:Lb
 q:List Bc
 shut:Bool
 next:Nat
 rg:List (Option (List AF))
 out:List AF
 ended:Bool
 number:Nat
 read:Nat
 took:List AF
 cancelled:Bool
 rd:RdM
 wk:List WkM
 mph:Nat
 left:List AF
 eph:Nat
def ape:Bc:=⟨0,0,0,[],0⟩
def wk0(ph:Nat):WkM:=⟨ph,ape,0,0,[]⟩
section
variable (c:CfM)(s:PlM)
def Bn(rs:Lb):PlM:=
 ⟨rs,0,0,[],(List.range c.R).reverse,List.replicate c.R M,List.replicate c.R [],[],M,0,List.replicate c.R O,[],M,0,0,[],M,⟨1,M,0,0,0,0,[],M⟩,List.replicate c.W (wk0 1),1,[],1⟩
def Bv(n:Nat):PlM:={s with fr:=if Cr s.us n then s.fr++[n] else s.fr,us:=if Cr s.us n then s.us.set n M else s.us,ds:=if Cr s.us n then s.ds.set n [] else s.ds}
def Ep:Bool:=!s.q.isEmpty || s.shut
def Gt:Bool:=(match s.rg with|some _::_=>G|_=>M) || (decide (s.rd.ph=5)&&decide (s.next=s.number))
def IV:Bool:=!s.out.isEmpty || s.ended
def Ck:Bool:=if s.rd.ph=5 then M else if s.cancelled then G else if s.rd.ph=1 then Du s.next c.R s.number else if s.rd.ph=3 then decide (lc s.q<c.Q) else G
def Er(i:Nat):Bool:=match s.wk[i]? with|none=>M|some w=>if w.ph=4 then M else if w.ph=1 then Ep s else G
def EX:Bool:=if s.mph=3 then M else if s.cancelled then G else if s.mph=1 then Gt s else decide (lc s.out<c.O)
def Fx:Bool:=if s.eph=2 then M else IV s
def Bj(t:Nat):Bool:=if t=0 then Ck c s else if t<=c.W then Er s (t-1) else if t=c.W+1 then EX c s else if t=c.W+2 then Fx s else M
def takeR:PlM:=
 let n:=s.fr.getLast?.getD 0
 {s with fr:=s.fr.dropLast,us:=s.us.set n G,ds:=(s.ds.set n []).set n s.rd.tail,rd:={s.rd with ph:=2,holds:=G,buf:=n,warm:=lc s.rd.tail,own:=0,ahead:=s.read}}
def backR:PlM:=let t:=Bv s s.rd.buf;{t with rd:={t.rd with holds:=M}}
def readR:PlM:=
 let b:=BR ((c.K:Int)-s.rd.own) s.rs
 if s.rs.isEmpty then
  if 0<s.rd.own then {s with rd:={s.rd with ended:=G,ph:=3}}
  else let t:=backR s;{t with rd:={t.rd with ph:=4}}
 else {s with
  rs:=EB ((c.K:Int)-s.rd.own) s.rs,told:=s.told+lc b,ds:=s.ds.set s.rd.buf (s.ds.getD s.rd.buf []++b),read:=s.read+lc b,
  rd:={s.rd with own:=s.rd.own+lc b,tail:=(s.rd.tail++b).drop ((s.rd.tail++b).length-c.wm),ph:=if s.rd.own+lc b=c.K then 3 else s.rd.ph}}
def putR:PlM:=
 {s with q:=s.q++[⟨s.number,c.F+s.rd.ahead,s.rd.warm,s.ds.getD s.rd.buf [],s.rd.buf⟩],number:=s.number+1,rd:={s.rd with holds:=M,ph:=if s.rd.ended then 4 else 1}}
def shutR:PlM:={s with shut:=G,rd:={s.rd with ph:=5}}
def stopR:PlM:=shutR (if s.rd.holds then backR s else s)
def stepR:PlM:=if s.cancelled then stopR s else if s.rd.ph=1 then takeR s else if s.rd.ph=2 then readR c s else if s.rd.ph=3 then putR c s else shutR s
def setW(i:Nat)(f:WkM->WkM):PlM:={s with wk:=s.wk.modify i f}
def takeW(i:Nat):PlM:=match s.q with
 |[]=>setW s i λw=>{w with ph:=4}
 |b::q=>{setW s i (λw=>{w with ph:=2,blk:=b})with q:=q}
def scanW(i:Nat):PlM:=setW s i λw=>
 let r:=c.scan w.blk.start w.blk.warm w.blk.data w.node w.done
 {w with node:=r.1,done:=r.2.1,hits:=w.hits++r.2.2.1,ph:=if r.2.2.2 then 3 else w.ph}
def leaveW(i:Nat):PlM:=match s.wk[i]? with
 |none=>s
 |some w=>setW (Bv s w.blk.buf) i λ_=>wk0 1
def putWM(i:Nat):PlM:=match s.wk[i]? with
 |none=>s
 |some w=>leaveW {s with rg:=s.rg.set (w.blk.num-s.next) (E w.hits)} i
def phW(i:Nat):Nat:=match s.wk[i]? with|none=>4|some w=>w.ph
def stopW(i:Nat):PlM:=
 let t:=if phW s i=1 then takeW s i else s
 if phW t i=4 then t else leaveW t i
def stepW(i:Nat):PlM:=if s.cancelled then stopW s i else if phW s i=1 then takeW s i else if phW s i=2 then scanW c s i else putWM s i
def takeM:PlM:=match s.rg with
 |some h::r=>if h.isEmpty then {s with rg:=r++[O],next:=s.next+1} else {s with rg:=r++[O],next:=s.next+1,left:=h,mph:=2}
 |_=>{s with ended:=G,mph:=3}
def flushM:PlM:=match s.left with
 |[]=>s
 |h::t=>{s with out:=s.out++[h],left:=t,mph:=if t.isEmpty then 1 else s.mph}
def Hr:PlM:={s with rg:=List.replicate (lc s.rg) O,left:=[],ended:=G,mph:=3}
def stepMg:PlM:=if s.cancelled then Hr s else if s.mph=1 then takeM s else flushM s
def offerE:PlM:=match s.out with
 |[]=>{s with eph:=2}
 |h::t=>if EH c.ans s.off then {s with off:=s.off+1,tk:=s.tk++[h],out:=t,took:=s.took++[h]} else {s with off:=s.off+1}
def Fr:PlM:=if s.out.isEmpty then {s with eph:=2} else {s with out:=[]}
def stepE:PlM:=if s.cancelled then Fr s else offerE c s
def Bi(t:Nat):PlM:=if t=0 then stepR c s else if t<=c.W then stepW c s (t-1) else if t=c.W+1 then stepMg s else stepE c s
def II:List Nat:=(List.range (c.W+3)).filter (Bj c s)
def EZ(n:Int):Option Nat:=(II c s)[Fz n (II c s).length]?
def Fi(n:Int):PlM:=match EZ c s n with|none=>s|some t=>Bi c s t
def Fd:Bool:=decide (s.rd.ph=5)&&s.wk.all (λw=>decide (w.ph=4))&&decide (s.mph=3)&&decide (s.eph=2)
def LN:PlM:=if s.cancelled || Fd s then s else {s with cancelled:=G}
end
def hW(x:WkM):List Bc:=if x.ph=2∨x.ph=3 then [x.blk] else []
def If(s:PlM):List Bc:=s.q++s.wk.flatMap hW
def rdB(r:RdM):List Nat:=if r.holds then [r.buf] else []
def Cu(s:PlM):List Nat:=rdB s.rd++(If s).map Bc.buf
theorem amN{α:Type}{l:List α}{i:Nat}{x:α}(h:l[i]?=E x):l=l.take i++x::l.drop (i+1):=by obtain⟨Z,e⟩:=AP.1 h;rw[<-e,List.getElem_cons_drop,Dx]
theorem amR{α:Type}{l:List α}{i:Nat}{x:α}(h:l[i]?=E x)(f:α->α):l.modify i f=l.take i++f x::l.drop (i+1):=by
 have U:=(AP.1 h).1
 apply Hn
 intro j;rw[GS]
 by_cases V:j<i
 ·have Z:¬i=j:=by omega
  rw[By (by rw[Ag];omega),MW V]
  cases l[j]?<;>simp[Z]
 ·have Y:(l.take i).length=i:=by rw[Ag];omega
  rw[DY om,Y]
  by_cases X:j=i
  ·subst X;rw[FG,h];simp
  ·obtain⟨d,rfl⟩:∃d,j=i+1+d:=⟨j-(i+1),by omega⟩;have Z:¬i=i+1+d:=by omega
   rw[show i+1+d-i=d+1 by omega,IP,Hm]
   cases l[i+1+d]?<;>simp[Z]
theorem aeg(n x:Nat):(List.range n).count x=if x<n then 1 else 0:=by
 induction n with
 |zero=>simp
 |succ n ih=>
  rw[El,En,ih,OM]
  by_cases h:n=x
  ·subst h;simp
  ·have e:(n==x)=M:=by simp[h]
   rw[e]
   by_cases h2:x<n
   ·have h3:x<n+1:=by omega
    simp[h2,h3]
   ·have h3:¬x<n+1:=by omega
    simp[h2,h3]
structure AW(c:CfM)(s:PlM):Prop where
 perm:(s.fr++Cu s).Perm (List.range c.R)
 ul:s.us.length=c.R
 dl:s.ds.length=c.R
 uf:∀x,x∈s.fr->s.us[x]?=some false
 ut:∀x,x∈Cu s->s.us[x]?=some true
section
variable {c:CfM}{s t:PlM}
theorem AW.cnt(h:AW c s)(x:Nat):s.fr.count x+(Cu s).count x=if x<c.R then 1 else 0:=by have:=h.perm.count_eq x;rw[En]at this;rw[this,aeg]
theorem AW.same(h:AW c s)(X:t.fr=s.fr)(Z:t.us=s.us)(U:lc t.ds=lc s.ds)(N:∀x,(Cu t).count x=(Cu s).count x):AW c t:=by have Y:(Cu t).Perm (Cu s):=OI.2 N;refine⟨?_,by rw[Z];exact h.ul,by rw[U];exact h.dl,by rw[X,Z];exact h.uf,λx V=>by rw[Z];exact h.ut x (Y.mem_iff.1 V)⟩;rw[X];exact(List.Perm.append_left _ Y).trans h.perm
theorem AW.give(h:AW c s)(n:Nat)(B:n∈Cu s)(I:t.fr=(Bv s n).fr)(U:t.us=(Bv s n).us)(A:lc t.ds=lc s.ds)(C:∀x,(Cu t).count x+(if x=n then 1 else 0)=(Cu s).count x):AW c t:=by
 have V:=h.ut n B;have Y:Cr s.us (n:Int)=G:=by unfold Cr;rw[DZ,Aa,V];simp
 have e1:(Bv s n).fr=s.fr++[n]:=by unfold Bv;dsimp only;rw[Lq Y]
 have e2:(Bv s n).us=s.us.set n M:=by unfold Bv;dsimp only;rw[Lq Y]
 rw[e1]at I;rw[e2]at U;have N:n<lc s.us:=(AP.1 V).1;have H:=h.cnt n;have D:=C n;rw[Lq rfl]at D;refine⟨?_,by rw[U,BG];exact h.ul,by rw[A];exact h.dl,λx Z=>?_,λx Z=>?_⟩
 ·refine(OI.2 λx=>?_).trans h.perm;rw[I,En,En,En,OM];have:=C x
  by_cases Z:x=n
  ·subst Z;simp at this⊢;omega
  ·have:¬n=x:=λe=>Z e.symm;simp[Z,this]at *;omega
 ·rw[U,Gr]
  by_cases X:n=x
  ·rw[Lq X,Lq N]
  ·rw[Lc X];rw[I]at Z
   rcases Bf.1 Z with h1|h1
   ·exact h.uf x h1
   ·exact absurd (Fq.1 h1).symm X
 ·have v:=Iv.2 Z;have j:=C x;have J:n≠x:=λe=>by
   subst e
   split at H<;>omega
  rw[U,Gr,Lc J];exact h.ut x (Iv.1 om)
theorem AW.take(h:AW c s)(n:Nat)(A:s.fr.getLast?=E n)(C:t.fr=s.fr.dropLast)(N:t.us=s.us.set n G)(v:lc t.ds=lc s.ds)(B:∀x,(Cu t).count x=(Cu s).count x+(if x=n then 1 else 0)):AW c t:=by
 have X:s.fr=s.fr.dropLast++[n]:=by obtain⟨l,e⟩:=List.getLast?_eq_some_iff.1 A;rw[e,LJ]
 have J:n∈s.fr:=by rw[X];simp
 have U:=h.uf n J;have I:n<lc s.us:=(AP.1 U).1;have D:=h.cnt n;have V:∀x,s.fr.count x=s.fr.dropLast.count x+(if x=n then 1 else 0):=λx=>by
  have:s.fr.count x=(s.fr.dropLast++[n]).count x:=by rw[<-X]
  rw[this,En,OM]
  by_cases Z:x=n
  ·subst Z;simp
  ·have:¬n=x:=λe=>Z e.symm;simp[Z,this]
 refine⟨?_,by rw[N,BG];exact h.ul,by rw[v];exact h.dl,λx Z=>?_,λx Z=>?_⟩
 ·refine(OI.2 λx=>?_).trans h.perm;rw[C,En,En,B x,V x];omega
 ·rw[C]at Z;have j:=Iv.2 Z;have h2:=V n;rw[Lq rfl]at h2;have H:n≠x:=λe=>by subst e;split at D<;>omega
  rw[N,Gr,Lc H];exact h.uf x (by rw[X];exact List.mem_append_left _ Z)
 ·rw[N,Gr]
  by_cases Y:n=x
  ·rw[Lq Y,Lq I]
  ·rw[Lc Y];have:=B x;rw[Lc (λe=>Y e.symm)]at this;exact h.ut x (Iv.1 (by have:=Iv.2 Z;omega))
end
structure Az(s:PlM):Prop where
 ph:1<=s.rd.ph/\s.rd.ph<=5
 ho:s.rd.holds=true↔(s.rd.ph=2∨s.rd.ph=3)
 wp:∀(i:Nat)(x:WkM),s.wk[i]?=some x->1<=x.ph/\x.ph<=4
 mp:1<=s.mph/\s.mph<=3
 ep:1<=s.eph/\s.eph<=2
section
variable {c:CfM}{s t:PlM}{i:Nat}{x:WkM}
theorem Ii{α:Type} [DecidableEq α] (g:Bc->α){l:List WkM}(h:l[i]?=E x)(f:WkM->WkM)(y:α):(((l.modify i f).flatMap hW).map g).count y+((hW x).map g).count y=((l.flatMap hW).map g).count y+((hW (f x)).map g).count y:=by
 rw[amR h f];have e:=congrArg (λl=>((List.flatMap hW l).map g).count y) (amN h)
 try dsimp only at e
 rw[e];simp only[List.flatMap_append,List.flatMap_cons,Aj,En];omega
theorem EQ(s:PlM)(y:Nat):(Cu s).count y=(rdB s.rd).count y+((s.q.map Bc.buf).count y+((s.wk.flatMap hW).map Bc.buf).count y):=by unfold Cu If;rw[Aj,En,En]
theorem KO(n y:Nat):([n]:List Nat).count y=if y=n then 1 else 0:=by
 rw[OM]
 by_cases h:y=n
 ·subst h;simp
 ·have:¬n=y:=λe=>h e.symm;simp[h,this]
theorem AW.takeW(h:AW c s)(Z:s.wk[i]?=E x)(X:x.ph=1):AW c (takeW s i):=by
 have h1:hW x=[]:=by unfold hW;rw[Lc om]
 unfold Proofs.YtaamacoicojhnaaGreat.takeW
 cases Y:s.q with
 |nil=>
  refine h.same rfl rfl rfl λy=>?_;rw[EQ,EQ];have:=Ii Bc.buf Z (λw=>{w with ph:=4}) y;rw[h1]at this;have h2:hW {x with ph:=4}=[]:=rfl;rw[h2]at this;simp only[setW]
  simpa using this
 |cons b q=>
  refine h.same rfl rfl rfl λy=>?_;rw[EQ,EQ,Y];have:=Ii Bc.buf Z (λw=>{w with ph:=2,blk:=b}) y;rw[h1]at this;have h2:hW {x with ph:=2,blk:=b}=[b]:=rfl;rw[h2]at this;simp only[setW,BO,DE,Iw,List.count_cons]at this⊢;omega
theorem AW.scanW(h:AW c s)(X:s.wk[i]?=E x)(Y:x.ph=2):AW c (scanW c s i):=by
 unfold Proofs.YtaamacoicojhnaaGreat.scanW;refine h.same rfl rfl rfl λy=>?_;rw[EQ,EQ];have:=Ii Bc.buf X (λw=>{w with node:=(c.scan w.blk.start w.blk.warm w.blk.data w.node w.done).1,done:=(c.scan w.blk.start w.blk.warm w.blk.data w.node w.done).2.1,hits:=w.hits++(c.scan w.blk.start w.blk.warm w.blk.data w.node w.done).2.2.1,ph:=if(c.scan w.blk.start w.blk.warm w.blk.data w.node w.done).2.2.2 then 3 else w.ph}) y;have h1:hW x=[x.blk]:=by unfold hW;rw[Lq (.inl Y)]
 have h2:∀(n d:Nat)(Z:List AF)(b:Bool),hW {x with node:=n,done:=d,hits:=Z,ph:=if b then 3 else x.ph}=[x.blk]:=λn d Z b=>by unfold hW;rw[Lq (by cases b<;>simp[Y])]
 rw[h1,h2]at this;simp only[setW];omega
theorem AW.leaveW(h:AW c s)(Z:s.wk[i]?=E x)(Y:x.ph=2∨x.ph=3):AW c (leaveW s i):=by
 have h1:hW x=[x.blk]:=by unfold hW;rw[Lq Y]
 have X:x.blk.buf∈Cu s:=by unfold Cu If;refine List.mem_append_right _ (Be.2 ⟨x.blk,List.mem_append_right _ (Ir.2 ⟨x,AX Z,by rw[h1];simp⟩),rfl⟩)
 unfold Proofs.YtaamacoicojhnaaGreat.leaveW;rw[Z];refine h.give x.blk.buf X rfl rfl ?_ λy=>?_
 ·simp only[setW,Bv];split<;>simp
 ·rw[EQ,EQ];have:=Ii Bc.buf Z (λ_=>wk0 1) y;have h2:hW (wk0 1)=[]:=rfl;rw[h1,h2,BO,DE,KO]at this;simp only[setW,Bv,DE,Iw]at this⊢;omega
theorem AW.ring(h:AW c s)(rg:List (Option (List AF))):AW c {s with rg:=rg}:=h.same rfl rfl rfl λ_=>rfl
theorem AW.putWM(h:AW c s)(Z:s.wk[i]?=E x)(Y:x.ph=2∨x.ph=3):AW c (putWM s i):=by unfold Proofs.YtaamacoicojhnaaGreat.putWM;rw[Z];exact(h.ring _).leaveW (s:={s with rg:=s.rg.set (x.blk.num-s.next) (E x.hits)}) Z Y
theorem KW{l:List WkM}(h:l[i]?=E x)(f:WkM->WkM):(l.modify i f)[i]?=E (f x):=by rw[GS,h];simp
theorem Fc(Z:s.wk[i]?=E x):phW s i=x.ph:=by unfold phW;rw[Z]
theorem AW.stopW(h:AW c s)(Z:s.wk[i]?=E x)(V:1<=x.ph/\x.ph<=3):AW c (stopW s i):=by
 unfold Proofs.YtaamacoicojhnaaGreat.stopW;rw[Fc Z]
 by_cases h1:x.ph=1
 ·dsimp only;rw[Lq h1];have Y:=h.takeW Z h1
  cases X:s.q with
  |nil=>
   have e:(Proofs.YtaamacoicojhnaaGreat.takeW s i).wk[i]?=E {x with ph:=4}:=by unfold Proofs.YtaamacoicojhnaaGreat.takeW;rw[X];exact KW Z _
   rw[Fc e,Lq rfl];exact Y
  |cons b q=>
   have e:(Proofs.YtaamacoicojhnaaGreat.takeW s i).wk[i]?=E {x with ph:=2,blk:=b}:=by unfold Proofs.YtaamacoicojhnaaGreat.takeW;rw[X];exact KW Z _
   rw[Fc e,Lc (show ¬(2=4) by decide)];exact Y.leaveW e (.inl rfl)
 ·dsimp only;rw[Lc h1,Fc Z,Lc om];exact h.leaveW Z om
theorem AW.stepW(h:AW c s)(Z:s.wk[i]?=E x)(Y:1<=x.ph/\x.ph<=3):AW c (stepW c s i):=by
 unfold Proofs.YtaamacoicojhnaaGreat.stepW;rw[Fc Z]
 split
 ·exact h.stopW Z Y
 ·split
  ·exact h.takeW Z (by assumption)
  ·split
   ·exact h.scanW Z (by assumption)
   ·exact h.putWM Z om
theorem NK{r:RdM}(h:r.holds=M):rdB r=[]:=by unfold rdB;rw[h];rfl
theorem KG{r:RdM}(h:r.holds=G):rdB r=[r.buf]:=by unfold rdB;rw[h];rfl
theorem AW.takeR(h:AW c s)(Y:s.rd.holds=M)(X:s.fr≠[]):AW c (takeR s):=by obtain⟨n,Z⟩:∃n,s.fr.getLast?=E n:=⟨_,MV X⟩;unfold Proofs.YtaamacoicojhnaaGreat.takeR;rw[Z];refine h.take n Z rfl rfl sm λy=>?_;rw[EQ,EQ,NK Y,KG (r:={s.rd with ph:=2,holds:=G,buf:=(E n).getD 0,warm:=lc s.rd.tail,own:=0,ahead:=s.read}) rfl,KO];simp only[CG,Iw];omega
theorem AW.backR(h:AW c s)(Z:s.rd.holds=G):AW c (backR s):=by
 have Y:s.rd.buf∈Cu s:=by unfold Cu;rw[KG Z];simp
 unfold Proofs.YtaamacoicojhnaaGreat.backR;refine h.give s.rd.buf Y rfl rfl ?_ λy=>?_
 ·simp only[Bv];split<;>simp
 ·rw[EQ,EQ,KG Z,NK (r:={(Bv s s.rd.buf).rd with holds:=M}) rfl,KO];simp only[Bv,Iw];omega
theorem AW.rdO(h:AW c s){t:PlM}(h1:t.fr=s.fr)(h2:t.us=s.us)(h3:lc t.ds=lc s.ds)(h4:t.q=s.q)(h5:t.wk=s.wk)(h6:t.rd.holds=s.rd.holds)(h7:t.rd.buf=s.rd.buf):AW c t:=by refine h.same h1 h2 h3 λy=>?_;rw[EQ,EQ,h4,h5];unfold rdB;rw[h6,h7]
theorem AW.readR(h:AW c s)(Z:s.rd.holds=G):AW c (readR c s):=by
 unfold Proofs.YtaamacoicojhnaaGreat.readR;dsimp only
 split
 ·split
  ·exact h.rdO rfl rfl rfl rfl rfl rfl rfl
  ·exact(h.backR Z).rdO rfl rfl rfl rfl rfl rfl rfl
 ·exact h.rdO rfl rfl sm rfl rfl rfl rfl
theorem AW.putR(h:AW c s)(Z:s.rd.holds=G):AW c (putR c s):=by unfold Proofs.YtaamacoicojhnaaGreat.putR;refine h.same rfl rfl rfl λy=>?_;rw[EQ,EQ,KG Z,NK (r:={s.rd with holds:=M,ph:=if s.rd.ended then 4 else 1}) rfl];simp only[Aj,BO,DE,En,Iw];omega
theorem AW.shutR(h:AW c s):AW c (shutR s):=h.rdO rfl rfl rfl rfl rfl rfl rfl
theorem AW.stopR(h:AW c s):AW c (stopR s):=by
 unfold Proofs.YtaamacoicojhnaaGreat.stopR
 by_cases Z:s.rd.holds=G
 ·rw[Lq Z];exact(h.backR Z).shutR
 ·rw[Lc Z];exact h.shutR
theorem AW.stepR(h:AW c s)(X:Az s)(h5:s.rd.ph≠5)(V:s.cancelled=M->s.rd.ph=1->s.fr≠[]):AW c (stepR c s):=by
 unfold Proofs.YtaamacoicojhnaaGreat.stepR;have Y:=X.ho
 cases U:s.cancelled with
 |true=>exact h.stopR
 |false=>
  have Z:¬(M=G):=by decide
  rw[Lc Z]
  split
  ·exact h.takeR (by cases N:s.rd.holds with|false=>rfl|true=>have:=Y.1 N;omega) (V U (by assumption))
  ·split
   ·exact h.readR (Y.2 (.inl (by assumption)))
   ·split
    ·exact h.putR (Y.2 (.inr (by assumption)))
    ·exact h.shutR
theorem AW.stepMg(h:AW c s):AW c (stepMg s):=by
 unfold Proofs.YtaamacoicojhnaaGreat.stepMg takeM flushM Hr
 repeat' split
 all_goals exact h.rdO rfl rfl rfl rfl rfl rfl rfl
theorem AW.stepE(h:AW c s):AW c (stepE c s):=by
 unfold Proofs.YtaamacoicojhnaaGreat.stepE offerE Fr
 repeat' split
 all_goals exact h.rdO rfl rfl rfl rfl rfl rfl rfl
end
structure CD(c:CfM)(s:PlM):Prop where
 shu:s.shut=decide (s.rd.ph=5)
 en:s.ended=decide (s.mph=3)
 ml:s.mph=2->s.left≠[]
 wl:s.wk.length=c.W
 gl:s.rg.length=c.R
 ql:s.q.length<=c.Q
 ol:s.out.length<=c.O
section
variable {c:CfM}{s t:PlM}{i:Nat}{x:WkM}
theorem Ju{p:WkM->Prop}{l:List WkM}{f:WkM->WkM}(h:∀(j:Nat)(y:WkM),l[j]?=E y->p y)(V:l[i]?=E x)(U:p (f x)):∀(j:Nat)(y:WkM),(l.modify i f)[j]?=E y->p y:=λj y Z=>by
 rw[GS]at Z
 by_cases Y:i=j
 ·subst Y;rw[V]at Z;simp at Z;rw[<-Z];exact U
 ·cases X:l[j]? with
  |none=>rw[X]at Z;simp at Z
  |some z=>
   rw[X]at Z;simp[Y]at Z;rw[<-Z];exact h j z X
theorem Az.wk(h:Az s){t:PlM}{f:WkM->WkM}(Z:t.rd=s.rd)(V:t.mph=s.mph)(N:t.eph=s.eph)(X:t.wk=s.wk.modify i f)(Y:s.wk[i]?=E x)(U:1<=(f x).ph/\(f x).ph<=4):Az t:=⟨by rw[Z];exact h.ph,by rw[Z];exact h.ho,by rw[X];exact Ju (p:=λy=>1<=y.ph/\y.ph<=4) h.wp Y U,by rw[V];exact h.mp,by rw[N];exact h.ep⟩
theorem Az.rd(h:Az s){t:PlM}(X:t.mph=s.mph)(V:t.eph=s.eph)(Z:t.wk=s.wk)(Y:1<=t.rd.ph/\t.rd.ph<=5)(ho:t.rd.holds=G↔(t.rd.ph=2∨t.rd.ph=3)):Az t:=⟨Y,ho,by rw[Z];exact h.wp,by rw[X];exact h.mp,by rw[V];exact h.ep⟩
theorem Az.takeW(h:Az s)(Z:s.wk[i]?=E x):Az (takeW s i):=by
 unfold Proofs.YtaamacoicojhnaaGreat.takeW
 split
 ·exact h.wk (f:=λw=>{w with ph:=4}) rfl rfl rfl rfl Z ⟨by show 1<=4;decide,AC _⟩
 ·exact h.wk (f:=λw=>{w with ph:=2,blk:=_}) rfl rfl rfl rfl Z ⟨by show 1<=2;decide,by show 2<=4;decide⟩
theorem Az.leaveW(h:Az s)(Z:s.wk[i]?=E x):Az (leaveW s i):=by unfold Proofs.YtaamacoicojhnaaGreat.leaveW;rw[Z];exact h.wk (f:=λ_=>wk0 1) rfl rfl rfl rfl Z ⟨AC _,by show 1<=4;decide⟩
theorem Az.putWM(h:Az s)(Z:s.wk[i]?=E x):Az (putWM s i):=by unfold Proofs.YtaamacoicojhnaaGreat.putWM;rw[Z];exact Az.leaveW (s:={s with rg:=s.rg.set (x.blk.num-s.next) (E x.hits)}) ⟨h.ph,h.ho,h.wp,h.mp,h.ep⟩ Z
theorem Az.scanW(h:Az s)(Z:s.wk[i]?=E x):Az (scanW c s i):=by
 have Y:=h.wp i x Z;unfold Proofs.YtaamacoicojhnaaGreat.scanW;refine h.wk (f:=λw=>{w with node:=(c.scan w.blk.start w.blk.warm w.blk.data w.node w.done).1,done:=(c.scan w.blk.start w.blk.warm w.blk.data w.node w.done).2.1,hits:=w.hits++(c.scan w.blk.start w.blk.warm w.blk.data w.node w.done).2.2.1,ph:=if(c.scan w.blk.start w.blk.warm w.blk.data w.node w.done).2.2.2 then 3 else w.ph}) rfl rfl rfl rfl Z ?_;dsimp only
 split
 ·omega
 ·exact Y
theorem agA(Z:s.wk[i]?=E x):∃y,(takeW s i).wk[i]?=E y:=by
 unfold takeW
 split
 ·exact⟨_,KW Z _⟩
 ·exact⟨_,KW Z _⟩
theorem Az.stepW(h:Az s)(Z:s.wk[i]?=E x):Az (stepW c s i):=by
 unfold Proofs.YtaamacoicojhnaaGreat.stepW
 split
 ·unfold stopW;dsimp only
  by_cases h1:phW s i=1
  ·rw[Lq h1];have Y:=h.takeW Z;obtain⟨y,X⟩:=agA Z
   split
   ·exact Y
   ·exact Y.leaveW X
  ·rw[Lc h1]
   split
   ·exact h
   ·exact h.leaveW Z
 ·split
  ·exact h.takeW Z
  ·split
   ·exact h.scanW Z
   ·exact h.putWM Z
theorem Az.stepR(h:Az s):Az (stepR c s):=by
 have Z:=h.ho;have X:=h.ph;unfold Proofs.YtaamacoicojhnaaGreat.stepR
 split
 ·unfold stopR shutR backR
  by_cases Y:s.rd.holds=G
  ·rw[Lq Y];exact h.rd rfl rfl rfl ⟨by show 1<=5;decide,AC _⟩ (by simp[Bv])
  ·rw[Lc Y];refine h.rd rfl rfl rfl ⟨by show 1<=5;decide,AC _⟩ ?_;show s.rd.holds=G↔(5=2∨5=3)
   constructor
   ·intro e;exact absurd e Y
   ·intro e;omega
 ·split
  ·exact h.rd rfl rfl rfl ⟨by show 1<=2;decide,by show 2<=5;decide⟩ (by simp[takeR])
  ·split
   ·have h2:s.rd.holds=G:=Z.2 (.inl (by assumption));unfold readR;dsimp only
    split
    ·split
     ·exact h.rd rfl rfl rfl ⟨by show 1<=3;decide,by show 3<=5;decide⟩ (by simp[h2])
     ·exact h.rd rfl rfl rfl ⟨by show 1<=4;decide,by show 4<=5;decide⟩ (by simp[backR,Bv])
    ·refine h.rd rfl rfl rfl ?_ ?_
     ·dsimp only;split<;>omega
     ·dsimp only;rw[h2]
      constructor
      ·intro _;split
       ·exact .inr rfl
       ·exact .inl (by assumption)
      ·intro _;rfl
   ·split
    ·unfold putR;refine h.rd rfl rfl rfl ?_ ?_
     ·dsimp only;split<;>omega
     ·dsimp only;split<;>simp
    ·unfold shutR;refine h.rd rfl rfl rfl ⟨by show 1<=5;decide,AC _⟩ ?_;show s.rd.holds=G↔(5=2∨5=3)
     constructor
     ·intro e;have:=Z.1 e;omega
     ·intro e;omega
theorem Az.stepMg(h:Az s):Az (stepMg s):=by
 have Z:=h.mp;unfold Proofs.YtaamacoicojhnaaGreat.stepMg takeM flushM Hr
 repeat' split
 all_goals refine⟨h.ph,h.ho,h.wp,?_,h.ep⟩
 all_goals (try dsimp only)
 all_goals (try split)
 all_goals first|omega|exact Z
theorem Az.stepE(h:Az s):Az (stepE c s):=by
 have Z:=h.ep;unfold Proofs.YtaamacoicojhnaaGreat.stepE offerE Fr
 repeat' split
 all_goals refine⟨h.ph,h.ho,h.wp,h.mp,?_⟩
 all_goals (try dsimp only)
 all_goals first|omega|exact Z
end
section
variable {c:CfM}{s t:PlM}{i:Nat}{x:WkM}
theorem CD.wk(h:CD c s)(h1:t.shut=s.shut)(h2:t.rd=s.rd)(h3:t.ended=s.ended)(h4:t.mph=s.mph)(h5:t.left=s.left)(h6:lc t.wk=lc s.wk)(h7:lc t.rg=lc s.rg)(h8:lc t.q<=lc s.q)(h9:t.out=s.out):CD c t:=⟨by rw[h1,h2];exact h.shu,by rw[h3,h4];exact h.en,by rw[h4,h5];exact h.ml,by rw[h6];exact h.wl,by rw[h7];exact h.gl,AS h8 h.ql,by rw[h9];exact h.ol⟩
theorem CD.takeW(h:CD c s):CD c (takeW s i):=by
 unfold Proofs.YtaamacoicojhnaaGreat.takeW
 split
 ·exact h.wk rfl rfl rfl rfl rfl (by simp[setW]) rfl (AC _) rfl
 ·rename_i b q Z
  exact h.wk rfl rfl rfl rfl rfl (by simp[setW]) rfl (by rw[Z];simp) rfl
theorem CD.leaveW(h:CD c s):CD c (leaveW s i):=by
 unfold Proofs.YtaamacoicojhnaaGreat.leaveW
 split
 ·exact h
 ·exact h.wk rfl rfl rfl rfl rfl (by simp[setW,Bv]) rfl (AC _) rfl
theorem CD.stepW(h:CD c s):CD c (stepW c s i):=by
 unfold Proofs.YtaamacoicojhnaaGreat.stepW
 split
 ·unfold stopW;dsimp only
  repeat' split
  all_goals first|exact h.takeW|exact h|exact h.takeW.leaveW|exact h.leaveW
 ·split
  ·exact h.takeW
  ·split
   ·exact h.wk rfl rfl rfl rfl rfl (by simp[scanW,setW]) rfl (AC _) rfl
   ·unfold putWM
    split
    ·exact h
    ·exact CD.leaveW (h.wk (t:={s with rg:=s.rg.set _ _}) rfl rfl rfl rfl rfl rfl sm (AC _) rfl)
theorem CD.rdN(h:CD c s)(h0:s.rd.ph≠5)(h2:t.rd.ph≠5)(h1:t.shut=s.shut)(h3:t.ended=s.ended)(h4:t.mph=s.mph)(h5:t.left=s.left)(h6:t.wk=s.wk)(h7:t.rg=s.rg)(h8:lc t.q<=c.Q)(h9:t.out=s.out):CD c t:=⟨by rw[h1,h.shu,decide_eq_false h0,decide_eq_false h2],by rw[h3,h4];exact h.en,by rw[h4,h5];exact h.ml,by rw[h6];exact h.wl,by rw[h7];exact h.gl,h8,by rw[h9];exact h.ol⟩
theorem CD.rd5(h:CD c s)(h2:t.rd.ph=5)(h1:t.shut=G)(h3:t.ended=s.ended)(h4:t.mph=s.mph)(h5:t.left=s.left)(h6:t.wk=s.wk)(h7:t.rg=s.rg)(h8:t.q=s.q)(h9:t.out=s.out):CD c t:=⟨by rw[h1,Vb h2],by rw[h3,h4];exact h.en,by rw[h4,h5];exact h.ml,by rw[h6];exact h.wl,by rw[h7];exact h.gl,by rw[h8];exact h.ql,by rw[h9];exact h.ol⟩
theorem CD.stepR(h:CD c s)(Z:Ck c s=G):CD c (stepR c s):=by
 have h5:s.rd.ph≠5:=λe=>by unfold Ck at Z;rw[Lq e]at Z;cases Z
 unfold Proofs.YtaamacoicojhnaaGreat.stepR
 split
 ·unfold stopR shutR backR
  split
  ·exact h.rd5 rfl rfl rfl rfl rfl rfl rfl rfl rfl
  ·exact h.rd5 rfl rfl rfl rfl rfl rfl rfl rfl rfl
 ·rename_i X
  split
  ·exact h.rdN h5 (by show 2≠5;decide) rfl rfl rfl rfl rfl rfl h.ql rfl
  ·split
   ·unfold readR;dsimp only
    split
    ·split
     ·exact h.rdN h5 (by show 3≠5;decide) rfl rfl rfl rfl rfl rfl h.ql rfl
     ·exact h.rdN h5 (by show 4≠5;decide) rfl rfl rfl rfl rfl rfl h.ql rfl
    ·refine h.rdN h5 ?_ rfl rfl rfl rfl rfl rfl h.ql rfl;dsimp only;split
     ·decide
     ·exact h5
   ·split
    ·rename_i U N V
     have Y:lc s.q<c.Q:=by unfold Ck at Z;rw[Lc h5,Lc X,Lc U,Lq V]at Z;exact Kf Z
     refine h.rdN h5 ?_ rfl rfl rfl rfl rfl rfl (by show(s.q++[_]).length<=c.Q;rw[List.length_append];exact Y) rfl;unfold putR;dsimp only;split<;>decide
    ·exact h.rd5 rfl rfl rfl rfl rfl rfl rfl rfl rfl
theorem CD.stepMg(h:CD c s)(J:Az s)(Y:EX c s=G):CD c (stepMg s):=by
 have h3:s.mph≠3:=λe=>by unfold EX at Y;rw[Lq e]at Y;cases Y
 have V:s.ended=M:=by rw[h.en,decide_eq_false h3]
 have I:=J.mp;unfold Proofs.YtaamacoicojhnaaGreat.stepMg
 split
 ·exact⟨h.shu,rfl,λe=>by have e:(3:Nat)=2:=e;omega,h.wl,by simp[Hr];exact h.gl,h.ql,h.ol⟩
 ·rename_i N
  split
  ·rename_i h1
   unfold takeM
   split
   ·rename_i H r D
    have X:(r++[(O:Option (List AF))]).length=c.R:=by have:=h.gl;rw[D]at this;simp at this⊢;exact this
    split
    ·exact⟨h.shu,h.en,h.ml,h.wl,X,h.ql,h.ol⟩
    ·rename_i Z
     exact⟨h.shu,by show s.ended=decide ((2:Nat)=3);rw[V];rfl,λ_ e=>Z (by have e:H=[]:=e;rw[e];rfl),h.wl,X,h.ql,h.ol⟩
   ·exact⟨h.shu,rfl,λe=>by have e:(3:Nat)=2:=e;omega,h.wl,h.gl,h.ql,h.ol⟩
  ·rename_i h1
   have U:lc s.out<c.O:=by unfold EX at Y;rw[Lc h3,Lc N,Lc h1]at Y;exact Kf Y
   unfold flushM
   split
   ·exact h
   ·rename_i q l C
    refine⟨h.shu,?_,?_,h.wl,h.gl,h.ql,by show(s.out++[q]).length<=c.O;rw[List.length_append];exact U⟩
    ·show s.ended=decide ((if l.isEmpty then 1 else s.mph)=3);rw[V]
     split
     ·rfl
     ·rw[decide_eq_false h3]
    ·show(if l.isEmpty then 1 else s.mph)=2->l≠[]
     split
     ·intro e;omega
     ·rename_i Z
      intro _ e;exact Z (by rw[e];rfl)
theorem CD.stepE(h:CD c s):CD c (stepE c s):=by
 have Z:=h.ol;unfold Proofs.YtaamacoicojhnaaGreat.stepE offerE Fr
 split
 ·split
  ·exact⟨h.shu,h.en,h.ml,h.wl,h.gl,h.ql,h.ol⟩
  ·exact⟨h.shu,h.en,h.ml,h.wl,h.gl,h.ql,AR _⟩
 ·split
  ·exact⟨h.shu,h.en,h.ml,h.wl,h.gl,h.ql,h.ol⟩
  ·rename_i q l Y
   rw[Y]at Z
   split
   ·exact⟨h.shu,h.en,h.ml,h.wl,h.gl,h.ql,by show lc l<=c.O;simp at Z;omega⟩
   ·exact⟨h.shu,h.en,h.ml,h.wl,h.gl,h.ql,h.ol⟩
end
def Cv(X:Nat->Prop)(w:Wa)(v:Vk)(xs:List Int):Prop:=
 ((v=T O 0 0/\xs=[])∨∃g off c Z,v=T (E ⟨g,off,O⟩) (lc xs) c/\X g/\w.heap[g]?=E (i7 Z 5 (0,0))/\lc xs<=c/\c<=maxLen/\off+c<=Z.size/\(Z.toList.drop off).take (lc xs)=xs.map (Value.int .u8))/\∀x∈xs,0<=x/\x<=255
section
variable {X Y:Nat->Prop}{w w':Wa}{v:Vk}{xs:List Int}
theorem Cv.nil(X:Nat->Prop)(w:Wa):Cv X w (T O 0 0) []:=⟨.inl ⟨rfl,rfl⟩,λx Z=>by cases Z⟩
theorem Cv.lt(h:Cv X w v xs):∀g,v.ownBlock=E g->g<w.heap.size/\X g:=λg Z=>by
 rcases h.1 with⟨rfl,_⟩|⟨g',off,c,N,rfl,V,U,_⟩
 ·cases Z
 ·cases Z
  exact⟨(AD.1 U).1,V⟩
theorem Cv.keep(h:Cv X w v xs)(J:Chg Y w w')(N:∀g,v.ownBlock=E g->¬Y g):Cv X w' v xs:=by refine⟨h.1.imp id ?_,h.2⟩;rintro⟨g,off,c,Z,rfl,U,V,r⟩;exact⟨g,off,c,Z,rfl,U,(J.block g (AD.1 V).1 (N g rfl)).trans V,r⟩
theorem Cv.wide(h:Cv X w v xs)(N:∀k,k<w.heap.size->X k->Y k):Cv Y w v xs:=by refine⟨h.1.imp id ?_,h.2⟩;rintro⟨g,off,c,Z,rfl,U,V,r⟩;exact⟨g,off,c,Z,rfl,N g (AD.1 V).1 U,V,r⟩
theorem Cv.shape(h:Cv X w v xs):∃a c,v=T a (lc xs) c/\lc xs<=c/\Bys w a (lc xs) xs:=by
 rcases h.1 with⟨rfl,rfl⟩|⟨g,off,c,D,rfl,C,N,I,_,H,Z⟩
 ·exact⟨O,0,rfl,AC _,⟨rfl,.inl rfl⟩,h.2⟩
 ·refine⟨_,c,rfl,I,⟨rfl,.inr ⟨g,off,rfl,(AD.1 N).1,λi x U=>?_⟩⟩,h.2⟩;have J:(xs.map (Value.int .u8))[i]?=E (Value.int .u8 x):=by rw[BU,U];rfl
  have V:i<lc xs:=(AP.1 U).1;rw[<-Z,FT,Lq V,Hm,Array.getElem?_toList]at J;simp only[cell?,N];exact J
theorem Cv.cut{a:Option Addr}{n c:Nat}(h:Cv X w (T a n c) xs)(k:Nat)(hk:k<=n):Cv X w (T (if c=k then a else a.map (·.add k)) (n-k) (c-k)) (xs.drop k):=by
 refine⟨?_,λx J=>h.2 x (Iq J)⟩
 rcases h.1 with⟨h1,rfl⟩|⟨g,off,A,N,h1,J,H,D,B,C,Z⟩
 ·simp only[IL]at h1;obtain⟨rfl,rfl,rfl⟩:=h1;obtain rfl:k=0:=by omega
  exact .inl ⟨by simp,rfl⟩
 ·simp only[IL]at h1;obtain⟨rfl,rfl,rfl⟩:=h1;have V:(xs.drop k).length=lc xs-k:=List.length_drop
  by_cases U:c=k
  ·subst U;rw[Lq rfl];have I:xs.drop c=[]:=List.drop_eq_nil_of_le D;refine .inr ⟨g,off,0,N,?_,J,H,?_,AR _,by omega,?_⟩
   ·rw[I,show lc xs-c=0 by omega,FG];rfl
   ·rw[I];exact AC _
   ·rw[I];rfl
  ·rw[Lc U];refine .inr ⟨g,off+k,c-k,N,by rw[V,Dw,Cf],J,H,by omega,by omega,by omega,?_⟩;rw[V,List.map_drop,<-Z,List.drop_take,List.drop_drop]
theorem aaB{P:Program}(w:Wa)(t ty e:TypeId)(i:TypeInfo)(C:P.underlying t=E (.slice e))(A:P.info? e=E i)
  (g off V U:Nat) (N:Array Vk) (s:w.heap[g]?=E (i7 N e (0,0)))
  (a:Addr) (m c:Nat) (Z:List Vk) (B:lc Z=m*i.size) (I:∀j u,Z[j]?=E u->w.cell? (a.add j)=E u) (h1:∀u∈Z,u.oneCell'=G)
  (J:V+m<=U) (D:off+V*i.size+lc Z<=N.size) :
  (Builtin.append_ #[t,t] ty #[.slice (E ⟨g,off,O⟩) V U,.slice (E a) m c]).run P w =
   .ok (T (E ⟨g,off,O⟩) (V+m) U) (w.setRow g (N.toList.take (off+V*i.size)++Z++N.toList.drop (off+V*i.size+lc Z)).toArray):=by
 have hf:=run_firstCells_some (P:=P) w i.size m a m c Z B I;have H:=run_storeCells_at P g (off+V*i.size) e Z 0 N w s (by simpa using D) h1;simp only[DQ]at H;simp[Builtin.append_,run_underlying C,sizeOf,typeInfo,A,Builtin.lenOf,J,hf,Addr.add_lit,H]
theorem ac1(w:Wa)(h:Cv X w v xs)(A:Option Addr)(m c:Nat)(bs:List Int)(hB:Bys w A m bs)(hb:lc xs+m<=1000000) :∃a' c' w',(Builtin.append_ #[32,32] 32 #[v,.slice A m c]).run ZP w=.ok (.slice a' (lc xs+m) c') w'/\Cv (λk=>X k∨w.heap.size<=k) w' (.slice a' (lc xs+m) c') (xs++bs)/\w.grownBy w' v.ownBlock/\
   ((T a' (lc xs+m) c').ownBlock=v.ownBlock∨(T a' (lc xs+m) c').ownBlock=E w.heap.size):=by
 obtain⟨i,hi,a1,J,s⟩:=Vh Gs;have I:lc bs=m:=hB.1.1;have N:∀x∈xs++bs,0<=x/\x<=255:=λx hx=>(Bf.1 hx).elim (h.2 x) (hB.2 x);have V:(xs++bs).length=lc xs+m:=by rw[List.length_append,I]
 rcases h.1 with⟨rfl,rfl⟩|⟨g,off,C,Z,rfl,hx,B,hl,a6,ab,U⟩
 ·obtain⟨v1,W1,hr,ho,hg,a8⟩:=Gu (P:=ZP) w 0 32 32 5 i (.int .u8 0) 1 1 underlying32 hi a1 J s rfl (by decide) (.slice O 0 0) 0 [] (BN _ _ _ _) A m c (bs.map (Value.int .u8)) (Jz hB.1) (λu H=>by obtain⟨x,_,rfl⟩:=Be.1 H;rfl) (by unfold maxLen;simp at hb;omega) (by simp at hb;omega) (AR _);obtain⟨a2,c2,rfl,af,_⟩:=SlK.own ho;refine⟨a2,c2,W1,by simpa using hr,⟨?_,N⟩,hg,by simpa using a8⟩
  rcases ho.2 with⟨e,h0⟩|⟨g,cap,Z,e,_,B,h1,h2,h3,h4⟩
  ·simp only[IL]at e;obtain⟨rfl,e2,rfl⟩:=e
   left
   have:bs=[]:=Bz om;subst this;refine⟨?_,rfl⟩;simp at I;simp[<-I]
  ·simp only[IL]at e;obtain⟨rfl,e2,rfl⟩:=e
   right
   refine⟨g,0,c2,Z,by simp[I],?_,B,by simpa[I]using h1,h2,by omega,?_⟩
   ·rcases a8 with e|e
    ·cases e
    ·right
     exact Gq (AK e).symm
   ·simp[I]at h4⊢;exact h4
 ·cases A with
  |none=>
   have h0:m=0:=hB.1.2.elim id λ⟨b,o,e,_⟩=>by cases e
   subst h0;have ae:bs=[]:=Bz I;subst ae;refine⟨_,C,w,?_,⟨.inr ⟨g,off,C,Z,by simp,.inl hx,B,by simpa using hl,a6,ab,by simpa using U⟩,N⟩,World.grownBy.refl w _,.inl rfl⟩;simp[Builtin.append_,run_underlying underlying32,sizeOf,typeInfo,hi,Builtin.lenOf,Builtin.firstCells,hl,storeCells]
  |some ad=>
   have hs:=Jz hB.1
   by_cases D:lc xs+m<=C
   ·have a7:off+lc xs*i.size+(bs.map (Value.int .u8)).length<=Z.size:=by rw[J,BP,I];omega
    have hr:=aaB (P:=ZP) w 32 32 5 i underlying32 hi g off (lc xs) C Z B ad m c (bs.map (Value.int .u8)) (by rw[J,BP,I,Hk]) (λj u H=>hs.news j u H) (λu H=>by obtain⟨x,_,rfl⟩:=Be.1 H;rfl) D a7;refine⟨_,C,_,hr,⟨.inr ⟨g,off,C,_,by rw[V],.inl hx,setRow_heap w g Z _ _ _ B,by rw[V];exact D,a6,?_,?_⟩,N⟩,⟨rfl,rfl,rfl,by simp,λk _ hk=>setRow_other w g k _ (λe=>hk (by simp[Value.ownBlock,e]))⟩,.inl rfl⟩
    ·simp only[Cw,List.length_append,Ag,List.length_drop,Array.length_toList];omega
    ·have e2:off<=(Z.toList.take (off+lc xs)).length:=by have e3:lc Z.toList=Z.size:=Array.length_toList;rw[Ag];omega
     rw[V,J,Hk,CE,List.drop_append_of_le_length e2,Aj,List.drop_take];have e1:(Z.toList.drop off).take (off+lc xs-off)=xs.map (Value.int .u8):=by rw[Nat.add_sub_cancel_left];exact U
     rw[e1,<-CE];exact List.take_left' (by simp[I])
   ·have holds:∀j u,(xs.map (Value.int .u8))[j]?=E u->w.cell? ((⟨g,off,O⟩:Addr).add j)=E u:=λj u H=>by
     have hj:j<lc xs:=by have:=(AP.1 H).1;simpa using this
     rw[<-U,FT,Lq hj,Hm,Array.getElem?_toList]at H;rw[Cf];simp only[cell?,B];exact H
    have hr:=run_append_grow (P:=ZP) w 32 32 5 i (.int .u8 0) underlying32 hi a1 ⟨g,off,O⟩ (lc xs) C (xs.map (Value.int .u8)) (by rw[J,BP,Hk]) holds ad m c (bs.map (Value.int .u8)) (by rw[J,BP,I,Hk]) (λj u H=>hs.news j u H) om om (growslice_fits om (by rw[s];omega));have aa:=grownCap_ge w (lc xs+m) C 5;have ac:=grownCap_le_maxLen w (lc xs+m) C 5 (by unfold maxLen;omega);refine⟨_,_,_,hr,⟨.inr ⟨w.heap.size,0,_,_,by rw[V],.inr (AC _),heap_alloc_new w.drew _,by rw[V];exact aa,ac,?_,?_⟩,N⟩,⟨rfl,rfl,rfl,by simp,λk hk _=>Bg w.drew _ k hk⟩,.inr rfl⟩
    ·have:(Value.int IntKind.u8 0).cells.size=1:=rfl;simp only[Array.size_append,Cw,size_zeroCells,BP,I,this,Hk];omega
    ·rw[V,List.drop_zero];simp only[Array.toList_append,Aj];exact List.take_left' (by simp[I])
end
def DM(X:Nat->Prop)(B U D size:Nat)(fr:List Int)(us:List Bool)(ds:Lb)(w:Wa):Prop:=∃Z Y V,BB X Z B U D Y V size fr us ds w
theorem am1{w:Wa}{e:TypeId}{a:Option Addr}{k c:Nat}{xs:List Vk}(h:w.ownsRow 0 e 1 (T a k c) k xs):w.ownsRow 0 e 1 (T a 0 c) 0 []:=by
 rcases h.2 with⟨Z,h0⟩|⟨g,cap,Y,Z,h1,h2,h3,h4,h5,h6⟩
 ·cases Z
  exact⟨rfl,.inl ⟨rfl,rfl⟩⟩
 ·cases Z
  exact⟨rfl,.inr ⟨g,c,Y,rfl,h1,h2,AR _,h4,h5,by simp⟩⟩
theorem BB.cut0{X:Nat->Prop}{N:Nat->Nat}{B U D size:Nat}{fv:Vk}{Y:List Vk}{fr:List Int}{us:List Bool}{ds:Lb}{w:Wa}(h:BB X N B U D fv Y size fr us ds w)(n:Nat)(C:n<lc us) :∃a k c,Y[n]?=E (T a k c)/\DM (λk=>X k∨w.heap.size<=k) B U D size fr us (ds.set n []) (w.setCell ⟨D,n,O⟩ (T a 0 c))/\Chg X w (w.setCell ⟨D,n,O⟩ (T a 0 c)):=by
 have Z:n<lc Y:=by rw[h.dl.1];exact C
 have J:n<lc ds:=by rw[h.dl.2];exact C
 obtain⟨I,r2⟩:=h.rows n Y[n] ds[n] (Ar Z) (Ar J);obtain⟨a,c,e,_,_⟩:=SlK.own I.1;have H:=I.1;rw[e]at H;obtain⟨s,A,_,_⟩:=h.setD (v:=Y[n]) (v':=T a 0 c) (xs':=[]) (V:=w) n (Ar Z) (am1 H) (Chg.refl _ _) (λg j=>.inl (by rw[e];cases a<;>exact j));exact⟨a,ds[n].length,c,by rw[Ar Z,e],⟨_,_,_,s⟩,A⟩
def aoa(X:Nat->Prop)(B U D size:Nat)(fr:List Int)(us:List Bool)(ds:Lb)(w:Wa)(e:Ending)(w':Wa):Prop:=
 e=ra (ta #[.int .i64 (fr.getLast?.getD 0),.bool (!fr.isEmpty)])/\Chg X w w'/\
  if fr=[] then DM (λk=>X k∨w.heap.size<=k) B U D size fr us ds w' else DM (λk=>X k∨w.heap.size<=k) B U D size fr.dropLast (us.set (fr.getLast?.getD 0).toNat G) (ds.set (fr.getLast?.getD 0).toNat []) w'
theorem afw{X:Nat->Prop}{B U D size:Nat}{fr:List Int}{us:List Bool}{ds:Lb}(w:Wa)(h:DM X B U D size fr us ds w)(hn:lc fr<=1000000)(hf:∀x∈fr,0<=x/\x<lc us) :Calls ZP 190 #[L (E ⟨B,0,O⟩)] w (aoa X B U D size fr us ds w):=by
 obtain⟨aa,fv,dv,h⟩:=h;have HP:=AA (aig w h hn)
 rcases List.eq_nil_or_concat fr with rfl|⟨l,x,rfl⟩
 ·clear h hf hn;go_enter func190,ntmps190
  go_wp2_with (go_at_call 232;refine HP.out.mono ?_;rintro e C ⟨rfl,⟨fv',Z,V⟩,H⟩;have HB:=AA V;have HC:=AA H;clear V H)
  go_ret2;exact⟨rfl,HC.out,by rw[Lq rfl];exact⟨_,_,_,HB.out⟩⟩
 ·rw[List.concat_eq_append]at *;have e1:(l++[x]).getLast?.getD 0=x:=by simp
  have e2:(!(l++[x]).isEmpty)=G:=by simp
  have e3:(l++[x]).dropLast=l:=by simp
  obtain⟨x0,x1⟩:=hf x sm;obtain⟨n,rfl⟩:=Mb x0;have s:n<lc us:=by omega
  have a8:Hid (l++[(n:Int)]≠[]):=by simp[Hid]
  have HE:=AA (Va e1 e3);unfold api at HP;rw[e1,e2,e3]at HP;obtain⟨LO,hL⟩:∃LO,lc us=LO:=⟨_,rfl⟩;have i0:(0:Int)<=(n:Int):=x0;have i1:(n:Int)<(LO:Int):=by omega
  have HL:=AA hL;have I:=AA s;clear h hf hn e1 e2 e3 hL s x0 x1;go_enter func190,ntmps190;go_upto_region 6 with(go_at_call 232;refine HP.out.mono ?_;rintro e C ⟨rfl,⟨fv',Z,V⟩,H⟩)
  obtain⟨u1,u2⟩:=V.setU n G;have c2:C.cell? ⟨B,2,O⟩=E (T (E ⟨U,0,O⟩) LO LO):=by have:=HL.out;simp[cell?,V.box,this]
  have f2:C.frozen? ⟨U,n,O⟩=M:=by simp[frozen?,V.used]
  have g2:C.cell? ⟨U,n,O⟩=E (i6 (us[n]'I.out)):=by simp[cell?,V.used,I.out]
  obtain⟨J,N⟩:∃W,W=C.setCell ⟨U,n,O⟩ (i6 G):=⟨_,rfl⟩;rw[<-N]at u1 u2;have a1:BB (λk=>X k∨w.heap.size<=k) Z B U D fv' dv size l (us.set n G) ds J.drew:=u1.keep (Y:=λ_=>False) (.of_same (AN J 1)) λ_ _ _ h=>h;obtain⟨a,k,c,q1,q2,q3⟩:=a1.cut0 n (by rw[BG];exact I.out);have j:(us.set n G).length=LO:=by rw[BG];exact HL.out
  have c3:J.cell? ⟨B,3,O⟩=E (T (E ⟨D,0,O⟩) LO LO):=by simp[cell?,u1.box,j]
  have f3:J.frozen? ⟨D,n,O⟩=M:=by simp[frozen?,u1.data]
  have g3:J.cell? ⟨D,n,O⟩=E (T a k c):=by simp[cell?,u1.data];exact q1
  have k0:0<=k:=AR _;have Q2:=AA q2;have Q3:=AA ((H.trans ((u2.same (AN J 1)).then q3) (λi hi hx=>hx.elim id λh=>by omega)));have v:w.heap.size<=J.drew.heap.size:=AS H.size u2.size;have a7:=AA v;clear V H u1 u2 a1 q1 q2 q3 j v;go_upto_region 7 with fail
  rw[<-N];clear N c2 f2 g2
  go_region
  go_wp2;go_ret2;unfold aoa;rw[HE.out.1,HE.out.2,Lc a8.out];refine⟨by simp,Q3.out,?_⟩;obtain⟨A,a2,a6,hq⟩:=Q2.out;exact⟨A,a2,a6,hq.wide λi _ hx=>hx.elim id λh=>.inr (AS a7.out h)⟩
structure PcW where
 num:Int
 start:Int
 warm:Int
 a:Option Addr
 m:Nat
 c:Nat
 buf:Int
def Lf(p:PcW):List Vk:=[R K p.num,R K p.start,R K p.warm,T p.a p.m p.c,R K p.buf]
def EY(l:List PcW):List Vk:=l.flatMap Lf
theorem NN(p:PcW)(l:List PcW):EY (p::l)=Lf p++EY l:=by simp[EY]
theorem ag4:∀{l:List PcW}{i:Nat}{p:PcW},l[i]?=E p->(EY l)[i*5]?=E (R K p.num)/\(EY l)[i*5+1]?=E (R K p.start)/\(EY l)[i*5+2]?=E (R K p.warm)/\(EY l)[i*5+3]?=E (T p.a p.m p.c)/\(EY l)[i*5+4]?=E (R K p.buf)
 |[],i,p,h=>by simp at h
 |q::l,0,p,h=>by
  cases AK h
  exact⟨rfl,rfl,rfl,rfl,rfl⟩
 |q::l,i+1,p,h=>by have:=ag4 (l:=l) (i:=i) (p:=p) (by simpa using h);rw[NN,show(i+1)*5=i*5+1+1+1+1+1 by omega];exact this
theorem agr:∀(l:List PcW)(i:Nat)(p:PcW),EY (l.set i p)=(((((EY l).set (i*5) (R K p.num)).set (i*5+1) (R K p.start)).set (i*5+2) (R K p.warm)).set (i*5+3) (T p.a p.m p.c)).set (i*5+4) (R K p.buf)
 |[],i,p=>by simp[EY]
 |q::l,0,p=>by simp[NN,Lf]
 |q::l,i+1,p=>by
  have:=agr l i p;rw[List.set_cons_succ,NN,NN,this,show(i+1)*5=i*5+1+1+1+1+1 by omega]
  rfl
structure Ab(X:Nat->Prop)(Q B first many:Nat)(closed:Bool)(ps:List PcW)(w:World):Prop where
 box:w.heap[Q]?=some (.cells #[T (some ⟨B,0,none⟩) ps.length ps.length,R K (first:Int),R K (many:Int),i6 closed] 214 (0,0))
 places:w.heap[B]?=some (.cells (EY ps).toArray 126 (0,0))
 inX:X Q/\X B
 ne:Q≠B
 room:1<=ps.length/\ps.length<=16/\first<ps.length/\many<=ps.length
section
variable {X Y:Nat->Prop}{Q B first many:Nat}{closed:Bool}{ps:List PcW}{w w':Wa}
theorem Ab.keep(h:Ab X Q B first many closed ps w)(N:Chg Y w w')(U:∀k,k<w.heap.size->X k->¬Y k):Ab X Q B first many closed ps w':=by have Z:∀k o,w.heap[k]?=E o->X k->w'.heap[k]?=E o:=λk o hk V=>(N.block k (AD.1 hk).1 (U k (AD.1 hk).1 V)).trans hk;exact⟨Z _ _ h.box h.inX.1,Z _ _ h.places h.inX.2,h.inX,h.ne,h.room⟩
theorem Ab.below(h:Ab X Q B first many closed ps w)(Z:La w w'):Ab X Q B first many closed ps w':=h.keep (Y:=λ_=>False) (.of_same Z) λ_ _ _ h=>h
theorem Ab.wide(h:Ab X Q B first many closed ps w)(Z:∀k,k<w.heap.size->X k->Y k):Ab Y Q B first many closed ps w:=⟨h.box,h.places,⟨Z _ (AD.1 h.box).1 h.inX.1,Z _ (AD.1 h.places).1 h.inX.2⟩,h.ne,h.room⟩
def Ab.putW(w:Wa)(B i:Nat)(p:PcW):Wa:=((((w.setCell ⟨B,i*5,O⟩ (R K p.num)).setCell ⟨B,i*5+1,O⟩ (R K p.start)).setCell ⟨B,i*5+2,O⟩ (R K p.warm)).setCell ⟨B,i*5+3,O⟩ (T p.a p.m p.c)).setCell ⟨B,i*5+4,O⟩ (R K p.buf)
theorem Ab.setP(h:Ab X Q B first many closed ps w)(i:Nat)(p:PcW):Ab X Q B first many closed (ps.set i p) (Ab.putW w B i p)/\Chg X w (Ab.putW w B i p):=by
 have h0:=h.places;have h1:=AJ (i:=i*5) h0 (R K p.num);have h2:=AJ (i:=i*5+1) h1 (R K p.start);have h3:=AJ (i:=i*5+2) h2 (R K p.warm);have h4:=AJ (i:=i*5+3) h3 (T p.a p.m p.c);have h5:=AJ (i:=i*5+4) h4 (R K p.buf);rw[Fp,Fp,Fp,Fp,Fp,<-agr]at h5;have Z:Chg (λk=>k=B) w (Ab.putW w B i p):=by unfold Ab.putW;exact(((((Chg.refl (λk=>k=B) w).set (show B=B from rfl)).set (show B=B from rfl)).set (show B=B from rfl)).set (show B=B from rfl)).set (show B=B from rfl)
 have V:(Ab.putW w B i p).heap[Q]?=w.heap[Q]?:=Z.block Q (AD.1 h.box).1 h.ne;exact⟨⟨by rw[BG];exact V.trans h.box,h5,h.inX,h.ne,by rw[BG];exact h.room⟩,Z.mono λk _ e=>by rw[e];exact h.inX.2⟩
theorem Ab.setM(h:Ab X Q B first many closed ps w)(Z:Nat)(V:Z<=lc ps):Ab X Q B first Z closed ps (w.setCell ⟨Q,2,O⟩ (R K (Z:Int)))/\Chg X w (w.setCell ⟨Q,2,O⟩ (R K (Z:Int))):=⟨⟨AJ (i:=2) h.box _,(AQ w ⟨Q,2,O⟩ _ B h.ne.symm).trans h.places,h.inX,h.ne,h.room.1,h.room.2.1,h.room.2.2.1,V⟩,(Chg.refl X w).set h.inX.1⟩
theorem Ab.setF(h:Ab X Q B first many closed ps w)(Z:Nat)(V:Z<lc ps):Ab X Q B Z many closed ps (w.setCell ⟨Q,1,O⟩ (R K (Z:Int)))/\Chg X w (w.setCell ⟨Q,1,O⟩ (R K (Z:Int))):=⟨⟨AJ (i:=1) h.box _,(AQ w ⟨Q,1,O⟩ _ B h.ne.symm).trans h.places,h.inX,h.ne,h.room.1,h.room.2.1,V,h.room.2.2.2⟩,(Chg.refl X w).set h.inX.1⟩
theorem Ab.setC(h:Ab X Q B first many closed ps w)(c2:Bool):Ab X Q B first many c2 ps (w.setCell ⟨Q,3,O⟩ (i6 c2))/\Chg X w (w.setCell ⟨Q,3,O⟩ (i6 c2)):=⟨⟨AJ (i:=3) h.box _,(AQ w ⟨Q,3,O⟩ _ B h.ne.symm).trans h.places,h.inX,h.ne,h.room⟩,(Chg.refl X w).set h.inX.1⟩
end
theorem adS{X:Nat->Prop}{Q B first many:Nat}{closed:Bool}{ps:List PcW}(w:Wa)(h:Ab X Q B first many closed ps w) :Calls ZP 237 #[L (E ⟨Q,0,O⟩)] w λe w'=>e=ra (R K ((lc ps-many:Nat):Int))/\La w w':=by
 have c0:w.cell? ⟨Q,0,O⟩=E (T (E ⟨B,0,O⟩) (lc ps) (lc ps)):=by simp[cell?,h.box]
 have c2:w.cell? ⟨Q,2,O⟩=E (R K (many:Int)):=by simp[cell?,h.box]
 have J:=AA (λq=>AN w q);have N:=h.room;have U:IntKind.i64.wrap ((lc ps:Int)-(many:Int))=((lc ps-many:Nat):Int):=by rw[BK];omega
 obtain⟨LO,V⟩:∃LO,lc ps=LO:=⟨_,rfl⟩;rw[V]at c0 U⊢;obtain⟨MH,Z⟩:∃MH,LO-many=MH:=⟨_,rfl⟩;rw[Z]at U⊢;clear h N V Z;go_enter func237,ntmps237;go_upto_region 1 with fail
 go_big_quiet (fail)
 go_wp2;go_ret;exact⟨rfl,J.out _⟩
theorem afj{X:Nat->Prop}{Q B first many:Nat}{closed:Bool}{ps:List PcW}(w:Wa)(h:Ab X Q B first many closed ps w) :Calls ZP 71 #[L (E ⟨Q,0,O⟩)] w λe w'=>e=ra (i6 closed)/\La w w':=by
 have c0:w.cell? ⟨Q,3,O⟩=E (i6 closed):=by simp[cell?,h.box]
 clear h;go_enter func71,ntmps71;go_wp2;go_ret;exact⟨rfl,AH _ _⟩
theorem amG{X:Nat->Prop}{Q B first many:Nat}{closed:Bool}{ps:List PcW}(w:Wa)(h:Ab X Q B first many closed ps w) :Calls ZP 198 #[L (E ⟨Q,0,O⟩)] w λe w'=>e=ra (R K (many:Int))/\La w w':=by
 have c0:w.cell? ⟨Q,2,O⟩=E (R K (many:Int)):=by simp[cell?,h.box]
 clear h;go_enter func198,ntmps198;go_wp2;go_ret;exact⟨rfl,AH _ _⟩
theorem aiC{X:Nat->Prop}{Q B first many:Nat}{closed:Bool}{ps:List PcW}(w:Wa)(h:Ab X Q B first many closed ps w) :Calls ZP 194 #[L (E ⟨Q,0,O⟩)] w λe w'=>e=ra (R K ((lc ps-many:Nat):Int))/\La w w':=by
 have V:=AA (adS w h);clear h;go_enter func194,ntmps194
 go_wp2_with (go_at_call 237;refine V.out.mono ?_;rintro e N ⟨rfl,Z⟩;have U:=AA Z;clear Z)
 go_ret;exact⟨rfl,U.out⟩
theorem ahs{X:Nat->Prop}{Q B first many:Nat}{closed:Bool}{ps:List PcW}(w:Wa)(h:Ab X Q B first many closed ps w) :Calls ZP 197 #[L (E ⟨Q,0,O⟩)] w λe w'=>e=ra (i6 (!closed))/\Ab X Q B first many G ps w'/\Chg X w w':=by
 have c3:w.cell? ⟨Q,3,O⟩=E (i6 closed):=by simp[cell?,h.box]
 have I:w.frozen? ⟨Q,3,O⟩=M:=by simp[frozen?,h.box]
 obtain⟨V,Z⟩:=h.setC G;have J:=AA V;have N:=AA Z;have U:=AA h;clear h V Z
 cases closed with
 |true=>
  go_enter func197,ntmps197;go_wp2;go_ret;exact⟨rfl,U.out,Chg.refl _ _⟩
 |false=>
  go_enter func197,ntmps197;go_wp2;go_ret;exact⟨rfl,J.out,N.out⟩
theorem ais{X:Nat->Prop}{Q B first many:Nat}{closed:Bool}{ps:List PcW}(p:PcW)(w:Wa)(h:Ab X Q B first many closed ps w)(hm:many<lc ps) :Calls ZP 239 #[L (E ⟨Q,0,O⟩),i8 #[R K p.num,R K p.start,R K p.warm,T p.a p.m p.c,R K p.buf]] w λe w'=>(∃v,e=ra v)/\Ab X Q B first (many+1) closed (ps.set ((first+many) % lc ps) p) w'/\Chg X w w':=by
 obtain⟨W,hW⟩:∃W,W=w.alloc (i7 #[R K p.num,R K p.start,R K p.warm,T p.a p.m p.c,R K p.buf] 126):=⟨_,rfl⟩;have hB:La w W:=by rw[hW];exact AL _ _
 have Z:=h.below hB;have U:W.heap[w.heap.size]?=E (i7 #[R K p.num,R K p.start,R K p.warm,T p.a p.m p.c,R K p.buf] 126 (0,0)):=by rw[hW];exact AT _ _
 have x0:W.cell? ⟨w.heap.size,0,O⟩=E (R K p.num):=by simp[cell?,U]
 have x1:W.cell? ⟨w.heap.size,1,O⟩=E (R K p.start):=by simp[cell?,U]
 have x2:W.cell? ⟨w.heap.size,2,O⟩=E (R K p.warm):=by simp[cell?,U]
 have x3:W.cell? ⟨w.heap.size,3,O⟩=E (T p.a p.m p.c):=by simp[cell?,U]
 have x4:W.cell? ⟨w.heap.size,4,O⟩=E (R K p.buf):=by simp[cell?,U]
 have c0:W.cell? ⟨Q,0,O⟩=E (T (E ⟨B,0,O⟩) (lc ps) (lc ps)):=by simp[cell?,Z.box]
 have c1:W.cell? ⟨Q,1,O⟩=E (R K (first:Int)):=by simp[cell?,Z.box]
 have c2:W.cell? ⟨Q,2,O⟩=E (R K (many:Int)):=by simp[cell?,Z.box]
 obtain⟨r1,r2,r3,r4⟩:=h.room;obtain⟨LO,hL⟩:∃LO,lc ps=LO:=⟨_,rfl⟩;have e1:IntKind.i64.wrap ((first:Int)+(many:Int))=((first+many:Nat):Int):=by rw[BK];omega
 have e2:((first+many:Nat):Int).tmod (LO:Int)=(((first+many) % LO:Nat):Int):=by rw[Jq om];simp
 have J:(first+many) % LO<LO:=Ek _ om;obtain⟨s,hs⟩:∃s,first+many=s:=⟨_,rfl⟩;obtain⟨i,hi⟩:∃i,s % LO=i:=⟨_,rfl⟩;rw[hL]at c0⊢;rw[hs]at e1 e2 J⊢;rw[hi]at e2 J⊢;have i0:(0:Int)<=(i:Int):=by omega
 have i1:(i:Int)<(LO:Int):=by omega
 have z0:¬(LO:Int)=0:=by omega
 have z1:¬LO=0:=by omega
 obtain⟨q,hq⟩:∃q,ps[i]?=E q:=⟨_,Ar om⟩;obtain⟨y0,y1,j,A,C⟩:=ag4 hq;have d0:W.cell? ⟨B,i*5,O⟩=E (R K q.num):=by simp[cell?,Z.places];exact y0
 have f0:W.frozen? ⟨B,i*5,O⟩=M:=by simp[frozen?,Z.places]
 have d1:W.cell? ⟨B,i*5+1,O⟩=E (R K q.start):=by simp[cell?,Z.places];exact y1
 have f1:W.frozen? ⟨B,i*5+1,O⟩=M:=by simp[frozen?,Z.places]
 have d2:W.cell? ⟨B,i*5+2,O⟩=E (R K q.warm):=by simp[cell?,Z.places];exact j
 have f2:W.frozen? ⟨B,i*5+2,O⟩=M:=by simp[frozen?,Z.places]
 have d3:W.cell? ⟨B,i*5+3,O⟩=E (T q.a q.m q.c):=by simp[cell?,Z.places];exact A
 have f3:W.frozen? ⟨B,i*5+3,O⟩=M:=by simp[frozen?,Z.places]
 have d4:W.cell? ⟨B,i*5+4,O⟩=E (R K q.buf):=by simp[cell?,Z.places];exact C
 have f4:W.frozen? ⟨B,i*5+4,O⟩=M:=by simp[frozen?,Z.places]
 have H:Ab X Q B first many closed ps W.drew:=Z.below (AN W 1);obtain⟨N,D⟩:=H.setP i p;obtain⟨V,I⟩:∃V,V=(Ab.putW W B i p).drew:=⟨_,rfl⟩;have N:Ab X Q B first many closed (ps.set i p) V:=by rw[I];exact N
 have D:Chg X W V:=by rw[I];exact(Chg.of_same (AN W 1)).then D
 have k2:V.cell? ⟨Q,2,O⟩=E (R K (many:Int)):=by simp[cell?,N.box]
 have l2:V.frozen? ⟨Q,2,O⟩=M:=by simp[frozen?,N.box]
 have ew:IntKind.i64.wrap ((many:Int)+1)=(many:Int)+1:=by rw[BK];omega
 obtain⟨s1,s2⟩:=N.setM (many+1) (by rw[BG];omega);have S1:=AA s1;have S2:=AA (((Chg.of_same hB).then D).then s2);unfold Ab.putW at I;clear h Z U hL hs hi hq y0 y1 j A C H N D s1 s2 r1 r2 r3 r4 hB;go_enter func239,ntmps239;go_upto_region 1 with fail
 rw[<-hW];clear hW
 go_region
 rw[<-I];clear I c0 c1 c2 d0 f0 x0 d1 f1 x1 d2 f2 x2 d3 f3 x3 d4 f4 x4;go_wp2
 go_end0
 exact⟨⟨_,rfl⟩,S1.out,S2.out⟩
structure PAd where
 P:Nat
 m:Nat
 S:Nat
 Kk:Nat
 Bb:Nat
 Bu:Nat
 Bd:Nat
 Q:Nat
 QB:Nat
 G:Nat
 GB:Nat
 O:Nat
 OB:Nat
 TT:Nat
 tc:Nat
 R:Nat
 Wk:Nat->Nat
 M:Nat
 E:Nat
 mR:Nat
 mW:Nat->Nat
 mM:Nat
 mE:Nat
 q:Nat
 Wm:World
def mvP(f r:Nat):Vk:=.func (.func f) #[L (E ⟨r,0,O⟩)] #[]
def He:Vk:=.func (.func 141) #[] #[]
def Hg(U V:Vk):Vk:=i8 #[U,V]
def ES(w:Wa)(r:Nat)(f:Nat->Option Vk):Prop:=∃es V,w.heap[r]?=E (.map es V)/\∀k v,f k=E v->∃i,Instr.findNow (.int .u8) (.int .u8 (k:Int)) es.toList 0=E (E (i,v))
def EO(P at_ V mp:Nat)(N U:Vk):List Vk:=[L (E ⟨P,0,O⟩),.int .u8 (at_:Int),.int .u8 (V:Int),.map (E mp),N,U]
def SlD(Z:Nat->Prop)(w:Wa)(a:Option Addr)(m:Nat)(h:List AF):Prop:=SlK 2 w a m (AV h)/\(m≠0->∀q,a=E q->Z q.block)
def ByD(Z:Nat->Prop)(w:Wa)(a:Option Addr)(m:Nat)(h:List Int):Prop:=Bys w a m h/\(m≠0->∀q,a=E q->Z q.block)
def PcD(Z:Nat->Prop)(w:Wa)(p:PcW)(b:Bc):Prop:=p.num=b.num/\p.start=b.start/\p.warm=b.warm/\p.buf=b.buf/\ByD Z w p.a p.m b.data
def RgD(Z:Nat->Prop)(w:Wa)(p:PlW)(x:Option (List AF)):Prop:=match x with
 |none=>p.2=M
 |some h=>p.2=G/\SlD Z w p.1.1 p.1.2.1 h/\p.1.2.1<=p.1.2.2
def EK(A:PAd)(c:CfM)(s:PlM)(V:Vk):Array Vk:=
 #[L (E ⟨A.m,0,O⟩),R K (c.W:Int),R K (c.K:Int),R K (c.R:Int),R K (c.Q:Int),R K (c.O:Int),R K (c.S:Int),R K (c.F:Int),R K (c.wm:Int),
  L (E ⟨A.S,0,O⟩),L (E ⟨A.Kk,0,O⟩),L (E ⟨A.Bb,0,O⟩),L (E ⟨A.Q,0,O⟩),L (E ⟨A.G,0,O⟩),L (E ⟨A.O,0,O⟩),
  T (E ⟨A.TT,0,O⟩) (c.W+3) A.tc,R K (s.number:Int),R K (s.read:Int),V,i6 s.cancelled]
def rdV(A:PAd)(r:RdM)(V:Vk):Array Vk:=
 (EO A.P r.ph 5 A.mR He (mvP 146 A.R)++[i6 r.holds,R K (r.buf:Int),R K (r.warm:Int),R K (r.own:Int),R K (r.ahead:Int),V,i6 r.ended]).toArray
def wkV(A:PAd)(i:Nat)(x:WkM)(p:PcW)(V:Vk):Array Vk:=
 (EO A.P x.ph 4 (A.mW i) (mvP 151 (A.Wk i)) (mvP 152 (A.Wk i))++Lf p++[R K (x.node:Int),R K (x.done:Int),V]).toArray
def mgV(A:PAd)(ph:Nat)(V:Vk):Array Vk:=(EO A.P ph 3 A.mM He (mvP 157 A.M)++[V]).toArray
def emV(A:PAd)(ph:Nat):Array Vk:=(EO A.P ph 2 A.mE (mvP 158 A.E) (mvP 160 A.E)).toArray
def stR(A:PAd):Nat->Option Vk
 |1=>E (Hg (mvP 139 A.R) (mvP 140 A.R))
 |2=>E (Hg He (mvP 142 A.R))
 |3=>E (Hg (mvP 143 A.R) (mvP 144 A.R))
 |4=>E (Hg He (mvP 145 A.R))
 |_=>O
def stW(A:PAd)(i:Nat):Nat->Option Vk
 |1=>E (Hg (mvP 147 (A.Wk i)) (mvP 148 (A.Wk i)))
 |2=>E (Hg He (mvP 149 (A.Wk i)))
 |3=>E (Hg He (mvP 150 (A.Wk i)))
 |_=>O
def stM(A:PAd):Nat->Option Vk
 |1=>E (Hg (mvP 153 A.M) (mvP 154 A.M))
 |2=>E (Hg (mvP 155 A.M) (mvP 156 A.M))
 |_=>O
def stE(A:PAd):Nat->Option Vk
 |1=>E (Hg (mvP 158 A.E) (mvP 159 A.E))
 |_=>O
def Mo(A:PAd)(c:CfM)(t:Nat):Vk:=
 if t=0 then .iface 175 (L (E ⟨A.R,0,O⟩)) else if t<=c.W then .iface 177 (L (E ⟨A.Wk (t-1),0,O⟩)) else if t=c.W+1 then .iface 179 (L (E ⟨A.M,0,O⟩)) else .iface 181 (L (E ⟨A.E,0,O⟩))
def Fk(q:Nat)(W V:Wa):Prop:=W.heap.size<=V.heap.size/\∀k,q<=k->k<W.heap.size->(∀l,W.heap[k]?≠E (Obj.deferred l))->V.heap[k]?=W.heap[k]?
def Nz(m:Nat)(c:CfM)(V:Wa):Prop:=∀(nu st wm:Nat)(b:Option Addr)(n U:Nat)(bs:List Int)(z d:Nat),Bys V b n bs->n<=900000->
 Calls ZP 200 #[L (E ⟨m,0,O⟩),i8 #[R K (nu:Int),R K (st:Int),R K (wm:Int),T b n U],i8 #[R K (z:Int),R K (d:Int)],R K (c.S:Int)] V λe w'=>
  ∃v,e=ra (ta #[i8 #[R K ((c.scan st wm bs z d).1:Int),R K ((c.scan st wm bs z d).2.1:Int)],v,i6 (c.scan st wm bs z d).2.2.2])/\Ax w' V.heap.size v (c.scan st wm bs z d).2.2.1/\La V w'
section
variable (A:PAd)(c:CfM)(s:PlM)(X Z:Nat->Prop)(w:Wa)
structure MO:Prop where
 tasks:∀t,t<c.W+3->w.cell? ⟨A.TT,t,none⟩=some (Mo A c t)
 tasksZ:Z A.TT/\A.TT<w.heap.size
 mR:ES w A.mR (stR A)/\Z A.mR
 mW:∀i,i<c.W->ES w (A.mW i) (stW A i)/\Z (A.mW i)
 mM:ES w A.mM (stM A)/\Z A.mM
 mE:ES w A.mE (stE A)/\Z A.mE
 mach:(∀V,Fk A.q A.Wm V->Nz A.m c V)/\Fk A.q A.Wm w/\∀k,A.q<=k->k<A.Wm.heap.size->Z k
 tc:c.W+3<=A.tc
def MN:Prop:=∃V,w.heap[A.P]?=E (i7 (EK A c s V) 109 (0,0))/\X A.P/\CO X w 116 2 V (lc s.took) (AV s.took)/\V.ownBlock≠E A.P
def MM:Prop:=∃a n U V,BY X A.S a n U V s.rs c.br s.told w/\n<=1000000
def LB:Prop:=∃a n U V,CN X A.Kk a n U V c.ans s.tk s.off w
def Ik:Prop:=DM X A.Bb A.Bu A.Bd (c.K+c.wm) (s.fr.map λx:Nat=>(x:Int)) s.us s.ds w
def Gm:Prop:=∃first V,Ab X A.Q A.QB first (lc s.q) s.shut V w/\lc V=c.Q/\∀i b,s.q[i]?=E b->∃p,V[(first+i) % c.Q]?=E p/\PcD Z w p b
def Gl:Prop:=∃V,BZ X A.G A.GB s.next V w/\lc V=c.R/\lc s.rg=c.R/\∀i x,s.rg[i]?=E x->∃p,V[(s.next+i) % c.R]?=E p/\RgD Z w p x
def GN:Prop:=∃first V,AY X A.O A.OB first (lc s.out) s.ended V w/\lc V=c.O/\∀i h,s.out[i]?=E h->V[(first+i) % c.O]?=E h
def LA:Prop:=∃V,w.heap[A.R]?=E (i7 (rdV A s.rd V) 245 (0,0))/\X A.R/\Cv X w V s.rd.tail/\V.ownBlock≠E A.R
def Nx:Prop:=∃a m V,w.heap[A.M]?=E (i7 (mgV A s.mph (T a m V)) 251 (0,0))/\X A.M/\SlD Z w a m s.left/\m<=V
def Ny:Prop:=w.heap[A.E]?=E (i7 (emV A s.eph) 253 (0,0))/\X A.E
def CP(i:Nat):Prop:=match s.wk[i]? with
 |none=>True
 |some x=>∃p V,w.heap[A.Wk i]?=E (i7 (wkV A i x p V) 249 (0,0))/\X (A.Wk i)/\PcD Z w p x.blk/\CO (λk=>X k∨Z k) w 116 2 V (lc x.hits) (AV x.hits)/\V.ownBlock≠E (A.Wk i)/\(x.ph≠3->∀g,V.ownBlock=E g->X g)
def Ai:Nat->Prop
 |0=>MO A c Z w
 |1=>MN A c s X w
 |2=>MM A c s X w
 |3=>LB A c s X w
 |4=>Ik A c s X w
 |5=>Gm A c s X Z w
 |6=>Gl A c s X Z w
 |7=>GN A c s X w
 |8=>LA A s X w
 |9=>Nx A s X Z w
 |10=>Ny A s X w
 |i+11=>CP A s X Z w i
end
section
variable {A:PAd}{c:CfM}{s s':PlM}{X X' Y Z Z':Nat->Prop}{w w':Wa}
theorem ES.keep{r:Nat}{f:Nat->Option Vk}(h:ES w r f)(U:Chg Y w w')(V:¬Y r):ES w' r f:=by obtain⟨es,N,h1,h2⟩:=h;exact⟨es,N,(U.block r (AD.1 h1).1 V).trans h1,h2⟩
theorem SlD.keep{a:Option Addr}{m:Nat}{h:List AF}(V:SlD Z w a m h)(N:Chg Y w w')(J:∀k,k<w.heap.size->Z k->¬Y k):SlD Z w' a m h:=by
 refine⟨⟨V.1.1,?_⟩,V.2⟩
 by_cases h0:m=0
 ·exact .inl h0
 ·obtain⟨b,o,e,U,I⟩:=V.1.2.resolve_left h0;refine .inr ⟨b,o,e,Af U N.size,λi u H=>?_⟩;have D:w'.heap[b]?=w.heap[b]?:=N.block b U (J b U (V.2 h0 _ e));rw[BC (a:=⟨b,o+i,O⟩) D];exact I i u H
theorem ByD.keep{a:Option Addr}{m:Nat}{h:List Int}(V:ByD Z w a m h)(U:Chg Y w w')(N:∀k,k<w.heap.size->Z k->¬Y k):ByD Z w' a m h:=⟨V.1.same U.size λh0 q e=>U.block _ (V.1.lt h0 q e) (N _ (V.1.lt h0 q e) (V.2 h0 q e)),V.2⟩
theorem SlD.lt{a:Option Addr}{m:Nat}{h:List AF}(V:SlD Z w a m h)(h0:m≠0):∀q,a=E q->q.block<w.heap.size:=λq U=>by
 obtain⟨g,o,e,N,_⟩:=V.1.2.resolve_left h0;rw[U]at e
 cases AK e
 exact N
theorem SlD.wide{a:Option Addr}{m:Nat}{h:List AF}(V:SlD Z w a m h)(U:∀k,k<w.heap.size->Z k->Z' k):SlD Z' w a m h:=⟨V.1,λh0 q e=>U _ (V.lt h0 q e) (V.2 h0 q e)⟩
theorem ByD.wide{a:Option Addr}{m:Nat}{h:List Int}(V:ByD Z w a m h)(U:∀k,k<w.heap.size->Z k->Z' k):ByD Z' w a m h:=⟨V.1,λh0 q e=>U _ (V.1.lt h0 q e) (V.2 h0 q e)⟩
theorem PcD.keep{p:PcW}{b:Bc}(h:PcD Z w p b)(U:Chg Y w w')(V:∀k,k<w.heap.size->Z k->¬Y k):PcD Z w' p b:=⟨h.1,h.2.1,h.2.2.1,h.2.2.2.1,h.2.2.2.2.keep U V⟩
theorem PcD.wide{p:PcW}{b:Bc}(h:PcD Z w p b)(V:∀k,k<w.heap.size->Z k->Z' k):PcD Z' w p b:=⟨h.1,h.2.1,h.2.2.1,h.2.2.2.1,h.2.2.2.2.wide V⟩
theorem RgD.keep{p:PlW}{x:Option (List AF)}(h:RgD Z w p x)(U:Chg Y w w')(V:∀k,k<w.heap.size->Z k->¬Y k):RgD Z w' p x:=by
 cases x with
 |none=>exact h
 |some l=>exact⟨h.1,h.2.1.keep U V,h.2.2⟩
theorem RgD.wide{p:PlW}{x:Option (List AF)}(h:RgD Z w p x)(V:∀k,k<w.heap.size->Z k->Z' k):RgD Z' w p x:=by
 cases x with
 |none=>exact h
 |some l=>exact⟨h.1,h.2.1.wide V,h.2.2⟩
theorem Ai.keep{t:Nat}(h:Ai A c s X Z w t)(V:Chg Y w w')(N:∀k,k<w.heap.size->X k->¬Y k)(U:∀k,k<w.heap.size->Z k->¬Y k):Ai A c s X Z w' t:=by
 have D:∀k o,w.heap[k]?=E o->X k->w'.heap[k]?=E o:=λk o hk h=>(V.block k (AD.1 hk).1 (N k (AD.1 hk).1 h)).trans hk
 match t,h with
 |0,h=>
  have I:∀r f,ES w r f->r<w.heap.size:=λr f ⟨es,j,h1,_⟩=>(AD.1 h1).1;have h:MO A c Z w:=h;exact⟨λt v=>by rw[BC (a:=⟨A.TT,t,O⟩) (V.block _ h.tasksZ.2 (U _ h.tasksZ.2 h.tasksZ.1))];exact h.tasks t v,⟨h.tasksZ.1,Af h.tasksZ.2 V.size⟩,
   ⟨h.mR.1.keep V (U _ (I _ _ h.mR.1) h.mR.2),h.mR.2⟩,λi J=>⟨(h.mW i J).1.keep V (U _ (I _ _ (h.mW i J).1) (h.mW i J).2),(h.mW i J).2⟩,⟨h.mM.1.keep V (U _ (I _ _ h.mM.1) h.mM.2),h.mM.2⟩,⟨h.mE.1.keep V (U _ (I _ _ h.mE.1) h.mE.2),h.mE.2⟩,
   ⟨h.mach.1,⟨AS h.mach.2.1.1 V.size,λk h1 h2 h3=>(V.block k (Af h2 h.mach.2.1.1) (U k (Af h2 h.mach.2.1.1) (h.mach.2.2 k h1 h2))).trans (h.mach.2.1.2 k h1 h2 h3)⟩,h.mach.2.2⟩,h.tc⟩
 |1,h=>exact let⟨tv,h1,h2,h3,h4⟩:=h;⟨tv,D _ _ h1 h2,h2,h3.keep V λg H=>N g (h3.lt g H) (h3.2 g H),h4⟩
 |2,h=>exact let⟨a,n,cc,vs,h1,h2⟩:=h;⟨a,n,cc,vs,h1.keep V N,h2⟩
 |3,h=>exact let⟨a,n,cc,tv,h1⟩:=h;⟨a,n,cc,tv,h1.keep V N⟩
 |4,h=>exact let⟨lab,fv,dv,h1⟩:=h;⟨lab,fv,dv,h1.keep V N⟩
 |5,h=>exact let⟨first,ps,h1,h2,h3⟩:=h;⟨first,ps,h1.keep V N,h2,λi b J=>let⟨p,g1,g2⟩:=h3 i b J;⟨p,g1,g2.keep V U⟩⟩
 |6,h=>exact let⟨pl,h1,h2,h0,h3⟩:=h;⟨pl,h1.keep V N,h2,h0,λi b J=>let⟨p,g1,g2⟩:=h3 i b J;⟨p,g1,g2.keep V U⟩⟩
 |7,h=>exact let⟨first,ps,h1,h2,h3⟩:=h;⟨first,ps,h1.keep V N,h2,h3⟩
 |8,h=>exact let⟨tv,h1,h2,h3,h4⟩:=h;⟨tv,D _ _ h1 h2,h2,h3.keep V λg H=>N g (h3.lt g H).1 (h3.lt g H).2,h4⟩
 |9,h=>exact let⟨a,m,cc,h1,h2,h3,h4⟩:=h;⟨a,m,cc,D _ _ h1 h2,h2,h3.keep V U,h4⟩
 |10,h=>exact⟨D _ _ h.1 h.2,h.2⟩
 |i+11,h=>
  show CP A s X Z w' i;have h:CP A s X Z w i:=h;unfold CP at h⊢
  cases J:s.wk[i]? with
  |none=>trivial
  |some x=>
   rw[J]at h;obtain⟨p,B,h1,h2,h3,h4,h5,h6⟩:=h;exact⟨p,B,D _ _ h1 h2,h2,h3.keep V U,h4.keep V λg H C=>(h4.2 g H).elim (λe=>N g (h4.lt g H) e C) λe=>U g (h4.lt g H) e C,h5,h6⟩
theorem Ai.wide{t:Nat}(h:Ai A c s X Z w t)(U:∀k,k<w.heap.size->X k->X' k)(V:∀k,k<w.heap.size->Z k->Z' k):Ai A c s X' Z' w t:=by
 have I:∀k o,w.heap[k]?=E o->X k->X' k:=λk o hk h=>U k (AD.1 hk).1 h
 match t,h with
 |0,h=>
  have N:∀r f,ES w r f->r<w.heap.size:=λr f ⟨es,C,h1,_⟩=>(AD.1 h1).1;have h:MO A c Z w:=h;exact⟨h.tasks,⟨V _ h.tasksZ.2 h.tasksZ.1,h.tasksZ.2⟩,⟨h.mR.1,V _ (N _ _ h.mR.1) h.mR.2⟩,λi J=>⟨(h.mW i J).1,V _ (N _ _ (h.mW i J).1) (h.mW i J).2⟩,⟨h.mM.1,V _ (N _ _ h.mM.1) h.mM.2⟩,⟨h.mE.1,V _ (N _ _ h.mE.1) h.mE.2⟩,
   ⟨h.mach.1,h.mach.2.1,λk h1 h2=>V k (Af h2 h.mach.2.1.1) (h.mach.2.2 k h1 h2)⟩,h.tc⟩
 |1,h=>exact let⟨tv,h1,h2,h3,h4⟩:=h;⟨tv,h1,I _ _ h1 h2,h3.wide U,h4⟩
 |2,h=>exact let⟨a,n,cc,vs,h1,h2⟩:=h;⟨a,n,cc,vs,h1.wide U,h2⟩
 |3,h=>exact let⟨a,n,cc,tv,h1⟩:=h;⟨a,n,cc,tv,h1.wide U⟩
 |4,h=>exact let⟨lab,fv,dv,h1⟩:=h;⟨lab,fv,dv,h1.wide U⟩
 |5,h=>exact let⟨first,ps,h1,h2,h3⟩:=h;⟨first,ps,h1.wide U,h2,λi b J=>let⟨p,g1,g2⟩:=h3 i b J;⟨p,g1,g2.wide V⟩⟩
 |6,h=>exact let⟨pl,h1,h2,h0,h3⟩:=h;⟨pl,h1.wide U,h2,h0,λi b J=>let⟨p,g1,g2⟩:=h3 i b J;⟨p,g1,g2.wide V⟩⟩
 |7,h=>exact let⟨first,ps,h1,h2,h3⟩:=h;⟨first,ps,h1.wide U,h2,h3⟩
 |8,h=>exact let⟨tv,h1,h2,h3,h4⟩:=h;⟨tv,h1,I _ _ h1 h2,h3.wide U,h4⟩
 |9,h=>exact let⟨a,m,cc,h1,h2,h3,h4⟩:=h;⟨a,m,cc,h1,I _ _ h1 h2,h3.wide V,h4⟩
 |10,h=>exact⟨h.1,I _ _ h.1 h.2⟩
 |i+11,h=>
  show CP A s X' Z' w i;have h:CP A s X Z w i:=h;unfold CP at h⊢
  cases J:s.wk[i]? with
  |none=>trivial
  |some x=>
   rw[J]at h;obtain⟨p,D,h1,h2,h3,h4,h5,h6⟩:=h;exact⟨p,D,h1,I _ _ h1 h2,h3.wide V,h4.wide λk hk e=>e.imp (U k hk) (V k hk),h5,λe g H=>U g (h4.lt g H) (h6 e g H)⟩
end
structure AI(A:PAd)(c:CfM)(o:Nat->Nat)(s:PlM)(w:World):Prop where
 part:∀t,t<1000->Ai A c s (λk=>o k=t) (λk=>o k=0) w t
 out:∀k,w.heap.size<=k->o k=1000000
def EW(o:Nat->Nat)(n V t:Nat)(k:Nat):Nat:=if k<n then o k else if k<V then t else 1000000
def Hq(o:Nat->Nat)(g:Option Nat)(k:Nat):Nat:=if g=E k then 0 else o k
section
variable {A:PAd}{c:CfM}{s s':PlM}{o:Nat->Nat}{w w':Wa}
theorem FV{n V t k:Nat}(h:k<n):EW o n V t k=o k:=Lq h
theorem Mq{n V t k:Nat}(h:n<=k)(h2:k<V):EW o n V t k=t:=by unfold EW;rw[Lc om,Lq h2]
theorem Mp{n V t k:Nat}(h:n<=k)(h2:V<=k):EW o n V t k=1000000:=by unfold EW;rw[Lc om,Lc om]
theorem AI.upd(h:AI A c o s w)(t:Nat)(B:t≠0)(C:t<1000)(D:Chg (λk=>o k=t) w w')(j:Ai A c s' (λk=>o k=t∨w.heap.size<=k) (λk=>o k=0) w' t)
  (v:∀u X Z V,u≠t->Ai A c s X Z V u->Ai A c s' X Z V u):AI A c (EW o w.heap.size w'.heap.size t) s' w':=by
 have H:∀k,k<w'.heap.size->o k=0->EW o w.heap.size w'.heap.size t k=0:=λk hk h0=>by
  by_cases U:k<w.heap.size
  ·rw[FV U];exact h0
  ·have:=h.out k om;omega
 refine⟨λu J=>?_,λk hk=>Mp (AS D.size hk) hk⟩
 by_cases I:u=t
 ·subst I;refine j.wide (λk hk N=>?_) H
  by_cases U:k<w.heap.size
  ·rw[FV U];exact N.resolve_right om
  ·exact Mq om hk
 ·refine((v u _ _ _ I (h.part u J)).keep D (λk _ h1 h2=>I (h1.symm.trans h2)) (λk _ h1 h2=>B (h2.symm.trans h1))).wide (λk hk N=>?_) H
  by_cases U:k<w.heap.size
  ·rw[FV U];exact N
  ·have:=h.out k om;omega
theorem AI.grow(h:AI A c o s w)(t:Nat)(J:t<1000)(N:La w w'):AI A c (EW o w.heap.size w'.heap.size t) s w':=by
 refine⟨λu V=>?_,λk hk=>Mp (AS N.size hk) hk⟩;refine(((h.part u V).keep (Y:=λ_=>False) (.of_same N) (λ_ _ _ h=>h) (λ_ _ _ h=>h))).wide (λk hk U=>?_) (λk hk U=>?_)
 all_goals
  by_cases I:k<w.heap.size
  ·rw[FV I];exact U
  ·have:=h.out k om;omega
theorem AI.freeze(h:AI A c o s w)(t:Nat)(g:Option Nat)(I:∀k,g=E k->k<w.heap.size/\(o k=t∨o k=0))(C:t≠0)(D:Ai A c s' (λk=>o k=t/\g≠E k) (λk=>o k=0∨g=E k) w t)
  (H:∀u X Z V,u≠t->Ai A c s X Z V u->Ai A c s' X Z V u):AI A c (Hq o g) s' w:=by
 refine⟨λu N=>?_,λk hk=>?_⟩
 ·by_cases J:u=t
  ·subst J;refine D.wide (λk hk U=>?_) (λk hk U=>?_)
   ·unfold Hq;rw[Lc U.2];exact U.1
   ·unfold Hq;split
    ·rfl
    ·exact U.resolve_right (by assumption)
  ·refine(H u _ _ _ J (h.part u N)).wide (λk hk U=>?_) (λk hk U=>?_)
   ·unfold Hq;split
    ·rename_i e
     rcases(I k e).2 with e2|e2<;>omega
    ·exact U
   ·unfold Hq;split
    ·rfl
    ·exact U
 ·unfold Hq;rw[Lc λe=>by have:=(I k e).1;omega];exact h.out k hk
end
section
variable {A:PAd}{c:CfM}{s s':PlM}{o:Nat->Nat}{w w':Wa}
theorem Ai.congr(t:Nat)
  (h1:t=1∨s'.number=s.number/\s'.read=s.read/\s'.took=s.took/\s'.cancelled=s.cancelled:=by first|exact .inl rfl|exact .inr ⟨rfl,rfl,rfl,rfl⟩)
  (h2:t=2∨s'.rs=s.rs/\s'.told=s.told:=by first|exact .inl rfl|exact .inr ⟨rfl,rfl⟩)
  (h3:t=3∨s'.tk=s.tk/\s'.off=s.off:=by first|exact .inl rfl|exact .inr ⟨rfl,rfl⟩)
  (h4:t=4∨s'.fr=s.fr/\s'.us=s.us/\s'.ds=s.ds:=by first|exact .inl rfl|exact .inr ⟨rfl,rfl,rfl⟩)
  (h5:t=5∨s'.q=s.q/\s'.shut=s.shut:=by first|exact .inl rfl|exact .inr ⟨rfl,rfl⟩)
  (h6:t=6∨s'.next=s.next/\s'.rg=s.rg:=by first|exact .inl rfl|exact .inr ⟨rfl,rfl⟩)
  (h7:t=7∨s'.out=s.out/\s'.ended=s.ended:=by first|exact .inl rfl|exact .inr ⟨rfl,rfl⟩)
  (h8:t=8∨s'.rd=s.rd:=by first|exact .inl rfl|exact .inr rfl)
  (h9:t=9∨s'.mph=s.mph/\s'.left=s.left:=by first|exact .inl rfl|exact .inr ⟨rfl,rfl⟩)
  (h10:t=10∨s'.eph=s.eph:=by first|exact .inl rfl|exact .inr rfl)
  (h11:∀j,t≠j+11->s'.wk[j]?=s.wk[j]?:=by exact λ_ _=>rfl) :
  ∀u X Z V,u≠t->Ai A c s X Z V u->Ai A c s' X Z V u:=λu X Z V Y h=>by
 match u,Y,h with
 |0,_,h=>exact h
 |1,Y,h=>
  obtain⟨U,e2,N,J⟩:=h1.resolve_left λe=>Y e.symm;show MN A c s' X V;have h:MN A c s X V:=h;unfold MN EK at h⊢;rw[U,e2,N,J];exact h
 |2,Y,h=>
  obtain⟨U,e2⟩:=h2.resolve_left λe=>Y e.symm;show MM A c s' X V;have h:MM A c s X V:=h;unfold MM at h⊢;rw[U,e2];exact h
 |3,Y,h=>
  obtain⟨U,e2⟩:=h3.resolve_left λe=>Y e.symm;show LB A c s' X V;have h:LB A c s X V:=h;unfold LB at h⊢;rw[U,e2];exact h
 |4,Y,h=>
  obtain⟨U,e2,N⟩:=h4.resolve_left λe=>Y e.symm;show Ik A c s' X V;have h:Ik A c s X V:=h;unfold Ik at h⊢;rw[U,e2,N];exact h
 |5,Y,h=>
  obtain⟨U,e2⟩:=h5.resolve_left λe=>Y e.symm;show Gm A c s' X Z V;have h:Gm A c s X Z V:=h;unfold Gm at h⊢;rw[U,e2];exact h
 |6,Y,h=>
  obtain⟨U,e2⟩:=h6.resolve_left λe=>Y e.symm;show Gl A c s' X Z V;have h:Gl A c s X Z V:=h;unfold Gl at h⊢;rw[U,e2];exact h
 |7,Y,h=>
  obtain⟨U,e2⟩:=h7.resolve_left λe=>Y e.symm;show GN A c s' X V;have h:GN A c s X V:=h;unfold GN at h⊢;rw[U,e2];exact h
 |8,Y,h=>
  have U:=h8.resolve_left λe=>Y e.symm;show LA A s' X V;have h:LA A s X V:=h;unfold LA at h⊢;rw[U];exact h
 |9,Y,h=>
  obtain⟨U,e2⟩:=h9.resolve_left λe=>Y e.symm;show Nx A s' X Z V;have h:Nx A s X Z V:=h;unfold Nx at h⊢;rw[U,e2];exact h
 |10,Y,h=>
  have U:=h10.resolve_left λe=>Y e.symm;show Ny A s' X V;have h:Ny A s X V:=h;unfold Ny at h⊢;rw[U];exact h
 |j+11,Y,h=>
  have U:=h11 j λe=>Y e.symm;show CP A s' X Z V j;have h:CP A s X Z V j:=h;unfold CP at h⊢;rw[U];exact h
theorem AI.tag_same(h:AI A c o s w)(t:Nat):EW o w.heap.size w.heap.size t=o:=by
 funext k
 by_cases hk:k<w.heap.size
 ·exact FV hk
 ·rw[Mp om om,h.out k om]
theorem AI.updB(h:AI A c o s w)(t:Nat)(I:t≠0)(Y:t<1000)(U:w'.heap.size=w.heap.size)(C:Chg (λk=>o k=t) w w')(D:Ai A c s' (λk=>o k=t) (λk=>o k=0) w' t)
  (H:∀u X Z V,u≠t->Ai A c s X Z V u->Ai A c s' X Z V u):AI A c o s' w':=by
 have:=h.upd t I Y C (D.wide (λk _ J=>.inl J) λk _ N=>N) H;rw[U,h.tag_same]at this;exact this
theorem AI.setP(h:AI A c o s w)(i:Nat)(v:Vk)(s':PlM)(U:∀Y,(EK A c s Y).setIfInBounds i v=EK A c s' Y)(N:s'.took=s.took)(J:∀u X Z V,u≠1->Ai A c s X Z V u->Ai A c s' X Z V u) :AI A c o s' (w.setCell ⟨A.P,i,O⟩ v)/\w.frozen? ⟨A.P,i,O⟩=M:=by
 obtain⟨Y,h1,h2,h3,h4⟩:=h.part 1 om;have H:Chg (λk=>o k=1) w (w.setCell ⟨A.P,i,O⟩ v):=(Chg.refl _ w).set h2;refine⟨h.updB 1 om om (by simp[World.setCell]) H ⟨Y,?_,h2,?_,h4⟩ J,by simp[frozen?,h1]⟩
 ·have:=AJ (i:=i) h1 v;rw[U]at this;exact this
 ·rw[N];exact⟨Fu h3.1 λg I=>AQ w ⟨A.P,i,O⟩ _ g λe=>h4 (I.trans (congrArg E e)),h3.2⟩
theorem AI.setR(h:AI A c o s w)(i:Nat)(v:Vk)(Y:RdM)(V:∀Z,(rdV A s.rd Z).setIfInBounds i v=rdV A Y Z)(U:Y.tail=s.rd.tail) :AI A c o {s with rd:=Y} (w.setCell ⟨A.R,i,O⟩ v)/\w.frozen? ⟨A.R,i,O⟩=M:=by
 obtain⟨Z,h1,h2,h3,h4⟩:=h.part 8 om;have J:Chg (λk=>o k=8) w (w.setCell ⟨A.R,i,O⟩ v):=(Chg.refl _ w).set h2;have X:Chg (λk=>k=A.R) w (w.setCell ⟨A.R,i,O⟩ v):=(Chg.refl _ w).set rfl;refine⟨h.updB 8 om om (by simp[World.setCell]) J ⟨Z,?_,h2,?_,h4⟩ (Ai.congr 8),by simp[frozen?,h1]⟩
 ·have:=AJ (i:=i) h1 v;rw[V]at this;exact this
 ·show Cv _ _ Z Y.tail;rw[U];exact h3.keep X λg N e=>h4 (by rw[<-e];exact N)
theorem AI.setM(h:AI A c o s w)(ph:Nat):AI A c o {s with mph:=ph} (w.setCell ⟨A.M,1,O⟩ (.int .u8 (ph:Int)))/\w.frozen? ⟨A.M,1,O⟩=M:=by obtain⟨a,m,Y,h1,h2,h3,h4⟩:=h.part 9 om;have Z:Chg (λk=>o k=9) w (w.setCell ⟨A.M,1,O⟩ (.int .u8 (ph:Int))):=(Chg.refl _ w).set h2;refine⟨h.updB 9 om om (by simp[World.setCell]) Z ⟨a,m,Y,AJ (i:=1) h1 _,h2,h3.keep Z (λk _ e=>by rw[e];decide),h4⟩ (Ai.congr 9),by simp[frozen?,h1]⟩
theorem AI.setML(h:AI A c o s w)(l:List AF)(a:Option Addr)(m Z:Nat)(V:SlD (λk=>o k=0) w a m l)(X:m<=Z) :AI A c o {s with left:=l} (w.setCell ⟨A.M,6,O⟩ (T a m Z))/\w.frozen? ⟨A.M,6,O⟩=M:=by obtain⟨a0,N,U,h1,h2,h3,h4⟩:=h.part 9 om;have Y:Chg (λk=>o k=9) w (w.setCell ⟨A.M,6,O⟩ (T a m Z)):=(Chg.refl _ w).set h2;refine⟨h.updB 9 om om (by simp[World.setCell]) Y ⟨a,m,Z,AJ (i:=6) h1 _,h2,V.keep Y (λk _ e=>by rw[e];decide),X⟩ (Ai.congr 9),by simp[frozen?,h1]⟩
theorem AI.setE(h:AI A c o s w)(ph:Nat):AI A c o {s with eph:=ph} (w.setCell ⟨A.E,1,O⟩ (.int .u8 (ph:Int)))/\w.frozen? ⟨A.E,1,O⟩=M:=by obtain⟨h1,h2⟩:=h.part 10 om;have Z:Chg (λk=>o k=10) w (w.setCell ⟨A.E,1,O⟩ (.int .u8 (ph:Int))):=(Chg.refl _ w).set h2;exact⟨h.updB 10 om om (by simp[World.setCell]) Z ⟨AJ (i:=1) h1 _,h2⟩ (Ai.congr 10),by simp[frozen?,h1]⟩
theorem AI.setWk(h:AI A c o s w){i:Nat}{x:WkM}(N:s.wk[i]?=E x)(hi:i<900)(Y:WkM)(w':Wa)(J:w'.heap.size=w.heap.size)(H:∀k,k≠A.Wk i->w'.heap[k]?=w.heap[k]?)(X:w'.os=w.os/\w'.tape=w.tape/\w'.output=w.output)
  (B:∀p V,w.heap[A.Wk i]?=E (i7 (wkV A i x p V) 249 (0,0))->PcD (λk=>o k=0) w p x.blk->CO (λk=>o k=i+11∨o k=0) w 116 2 V (lc x.hits) (AV x.hits)->V.ownBlock≠E (A.Wk i)->(x.ph≠3->∀g,V.ownBlock=E g->o g=i+11)->
   ∃U Z,w'.heap[A.Wk i]?=E (i7 (wkV A i Y U Z) 249 (0,0))/\PcD (λk=>o k=0) w U Y.blk/\CO (λk=>o k=i+11∨o k=0) w 116 2 Z (lc Y.hits) (AV Y.hits)/\Z.ownBlock≠E (A.Wk i)/\(Y.ph≠3->∀g,Z.ownBlock=E g->o g=i+11)) :
  AI A c o (setW s i λ_=>Y) w':=by
 have h0:=h.part (i+11) om;have h0:CP A s (λk=>o k=i+11) (λk=>o k=0) w i:=h0;unfold CP at h0;rw[N]at h0;obtain⟨p,V,h1,h2,h3,h4,h5,h6⟩:=h0;obtain⟨U,Z,g1,g3,C,D,g6⟩:=B p V h1 h3 h4 h5 h6;have I:Chg (λk=>k=A.Wk i) w w':=⟨X.1,X.2.1,X.2.2,by omega,λk _ hk=>H k hk⟩;have a1:i<lc s.wk:=(AP.1 N).1;refine h.updB (i+11) om om J (I.mono λk _ e=>by rw[e];exact h2) ?_ (Ai.congr (i+11) (h1:=.inr ⟨rfl,rfl,rfl,rfl⟩) (h2:=.inr ⟨rfl,rfl⟩) (h3:=.inr ⟨rfl,rfl⟩) (h4:=.inr ⟨rfl,rfl,rfl⟩) (h5:=.inr ⟨rfl,rfl⟩) (h6:=.inr ⟨rfl,rfl⟩) (h7:=.inr ⟨rfl,rfl⟩) (h8:=.inr rfl) (h9:=.inr ⟨rfl,rfl⟩) (h10:=.inr rfl) (h11:=λj v=>?_))
 ·show CP A (setW s i λ_=>Y) (λk=>o k=i+11) (λk=>o k=0) w' i;unfold CP setW;have e:(s.wk.modify i λ_=>Y)[i]?=E Y:=by rw[GS,N];simp
  show(match (s.wk.modify i λ_=>Y)[i]? with|none=>True|some x=>_);rw[e];refine⟨U,Z,g1,h2,g3.keep I λk _ e1 e2=>?_,⟨Fu C.1 λg hg=>H g λe=>D (by rw[<-e];exact hg),C.2⟩,D,g6⟩;rw[e2]at e1;omega
 ·show(s.wk.modify i λ_=>Y)[j]?=s.wk[j]?;rw[GS];have:i≠j:=λe=>v (by rw[e]);simp[this]
end
def aoF(X:Nat->Prop)(B U D size:Nat)(fr:List Int)(us:List Bool)(ds:Lb)(n:Int)(w:Wa)(e:Ending)(w':Wa):Prop:=
 e=ra (i6 (Cr us n))/\Chg X w w'/\DM (λk=>X k∨w.heap.size<=k) B U D size (if Cr us n then fr++[n] else fr) (if Cr us n then us.set n.toNat M else us) (if Cr us n then ds.set n.toNat [] else ds) w'
theorem ak8{us:List Bool}{n:Int}(h:Cr us n=G):∃k:Nat,n=k/\k<lc us/\us[k]?=E G:=by
 unfold Cr at h;rw[Bq]at h;obtain⟨k,rfl⟩:=Mb (Kf h.1);rw[Aa,DZ]at h
 by_cases hk:k<lc us
 ·refine⟨k,rfl,hk,?_⟩;have:=h.2;rw[Ar hk,CG]at this;rw[Ar hk,this]
 ·have:=h.2;rw[GT om]at this
  cases this
theorem ag3{X:Nat->Prop}{B U D size:Nat}{fr:List Int}{us:List Bool}{ds:Lb}(n:Int)(w:Wa)(h:DM X B U D size fr us ds w)(hn:lc fr<=100000) :Calls ZP 236 #[L (E ⟨B,0,O⟩),R K n] w (aoF X B U D size fr us ds n w):=by
 obtain⟨j,fv,dv,h⟩:=h;have HP:=AA (aaR n w h);unfold aoF
 cases hh:Cr us n with
 |false=>
  rw[hh]at HP;have HH:=AA h;clear h hn hh;go_enter func236,ntmps236
  go_wp2_with (go_at_call 233;refine HP.out.mono ?_;rintro e A ⟨rfl,J⟩;have HB:=AA J;clear J)
  go_ret;have hk:=HH.out.keep (Y:=λ_=>False) (.of_same HB.out) λ_ _ _ h=>h;exact⟨rfl,.of_same HB.out,j,fv,dv,hk.wide λ_ _ hx=>.inl hx⟩
 |true=>
  rw[hh]at HP;obtain⟨k,rfl,a6,aa⟩:=ak8 hh;obtain⟨LO,hL⟩:∃LO,lc us=LO:=⟨_,rfl⟩;have i0:(0:Int)<=(k:Int):=by omega
  have i1:(k:Int)<(LO:Int):=by omega
  have HL:=AA hL;have H:=AA a6;have HH:=AA h;clear h hh a6 aa hL;go_enter func236,ntmps236;go_upto_region 3 with(go_at_call 233;refine HP.out.mono ?_;rintro e A ⟨rfl,V⟩)
  have J:=HH.out.keep (Y:=λ_=>False) (.of_same V) λ_ _ _ h=>h;obtain⟨u1,u2⟩:=J.setU k M;have c2:A.cell? ⟨B,2,O⟩=E (T (E ⟨U,0,O⟩) LO LO):=by have:=HL.out;simp[cell?,J.box,this]
  have f2:A.frozen? ⟨U,k,O⟩=M:=by simp[frozen?,J.used]
  have g2:A.cell? ⟨U,k,O⟩=E (i6 (us[k]'H.out)):=by simp[cell?,J.used,H.out]
  obtain⟨Z,I⟩:∃W,W=A.setCell ⟨U,k,O⟩ (i6 M):=⟨_,rfl⟩;rw[<-I]at u1 u2;have a7:BB X j B U D fv dv size fr (us.set k M) ds Z.drew:=u1.keep (Y:=λ_=>False) (.of_same (AN Z 1)) λ_ _ _ h=>h;obtain⟨a,m,c,q1,C,v⟩:=a7.cut0 k (by rw[BG];exact H.out);have a2:(us.set k M).length=LO:=by rw[BG];exact HL.out
  have c3:Z.cell? ⟨B,3,O⟩=E (T (E ⟨D,0,O⟩) LO LO):=by simp[cell?,u1.box,a2]
  have f3:Z.frozen? ⟨D,k,O⟩=M:=by simp[frozen?,u1.data]
  have g3:Z.cell? ⟨D,k,O⟩=E (T a m c):=by simp[cell?,u1.data];exact q1
  obtain⟨W3,N⟩:∃W,W=(Z.setCell ⟨D,k,O⟩ (T a 0 c)).drew:=⟨_,rfl⟩;have C:DM (λk=>X k∨Z.drew.heap.size<=k) B U D size fr (us.set k M) (ds.set k []) W3:=by rw[N];exact C
  have v:Chg X Z.drew W3:=by rw[N];exact v
  have a1:w.heap.size<=Z.drew.heap.size:=AS V.size u2.size;obtain⟨ai,aj,ac,C⟩:=C;have af:=AA (abn (k:Int) W3 C om);have HC:=AA ((Chg.of_same V).then ((u2.same (AN Z 1)).then v));have ae:=AA (Va a1 v.size);clear J V u1 u2 a7 q1 C v a2 a1;go_upto_region 4 with fail
  rw[<-I];clear I c2 f2 g2
  go_region
  rw[<-N];clear N c3 f3 g3
  go_wp2_with fail
  refine af.out.mono ?_;rintro e w4 ⟨⟨v4,rfl⟩,⟨ab,s,hq⟩,a8⟩;have HQ:=AA hq;have ag:=AA a8;clear hq a8;go_wp2;go_ret;have hs:=ae.out;refine⟨rfl,HC.out.trans ag.out (λi hi hx=>hx.elim id λh=>by have:=hs.1;omega),s,ab,ac,?_⟩
  try simp only[if_true,Aa]
  exact HQ.out.wide λi _ hx=>hx.elim (λh=>h.elim .inl λh=>.inr (by have:=hs.1;omega)) λh=>.inr (by have:=hs.1;have:=hs.2;omega)
theorem aqs{X:Nat->Prop}{B U D size:Nat}{fr:List Int}{us:List Bool}{ds:Lb}(w:Wa)(h:DM X B U D size fr us ds w) :Calls ZP 70 #[L (E ⟨B,0,O⟩)] w λe w'=>e=ra (R K (lc fr:Int))/\w'=w:=by
 obtain⟨Y,N,J,h⟩:=h;obtain⟨a,c,rfl,_,_⟩:=SlK.own h.free.1.1;have c0:w.cell? ⟨B,0,O⟩=E (T a (lc fr) c):=by simp[cell?,h.box]
 have Z:Calls ZP 119 #[L (E ⟨B,0,O⟩)] w λe w'=>e=ra (R K (lc fr:Int))/\w'=w:=by clear h;go_enter func119,ntmps119;go_wp2;go_ret;exact⟨rfl,rfl⟩
 have Z:=AA Z;clear h;go_enter func70,ntmps70
 go_wp2_with (go_at_call 119;refine Z.out.mono ?_;rintro e V ⟨rfl,rfl⟩)
 go_ret;exact⟨rfl,rfl⟩
theorem aj4{us:List Bool}{k:Nat}(h:us[k]?=E G):Cr us (k:Int)=G:=by unfold Cr;rw[Aa,DZ,h];simp
theorem ahc{X:Nat->Prop}{B U D size:Nat}{fr:List Int}{us:List Bool}{ds:Lb}(k n c:Nat)(b:Option Addr)(bs H:List Int)(w:Wa)(h:DM X B U D size fr us ds w)(hB:Bys w b n bs)(hk:us[k]?=E G)(hx:ds[k]?=E H)(af:lc H+n<=size)(am:size<=100000) :Calls ZP 191 #[L (E ⟨B,0,O⟩),R K (k:Int),T b n c] w λe w'=>e=ra (i6 G)/\Chg X w w'/\DM (λk=>X k∨w.heap.size<=k) B U D size fr us (ds.set k (H++bs)) w':=by
 obtain⟨ar,fv,dv,h⟩:=h;have ae:=(AP.1 hk).1;obtain⟨v,C⟩:∃v,dv[k]?=E v:=⟨_,Ar (by rw[h.dl.1];exact ae)⟩;obtain⟨r1,r2⟩:=h.rows k v H C hx;obtain⟨a,cc,rfl,_,_⟩:=SlK.own r1.1;obtain⟨m,N⟩:∃m,lc H=m:=⟨_,rfl⟩;obtain⟨LO,hL⟩:∃LO,lc us=LO:=⟨_,rfl⟩;have aj:Hid (∀d os,Calls ZP 233 #[L (E ⟨B,0,O⟩),R K (k:Int)] (grow (redrawn w d) os) λe w'=>e=ra (i6 G)/\RowKit.Below (grow (redrawn w d) os).heap.size (grow (redrawn w d) os) w'):=λd os=>by
  have:=aaR (k:Int) _ (h.keep (Y:=λ_=>False) (.of_same (Vc w d os)) λ_ _ _ h=>h)
  rwa[aj4 hk]at this
 have hh:=aj.out;have k1:∀d os,(grow (redrawn w d) os).cell? ⟨B,1,O⟩=E (R K (size:Int)):=Vf (by simp[cell?,h.box]);have k3:∀d os,(grow (redrawn w d) os).cell? ⟨B,3,O⟩=E (T (E ⟨D,0,O⟩) LO LO):=Vf (by simp[cell?,h.box,hL]);have kD:∀d os,(grow (redrawn w d) os).cell? ⟨D,k,O⟩=E (T a m cc):=Vf (by rw[N]at C;simp[cell?,h.data];exact C);have i0:(0:Int)<=(k:Int):=by omega
 have i1:(k:Int)<(LO:Int):=by omega
 have e1:IntKind.i64.wrap ((size:Int)-(m:Int))=(size:Int)-(m:Int):=by rw[BK];omega
 have e2:decide ((n:Int) > (size:Int)-(m:Int))=M:=by simp;omega
 have ao:decide ((size:Int)-(m:Int)<(n:Int))=M:=by simp;omega
 have HH:=AA h;have HV:=AA C;have HX:=AA hx;have aq:=AA hB;have HM:=AA N;have ai:=AA hL;have au:m+n<=100000:=by omega
 clear h hB hk hx af am C N hL ae r1 r2 aj;go_enter func191,ntmps191;go_upto_region 1 with fail
 refine wp_region_quiet_below mixed kr ?_
 repeat (go_big_quiet_step (exact Eu (hh _ _)))
 refine wpQuiet_nil ?_;rintro _ ⟨⟨dq,a8⟩,rfl⟩;have I:=Vc w dq a8;obtain⟨V,hV⟩:∃V,V=grow (redrawn w dq) a8:=⟨_,rfl⟩;rw[<-hV]at I⊢;clear hV hh k1 k3 kD e1 e2 ao;go_upto_region 3 with fail
 obtain⟨W,hW⟩:∃W,W=V.drew:=⟨_,rfl⟩;have J:La w W:=I.trans (by rw[hW];exact(AN V 1).mono I.size);have hS:=HH.out.keep (Y:=λ_=>False) (.of_same J) λ_ _ _ h=>h;have hB:=aq.out.below J;have c3:V.cell? ⟨B,3,O⟩=E (T (E ⟨D,0,O⟩) LO LO):=by have:=(HH.out.keep (Y:=λ_=>False) (.of_same I) λ_ _ _ h=>h).box;have hl:=ai.out;simp[cell?,this,hl]
 have cD:W.cell? ⟨D,k,O⟩=E (T a m cc):=by have N:=HM.out;have C:=HV.out;rw[N]at C;simp[cell?,hS.data];exact C
 obtain⟨r1,r2⟩:=hS.rows k _ H HV.out HX.out;obtain⟨ak,hi,ac,ab,aa⟩:=Vh Gs;have Z:=r1.1;have N:=HM.out;rw[N]at Z;obtain⟨v1,W1,hr,a6,a7,A⟩:=Gu (P:=ZP) W 0 32 32 5 ak (.int .u8 0) 1 1 underlying32 hi ac ab aa rfl (by decide) (.slice a m cc) m (H.map (Value.int .u8)) Z b n c (bs.map (Value.int .u8)) (Jz hB.1) (λu hu=>by obtain⟨x,_,rfl⟩:=Be.1 hu;rfl) (by unfold maxLen;omega) om (AR _);obtain⟨a2,c2,al,_,_⟩:=SlK.own a6;subst al;have a1:=HV.out;rw[N]at a1;obtain⟨q1,q2,q3,u,q4⟩:=hS.setD (v:=.slice a m cc) (v':=.slice a2 (m+n) c2) (xs':=H++bs) (V:=W1) k a1 (by rw[List.length_append,N,hB.1.1,Aj];exact a6) ((Chg.refl _ _).grown a7 λg e _=>e) (λg e=>by
  rcases A with e2|e2
  ·rw[e2]at e;exact .inl e
  ·rw[e2]at e;exact .inr (Gq (AK e)))
 obtain⟨l1,l2,l3⟩:=hS.labs;have ag:=(AD.1 hS.box).1;have s1:W1.cell? ⟨B,3,O⟩=E (T (E ⟨D,0,O⟩) LO LO):=by
  have e:W1.heap[B]?=W.heap[B]?:=a7.block B ag λe=>by have:=r2 B (by rw[N];exact e.symm);omega
  have hl:=ai.out;simp[cell?,e,hS.box,hl]
 have s2:(W1.setCell ⟨D,k,O⟩ (T a2 (m+n) c2)).cell? ⟨B,3,O⟩=E (T (E ⟨D,0,O⟩) LO LO):=by have e:(W1.setCell ⟨D,k,O⟩ (T a2 (m+n) c2)).heap[B]?=W1.heap[B]?:=AQ W1 ⟨D,k,O⟩ _ B (λe=>by have e:B=D:=e;rw[e,l3]at l1;omega);rw[BC (a:=⟨B,3,O⟩) e];exact s1
 have HR:=AA hr;have j:=AA (Va s1 s2);have Q1:=AA q1;have Q2:=AA ((Chg.of_same J).then q2);have ap:=AA J.size;clear hS hB r1 r2 hi ac ab aa Z N hr a6 a7 A a1 q1 q2 l1 l2 l3 ag s1 s2 J I;refine Ve ?_;refine Vd (S:=λY=>Y.cell? ⟨B,3,O⟩=E (T (E ⟨D,0,O⟩) LO LO)) kr c3 (λhHeld=>?_);rw[<-hW]at hHeld⊢;clear hW;refine tkA 0 ?_;refine tkA 1 ?_;refine tkA 2 ?_;refine tkW 3 (v:=?_) ?_ ?_;rotate_left
 ·intro V hV;have q0:V.cell? ⟨B,3,O⟩=E (T (E ⟨D,0,O⟩) LO LO):=hV
  first|(go_simp;done)|(go_simp;with_reducible rfl)
 try simp only[pq]
 refine tkA 4 ?_;refine tkA 5 ?_;refine tkA 6 ?_;refine tkA 7 ?_;refine tkW 8 (v:=?_) ?_ ?_;rotate_left
 ·intro V hV;have q0:V.cell? ⟨B,3,O⟩=E (T (E ⟨D,0,O⟩) LO LO):=hV
  first|(go_simp;done)|(go_simp;with_reducible rfl)
 try simp only[pq]
 refine tkA 9 ?_;refine tkA 10 ?_;refine tkA 12 ?_;refine rdy 11 (λKB s=>?_);go_simp;refine s.out _ _ hHeld (λh11=>?_);clear s KB
 try simp only[pq]
 refine rdy 13 (λKB s=>?_);refine GU (.tmp 40) (.tmp 41) 32 rfl _ _ rfl rfl rfl HR.out ?_;refine s.out _ _ j.out.1 (λaw=>?_);clear s KB
 try simp only[pq]
 refine tkA 14 ?_;refine rdy 15 (λKB s=>?_);go_simp;refine s.out _ _ j.out.2 (λav=>?_);clear s KB
 try simp only[pq]
 refine Vg kr ?_ _;refine At ?_;go_wp2;go_ret;exact⟨rfl,Q2.out,_,_,_,Q1.out.wide λi _ hx=>hx.elim .inl λh=>.inr (AS ap.out h)⟩
theorem afq{X:Nat->Prop}{B U D size:Nat}{fr:List Int}{us:List Bool}{ds:Lb}(k:Nat)(Z:List Int)(w:Wa)(h:DM X B U D size fr us ds w)(hk:us[k]?=E G)(hx:ds[k]?=E Z)(hl:lc Z<=1000000) :Calls ZP 195 #[L (E ⟨B,0,O⟩),R K (k:Int)] w λe w'=>∃v,e=ra v/\Ch w' w.heap.size v (lc Z) Z/\La w w':=by
 obtain⟨a2,fv,dv,h⟩:=h;have I:=(AP.1 hk).1;obtain⟨v,hv⟩:∃v,dv[k]?=E v:=⟨_,Ar (by rw[h.dl.1];exact I)⟩;obtain⟨LO,hL⟩:∃LO,lc us=LO:=⟨_,rfl⟩;have A:=aaR (k:Int) w h;rw[aj4 hk]at A;have A:=AA A;have HH:=AA h;have HV:=AA hv;have HX:=AA hx;have j:=AA hL;have HL:=AA hl;have i0:(0:Int)<=(k:Int):=by omega
 have i1:(k:Int)<(LO:Int):=by omega
 clear h hk hx hv hL I hl;go_enter func195,ntmps195;go_upto_region 3 with(go_at_call 233;refine A.out.mono ?_;rintro e s ⟨rfl,V⟩)
 have C:=HH.out.keep (Y:=λ_=>False) (.of_same V) λ_ _ _ h=>h;obtain⟨r1,r2⟩:=C.rows k v Z HV.out HX.out;obtain⟨a,cc,rfl,_,hs⟩:=SlK.own r1.1;have J:=j.out;have c3:s.cell? ⟨B,3,O⟩=E (T (E ⟨D,0,O⟩) LO LO):=by simp[cell?,C.box,J]
 have cD:s.cell? ⟨D,k,O⟩=E (T a (lc Z) cc):=by simp[cell?,C.data];exact HV.out
 have HC:=AA (ahT a (lc Z) cc (Z.map (Value.int .u8)) s hs (λu hu=>by obtain⟨x,_,rfl⟩:=Be.1 hu;rfl) HL.out);have N:=AA V;clear C r1 r2 hs J V
 go_wp2_with fail
 refine HC.out.mono ?_;rintro e w2 ⟨v2,rfl,ho,H⟩;have HO:=AA ho;have a1:=AA H;clear ho H;go_wp2;go_ret;exact⟨_,rfl,NC HO.out N.out.size,N.out.trans (a1.out.mono N.out.size)⟩
def Oz(o:Nat->Nat)(k:Nat):Prop:=o k≠0/\o k≠1000000
structure PB(o o':Nat->Nat)(w w':World):Prop where
 c:Chg (Oz o) w w'
 f:∀k,k<w.heap.size->o k=1000000->o' k=1000000
theorem PB.trans{o Z V:Nat->Nat}{w X Y:Wa}(h:PB o Z w X)(N:∀k,o k=0->Z k=0)(g:PB Z V X Y):PB o V w Y:=⟨h.c.trans g.c λi J U=>⟨λe=>U.1 (N i e),λe=>U.2 (h.f i J e)⟩,λk hk e=>g.f k (Af hk h.c.size) (h.f k hk e)⟩
theorem PB.same{o X:Nat->Nat}{w Z Y:Wa}(h:PB o X w Z)(V:La Z Y):PB o X w Y:=⟨h.c.same V,h.f⟩
def AE(A:PAd)(c:CfM)(o:Nat->Nat)(s':PlM)(w w':Wa):Prop:=∃o',AI A c o' s' w'/\(∀k,o k=0->o' k=0)/\PB o o' w w'
section
variable {A:PAd}{c:CfM}{s s' s'':PlM}{o:Nat->Nat}{w w' w'':Wa}
theorem AI.upG(h:AI A c o s w)(t:Nat)(U:t≠0)(Y:t<1000)(N:Chg (λk=>o k=t) w w')(I:Ai A c s' (λk=>o k=t∨w.heap.size<=k) (λk=>o k=0) w' t)
  (J:∀u X Z V,u≠t->Ai A c s X Z V u->Ai A c s' X Z V u):AE A c o s' w w':=by
 refine⟨_,h.upd t U Y N I J,λk hk=>?_,N.mono λk _ e=>⟨by rw[e];exact U,by rw[e];omega⟩,λk hk e=>(FV hk).trans e⟩
 by_cases H:k<w.heap.size
 ·rw[FV H];exact hk
 ·have:=h.out k om;omega
theorem AI.gr(h:AI A c o s w)(Z:La w w'):AE A c o s w w':=by
 refine⟨_,h.grow 0 om Z,λk hk=>?_,.of_same Z,λk hk e=>(FV hk).trans e⟩
 by_cases Y:k<w.heap.size
 ·rw[FV Y];exact hk
 ·have:=h.out k om;omega
theorem AI.g(h:AI A c o s w):AE A c o s w w:=⟨o,h,λ_ h=>h,.refl _ _,λ_ _ h=>h⟩
theorem AE.then(h:AE A c o s w w')(k:∀o',AI A c o' s w'->(∀k,o k=0->o' k=0)->AE A c o' s' w' w''):AE A c o s' w w'':=by obtain⟨Y,h1,h2,h3⟩:=h;obtain⟨Z,U,V,X⟩:=k Y h1 h2;exact⟨Z,U,λk hk=>V k (h2 k hk),h3.trans h2 X⟩
theorem AE.of_same(Z:Chg (Oz o) w w')(h:AI A c o s' w'):AE A c o s' w w':=⟨o,h,λ_ h=>h,Z,λ_ _ h=>h⟩
theorem AI.chgR(h:AI A c o s w)(i:Nat)(v:Vk):Chg (Oz o) w (w.setCell ⟨A.R,i,O⟩ v):=by obtain⟨Z,h1,h2,_⟩:=h.part 8 om;exact(Chg.refl _ w).set (by have h2:o A.R=8:=h2;unfold Oz;rw[h2];decide)
theorem AI.chgP(h:AI A c o s w)(i:Nat)(v:Vk):Chg (Oz o) w (w.setCell ⟨A.P,i,O⟩ v):=by obtain⟨Z,h1,h2,_⟩:=h.part 1 om;exact(Chg.refl _ w).set (by have h2:o A.P=1:=h2;unfold Oz;rw[h2];decide)
theorem AI.chgM(h:AI A c o s w)(i:Nat)(v:Vk):Chg (Oz o) w (w.setCell ⟨A.M,i,O⟩ v):=by obtain⟨a,m,Z,h1,h2,_⟩:=h.part 9 om;exact(Chg.refl _ w).set (by have h2:o A.M=9:=h2;unfold Oz;rw[h2];decide)
theorem AI.chgE(h:AI A c o s w)(i:Nat)(v:Vk):Chg (Oz o) w (w.setCell ⟨A.E,i,O⟩ v):=by obtain⟨h1,h2⟩:=h.part 10 om;exact(Chg.refl _ w).set (by have h2:o A.E=10:=h2;unfold Oz;rw[h2];decide)
theorem AI.cP(h:AI A c o s w):∃Z,w.heap[A.P]?=E (i7 (EK A c s Z) 109 (0,0)):=let⟨Z,h1,_⟩:=h.part 1 om;⟨Z,h1⟩
theorem AI.cR(h:AI A c o s w):∃Z,w.heap[A.R]?=E (i7 (rdV A s.rd Z) 245 (0,0))/\Cv (λk=>o k=8) w Z s.rd.tail:=let⟨Z,h1,_,h3,_⟩:=h.part 8 om;⟨Z,h1,h3⟩
theorem aoc(h:AI A c o s w)(n:Nat)(Z:lc s.fr<=100000):Calls ZP 236 #[L (E ⟨A.Bb,0,O⟩),R K (n:Int)] w λe w'=>(∃v,e=ra v)/\AE A c o (Bv s n) w w':=by
 have h4:Ik A c s (λk=>o k=4) w:=h.part 4 om;refine(ag3 (n:Int) w h4 (by simpa using Z)).mono ?_;rintro e w' ⟨rfl,Y,X⟩;refine⟨⟨_,rfl⟩,h.upG 4 om om Y ?_ (Ai.congr 4)⟩;show DM _ _ _ _ _ ((Bv s n).fr.map λx:Nat=>(x:Int)) (Bv s n).us (Bv s n).ds _;have V:((Bv s n).fr.map λx:Nat=>(x:Int))=if Cr s.us n then(s.fr.map λx:Nat=>(x:Int))++[(n:Int)] else s.fr.map λx:Nat=>(x:Int):=by
  unfold Bv;dsimp only
  split<;>simp
 rw[V];exact X
theorem apd(h:AI A c o s w)(n:Nat)(l:List Nat)(N:s.fr=l++[n])(U:lc s.fr<=100000)(V:∀x∈s.fr,x<lc s.us) :Calls ZP 190 #[L (E ⟨A.Bb,0,O⟩)] w λe w'=>e=ra (ta #[R K (n:Int),i6 G])/\AE A c o {s with fr:=l,us:=s.us.set n G,ds:=s.ds.set n []} w w':=by
 have h4:Ik A c s (λk=>o k=4) w:=h.part 4 om;refine(afw w h4 (by simpa using AS U om) (λx X=>?_)).mono ?_
 ·obtain⟨y,Y,rfl⟩:=Be.1 X;have:=V y Y;omega
 ·rintro e w' ⟨rfl,J,Z⟩;have I:(s.fr.map λx:Nat=>(x:Int))=(l.map λx:Nat=>(x:Int))++[(n:Int)]:=by rw[N];simp
  rw[I]at Z⊢;have e2:((l.map λx:Nat=>(x:Int))++[(n:Int)]).getLast?.getD 0=(n:Int):=by simp
  rw[e2]at Z⊢;rw[Lc sm,LJ,Aa]at Z;refine⟨by simp,h.upG 4 om om J ?_ (Ai.congr 4)⟩;exact Z
theorem aod(h:AI A c o s w)(k n V:Nat)(b:Option Addr)(bs Y:List Int)(hB:Bys w b n bs)(hk:s.us[k]?=E G)(U:s.ds[k]?=E Y)(Z:lc Y+n<=c.K+c.wm)(X:c.K+c.wm<=100000) :Calls ZP 191 #[L (E ⟨A.Bb,0,O⟩),R K (k:Int),T b n V] w λe w'=>e=ra (i6 G)/\AE A c o {s with ds:=s.ds.set k (Y++bs)} w w':=by have h4:Ik A c s (λk=>o k=4) w:=h.part 4 om;refine(ahc k n V b bs Y w h4 hB hk U Z X).mono ?_;rintro e w' ⟨rfl,N,J⟩;exact⟨rfl,h.upG 4 om om N J (Ai.congr 4)⟩
theorem ap4(h:AI A c o s w)(k:Nat)(Z:List Int)(hk:s.us[k]?=E G)(Y:s.ds[k]?=E Z)(X:lc Z<=1000000) :Calls ZP 195 #[L (E ⟨A.Bb,0,O⟩),R K (k:Int)] w λe w'=>∃v,e=ra v/\Ch w' w.heap.size v (lc Z) Z/\La w w':=afq k Z w (show Ik A c s (λk=>o k=4) w from h.part 4 om) hk Y X
theorem apu(h:AI A c o s w)(n:Nat)(Y:n<=1000000000)(Z:s.next<=1000000000) :Calls ZP 189 #[L (E ⟨A.G,0,O⟩),R K (n:Int)] w λe w'=>e=ra (i6 (Du s.next c.R n))/\La w w':=by
 obtain⟨X,h1,h2,_⟩:Gl A c s (λk=>o k=6) (λk=>o k=0) w:=h.part 6 om;have:=aaC n w h1 Y Z
 rwa[h2]at this
end
theorem abY{X:Nat->Prop}{Q B next:Nat}{I:List PlW}(q:Option Addr×Nat×Nat)(Z:Bool)(w:Wa)(h:BZ X Q B next I w)(hx:next<=1000000000)(hp:I[next % lc I]?=E (q,Z)) :Calls ZP 203 #[L (E ⟨Q,0,O⟩)] w λe w'=>e=ra (ta #[if Z then T q.1 q.2.1 q.2.2 else T O 0 0,i6 Z])/\BZ X Q B (if Z then next+1 else next) (if Z then I.set (next % lc I) ((O,0,0),M) else I) w'/\Chg X w w':=by
 have hT:∀V,La w V->BZ X Q B next I V/\Calls ZP 170 #[L (E ⟨Q,0,O⟩),R K (next:Int)] V λe w'=>e=ra (L (E ⟨B,next % lc I*2,O⟩))/\La V w':=λV hV=>by have:=h.keep (Y:=λ_=>False) (.of_same hV) λ_ _ _ h=>h;exact⟨this,abP next V this om⟩
 have J:∀d os,Calls ZP 170 #[L (E ⟨Q,0,O⟩),R K (next:Int)] (grow (redrawn w d) os) λe w'=>e=ra (L (E ⟨B,next % lc I*2,O⟩))/\RowKit.Below (grow (redrawn w d) os).heap.size (grow (redrawn w d) os) w':=λd os=>(hT _ (Vc w d os)).2;have hr:∀d os,Calls ZP 231 #[L (E ⟨Q,0,O⟩)] (grow (redrawn w d) os) λe w'=>e=ra (R K (lc I:Int))/\RowKit.Below (grow (redrawn w d) os).heap.size (grow (redrawn w d) os) w':=λd os=>(abJ _ (hT _ (Vc w d os)).1).mono λe w' ⟨h1,h2⟩=>⟨h1,by rw[h2];exact AH _ _⟩;have k1:∀d os,(grow (redrawn w d) os).cell? ⟨Q,1,O⟩=E (R K (next:Int)):=Vf (by simp[cell?,h.box]);have kp:∀d os,(grow (redrawn w d) os).cell? ⟨B,next % lc I*2+1,O⟩=E (i6 Z):=Vf (by have:=(Hz hp).2;simp[cell?,h.places];exact this);obtain⟨r1,r2⟩:=h.room;have e0:decide ((lc I:Int)=0)=M:=by simp;intro e;rw[e]at r1;simp at r1
 have e1:((lc I:Int)==0)=M:=by simp;intro e;rw[e]at r1;simp at r1
 obtain⟨LO,hL⟩:∃LO,lc I=LO:=⟨_,rfl⟩;obtain⟨p,a7⟩:∃p,next % LO=p:=⟨_,rfl⟩;rw[hL]at r1 r2 e0 e1 hr J kp hT hp⊢;rw[a7]at J kp hT hp⊢;have HT:=AA hT;have HP:=AA hp;have HH:=AA h;have e2:decide (LO=0)=M:=by simp;omega
 clear hT h hp a7 hL
 cases Z with
 |false=>
  go_enter func203,ntmps203;go_upto_region 1 with fail
  refine wp_region_quiet_below mixed kr ?_
  repeat (go_big_quiet_step (first|with_reducible exact Eu (hr _ _)|with_reducible exact Eu (J _ _)))
  refine wpQuiet_nil ?_;rintro _ ⟨⟨dq,C⟩,rfl⟩;have N:=Vc w dq C;have HB:=AA N;clear N;go_wp2;go_ret2;exact⟨rfl,(HT.out _ HB.out).1,.of_same HB.out⟩
 |true=>
  go_enter func203,ntmps203;go_upto_region 1 with fail
  refine wp_region_quiet_below mixed kr ?_
  repeat (go_big_quiet_step (first|with_reducible exact Eu (hr _ _)|with_reducible exact Eu (J _ _)))
  refine wpQuiet_nil ?_;rintro _ ⟨⟨dq,C⟩,rfl⟩;have N:=Vc w dq C;obtain⟨V,hV⟩:∃V,V=grow (redrawn w dq) C:=⟨_,rfl⟩;rw[<-hV]at N⊢;clear hV hr J k1 kp;have J:∀d os,Calls ZP 170 #[L (E ⟨Q,0,O⟩),R K (next:Int)] (grow (redrawn V d) os) λe w'=>e=ra (L (E ⟨B,p*2,O⟩))/\RowKit.Below (grow (redrawn V d) os).heap.size (grow (redrawn V d) os) w':=λd os=>(HT.out _ (N.trans ((Vc V d os).mono N.size))).2;have a6:=(HT.out V N).1;have k1:∀d os,(grow (redrawn V d) os).cell? ⟨Q,1,O⟩=E (R K (next:Int)):=Vf (by simp[cell?,a6.box]);have kp:∀d os,(grow (redrawn V d) os).cell? ⟨B,p*2,O⟩=E (T q.1 q.2.1 q.2.2):=Vf (by have:=(Hz HP.out).1;simp[cell?,a6.places];exact this);have ac:=AA N;clear a6 N;go_upto_region 3 with fail
  refine wp_region_quiet_below mixed kr ?_
  repeat (go_big_quiet_step (exact Eu (J _ _)))
  refine wpQuiet_nil ?_;rintro _ ⟨⟨ab,j⟩,rfl⟩;have H:=ac.out.trans ((Vc V ab j).mono ac.out.size);obtain⟨U,hU⟩:∃U,U=grow (redrawn V ab) j:=⟨_,rfl⟩;rw[<-hU]at H⊢;clear hU J k1 kp;have a8:=(HT.out U H).1;have c1:U.cell? ⟨Q,1,O⟩=E (R K (next:Int)):=by simp[cell?,a8.box]
  obtain⟨D,hD⟩:∃D,D=U.drew:=⟨_,rfl⟩;have a1:La w D:=H.trans (by rw[hD];exact(AN U 1).mono H.size);have s:=AA a1;have ag:=AA (HT.out D a1).2;clear a8 H a1;go_upto_region 4 with fail
  refine Ve ?_;refine Vd (S:=λY=>Y.cell? ⟨Q,1,O⟩=E (R K (next:Int))) kr c1 (λhHeld=>?_);rw[<-hD]at hHeld⊢;clear hD c1;refine tkA 0 ?_;refine tkA 1 ?_;refine tkA 2 ?_;refine tkA 3 ?_;refine tkA 4 ?_;refine tkA 5 ?_;refine tkW 6 (v:=?_) ?_ ?_;rotate_left
  ·intro V hV;have q0:V.cell? ⟨Q,1,O⟩=E (R K (next:Int)):=hV
   first|(go_simp;done)|(go_simp;with_reducible rfl)
  try simp only[pq]
  refine tkA 8 ?_;refine rdy 7 (λKB hK=>?_);go_simp
  go_at_call 170;refine(ag.out).mono ?_;rintro e w5 ⟨rfl,a2⟩
  refine hK.out _ _ ((by have:=(HT.out w5 (s.out.trans (a2.mono s.out.size))).1.box;simp[cell?,this])) (λae=>?_);clear hK KB
  try simp only[pq]
  have hb:=s.out.trans (a2.mono s.out.size);have h5:=(HT.out w5 hb).1;have y0:w5.cell? ⟨B,p*2,O⟩=E (T q.1 q.2.1 q.2.2):=by have:=(Hz HP.out).1;simp[cell?,h5.places];exact this
  have y1:w5.cell? ⟨B,p*2+1,O⟩=E (i6 G):=by have:=(Hz HP.out).2;simp[cell?,h5.places];exact this
  have f0:∀i,w5.frozen? ⟨B,i,O⟩=M:=λi=>by simp[frozen?,h5.places]
  have f1:=f0 (p*2);have f2:=f0 (p*2+1);obtain⟨g1,g2⟩:=h5.setP p ((O,0,0),M);have aa:(((w5.setCell ⟨B,p*2,O⟩ (T O 0 0)).setCell ⟨B,p*2+1,O⟩ (i6 M))).cell? ⟨Q,1,O⟩=E (R K (next:Int)):=by have:=g1.box;simp[cell?,this]
  have G1:=AA g1;have G2:=AA ((Chg.of_same (X:=X) hb).then g2);have af:=AA aa;clear hb a2 h5 g1 g2 f0 aa;refine tkA 9 ?_;refine rdy 10 (λKB hK=>?_);go_simp;refine hK.out _ _ af.out (λh10=>?_);clear hK KB
  try simp only[pq]
  refine Vg kr ?_ _;refine At ?_;obtain⟨W6,A⟩:∃W,W=(w5.setCell ⟨B,p*2,O⟩ (T O 0 0)).setCell ⟨B,p*2+1,O⟩ (i6 M):=⟨_,rfl⟩;have g1:BZ X Q B next (I.set p ((O,0,0),M)) W6:=by rw[A];exact G1.out
  have g2:Chg X w W6:=by rw[A];exact G2.out
  have c1:W6.cell? ⟨Q,1,O⟩=E (R K (next:Int)):=by simp[cell?,g1.box]
  have f1:W6.frozen? ⟨Q,1,O⟩=M:=by simp[frozen?,g1.box]
  have ew:IntKind.i64.wrap ((next:Int)+1)=(next:Int)+1:=by rw[BK];omega
  obtain⟨s1,s2⟩:=g1.step (next+1);have S1:=AA s1;have S2:=AA (g2.then s2);rw[<-A];clear A g1 g2 s1 s2 y0 y1 h10 ae hHeld;go_wp2;go_ret2;exact⟨rfl,S1.out,S2.out⟩
theorem adf{fn:Func}{p:Tmp}{tmps:Array Vk}{W:Wa}{B:Nat}(h:fn.results=#[.cell p 116])(X:tmps.getD p undef=L (E ⟨B,0,O⟩)){r0 Z:Vk}(hB:W.heap[B]?=E (i7 #[r0,Z] 116 (0,0))) :(results fn tmps).run ZP W=.ok (i8 #[r0,Z]) W:=by
 have V:(loadVar 116 ⟨B,0,O⟩).run ZP W=.ok (i8 #[r0,Z]) W:=run_loadVar_row W B 116 116 #[r0,Z] (0,0) _ hB underlying116 rfl kr;have Y:tmps[p]?.getD undef=.pointer (E ⟨B,0,O⟩):=by simpa using X
 simp[results,h,Y,asAddr];rw[V]
theorem ad8{fn:Func}{p u:Tmp}{tmps:Array Vk}{W:Wa}{B:Nat}(h:fn.results=#[.cell p 116,.tmp u])(X:tmps.getD p undef=L (E ⟨B,0,O⟩)){r0 Z:Vk}(hB:W.heap[B]?=E (i7 #[r0,Z] 116 (0,0))) :(results fn tmps).run ZP W=.ok (ta #[i8 #[r0,Z],tmps.getD u undef]) W:=by
 have V:(loadVar 116 ⟨B,0,O⟩).run ZP W=.ok (i8 #[r0,Z]) W:=run_loadVar_row W B 116 116 #[r0,Z] (0,0) _ hB underlying116 rfl kr;have Y:tmps[p]?.getD undef=.pointer (E ⟨B,0,O⟩):=by simpa using X
 simp[results,h,Y,asAddr];rw[V];simp[Result.andThen]
theorem alK{X:Nat->Prop}{Q B first many:Nat}{closed:Bool}{D:List AF}(p:AF)(w:Wa)(h:AY X Q B first many closed D w)(hm:0<many)(hp:D[first]?=E p) :Calls ZP 251 #[L (E ⟨Q,0,O⟩)] w λe w'=>e=ra (i8 #[R K p.1,R K p.2])/\AY X Q B ((first+1) % lc D) (many-1) closed (D.set first (0,0)) w'/\Chg X w w':=by
 obtain⟨W,hW⟩:∃W,W=(w.alloc (i7 #[R K 0,R K 0] 116)).alloc (i7 #[R K 0,R K 0] 116):=⟨_,rfl⟩;have hB:La w W:=by rw[hW];exact(AL _ _).alloc sm _
 have a8:W.heap.size=w.heap.size+1+1:=by rw[hW];simp
 have hO:Bx w.heap.size [i7 #[R K 0,R K 0] 116,i7 #[R K 0,R K 0] 116] W:=by rw[hW];exact((Bx.nil _ w).snoc _ rfl).snoc _ sm
 have hS:=h.below hB;have c0:W.cell? ⟨Q,0,O⟩=E (T (E ⟨B,0,O⟩) (lc D) (lc D)):=by simp[cell?,hS.box]
 have c1:W.cell? ⟨Q,1,O⟩=E (R K (first:Int)):=by simp[cell?,hS.box]
 obtain⟨r1,r2,r3,r4⟩:=h.room;obtain⟨LO,hL⟩:∃LO,lc D=LO:=⟨_,rfl⟩;rw[hL]at c0;have i0:(0:Int)<=(first:Int):=by omega
 have i1:(first:Int)<(LO:Int):=by omega
 obtain⟨y0,y1⟩:=NO hp;have d0:W.cell? ⟨B,first*2,O⟩=E (R K p.1):=by simp[cell?,hS.places];exact y0
 have d1:W.cell? ⟨B,first*2+1,O⟩=E (R K p.2):=by simp[cell?,hS.places];exact y1
 have j:=hS.below (AL W (i7 #[R K 0,R K 0] 116));have C:(W.alloc (i7 #[R K 0,R K 0] 116)).heap[W.heap.size]?=E (i7 #[R K 0,R K 0] 116 (0,0)):=AT _ _;have a0:(W.alloc (i7 #[R K 0,R K 0] 116)).cell? ⟨Q,0,O⟩=E (T (E ⟨B,0,O⟩) LO LO):=by simp[cell?,j.box,hL]
 have a1:(W.alloc (i7 #[R K 0,R K 0] 116)).cell? ⟨Q,1,O⟩=E (R K (first:Int)):=by simp[cell?,j.box]
 have b0:(W.alloc (i7 #[R K 0,R K 0] 116)).cell? ⟨B,first*2,O⟩=E (R K p.1):=by simp[cell?,j.places];exact y0
 have n0:(W.alloc (i7 #[R K 0,R K 0] 116)).cell? ⟨W.heap.size,0,O⟩=E (R K 0):=by simp only[cell?,C];simp
 have g0:(W.alloc (i7 #[R K 0,R K 0] 116)).frozen? ⟨W.heap.size,0,O⟩=M:=by simp only[frozen?,C];simp
 have b1:(W.alloc (i7 #[R K 0,R K 0] 116)).cell? ⟨B,first*2+1,O⟩=E (R K p.2):=by simp[cell?,j.places];exact y1
 have n1:(W.alloc (i7 #[R K 0,R K 0] 116)).cell? ⟨W.heap.size,1,O⟩=E (R K 0):=by simp only[cell?,C];simp
 have g1:(W.alloc (i7 #[R K 0,R K 0] 116)).frozen? ⟨W.heap.size,1,O⟩=M:=by simp only[frozen?,C];simp
 have HO:=AA hO;have HS:=AA hS;go_enter func251,ntmps251;go_upto_region 2 with fail
 rw[<-hW];clear hW
 go_region
 obtain⟨Z,a6⟩:∃U,U=(W.alloc (i7 #[R K p.1,R K p.2] 116)).drew:=⟨_,rfl⟩;rw[<-a6];have a2:La W Z:=by rw[a6];exact(AL _ _).trans ((AN _ 1).mono sm)
 have ak:Z.heap[w.heap.size+1+1]?=E (i7 #[R K p.1,R K p.2] 116 (0,0)):=by rw[a6,<-a8];exact AT _ _
 have Y:=HS.out.below a2;have ai:=HO.out.below a2;have av:=AA (hB.trans (a2.mono hB.size));have ao:=AA ak;clear a6 a2 hS j C a0 a1 b0 n0 g0 d0 b1 n1 g1 d1 c0 c1 hO hB;have al:Z.heap[w.heap.size]?=E (i7 #[R K 0,R K 0] 116 (0,0)):=by have:=ai 0 _ rfl;rwa[DQ]at this
 have aa:Z.heap[w.heap.size+1]?=E (i7 #[R K 0,R K 0] 116 (0,0)):=ai 1 _ rfl;have ap:=AA al;have c0:Z.cell? ⟨Q,0,O⟩=E (T (E ⟨B,0,O⟩) LO LO):=by simp[cell?,Y.box,hL]
 have c1:Z.cell? ⟨Q,1,O⟩=E (R K (first:Int)):=by simp[cell?,Y.box]
 have o0:Z.cell? ⟨B,first*2,O⟩=E (R K p.1):=by simp[cell?,Y.places];exact y0
 have z0:Z.cell? ⟨w.heap.size+1,0,O⟩=E (R K 0):=by simp[cell?,aa]
 have v0:Z.frozen? ⟨B,first*2,O⟩=M:=by simp[frozen?,Y.places]
 have o1:Z.cell? ⟨B,first*2+1,O⟩=E (R K p.2):=by simp[cell?,Y.places];exact y1
 have z1:Z.cell? ⟨w.heap.size+1,1,O⟩=E (R K 0):=by simp[cell?,aa]
 have v1:Z.frozen? ⟨B,first*2+1,O⟩=M:=by simp[frozen?,Y.places]
 have v:AY X Q B first many closed D Z.drew:=Y.below (AN Z 1);obtain⟨g1,g2⟩:=v.setP first (0,0);have g3:Chg (λk=>k=B) Z.drew (AY.putW Z.drew B first (0,0)):=by unfold AY.putW;exact((Chg.refl (λk=>k=B) _).set (show B=B from rfl)).set (show B=B from rfl)
 obtain⟨H,J⟩:∃V,V=(AY.putW Z B first (0,0)).drew:=⟨_,rfl⟩;have g1:AY X Q B first many closed (D.set first (0,0)) H:=by rw[J];exact g1
 have g2:Chg X Z H:=by rw[J];exact(Chg.of_same (AN Z 1)).then g2
 have g3:Chg (λk=>k=B) Z H:=by rw[J];exact(Chg.of_same (AN Z 1)).then g3
 unfold AY.putW at J;have G1:=AA g1;have G2:=AA g2;have G3:=AA g3;clear Y ai al aa ak v g1 g2 g3;go_upto_region 3 with fail
 go_region
 rw[<-J];clear J c0 c1 o0 z0 v0 o1 z1 v1;have c0:H.cell? ⟨Q,0,O⟩=E (T (E ⟨B,0,O⟩) LO LO):=by simp[cell?,G1.out.box,hL]
 have c1:H.cell? ⟨Q,1,O⟩=E (R K (first:Int)):=by simp[cell?,G1.out.box]
 have f1:H.frozen? ⟨Q,1,O⟩=M:=by simp[frozen?,G1.out.box]
 have e1:IntKind.i64.wrap ((first:Int)+1)=((first+1:Nat):Int):=by rw[BK];omega
 have e2:((first+1:Nat):Int).tmod (LO:Int)=(((first+1) % LO:Nat):Int):=by rw[Jq om];simp
 have ab:(first+1) % LO<LO:=Ek _ om;have z0:¬(LO:Int)=0:=by omega
 have z1:¬LO=0:=by omega
 obtain⟨s,hs⟩:∃s,first+1=s:=⟨_,rfl⟩;obtain⟨i,hi⟩:∃i,s % LO=i:=⟨_,rfl⟩;rw[hs]at e1 e2 ab;rw[hi]at e2 ab;obtain⟨W4,A⟩:∃V,V=(H.setCell ⟨Q,1,O⟩ (R K (i:Int))).drew:=⟨_,rfl⟩;have v:AY X Q B first many closed (D.set first (0,0)) H.drew:=G1.out.below (AN H 1);obtain⟨h1,h2⟩:=v.setF i (by rw[BG,hL];exact ab);have h1:AY X Q B i many closed (D.set first (0,0)) W4:=by rw[A];exact h1
 have h2:Chg X H W4:=by rw[A];exact(Chg.of_same (AN H 1)).then h2
 have h3:Chg (λk=>k=Q) H W4:=by rw[A];exact(Chg.of_same (AN H 1)).then ((Chg.refl (λk=>k=Q) _).set (show Q=Q from rfl))
 have ew:IntKind.i64.wrap ((many:Int)-1)=((many-1:Nat):Int):=by rw[BK];omega
 obtain⟨MH,hM⟩:∃MH,many-1=MH:=⟨_,rfl⟩;rw[hM]at ew;obtain⟨q1,q2⟩:=h1.setM MH (by rw[BG];omega);have q3:Chg (λk=>k=Q) W4 (W4.setCell ⟨Q,2,O⟩ (R K (MH:Int))):=(Chg.refl (λk=>k=Q) _).set (show Q=Q from rfl);have m2:W4.cell? ⟨Q,2,O⟩=E (R K (many:Int)):=by simp[cell?,h1.box]
 have n2:W4.frozen? ⟨Q,2,O⟩=M:=by simp[frozen?,h1.box]
 obtain⟨I,af⟩:∃V,V=W4.setCell ⟨Q,2,O⟩ (R K (MH:Int)):=⟨_,rfl⟩;rw[<-af]at q1 q2 q3;have aj:=(AD.1 h.places).1;have ag:=(AD.1 h.box).1;have ac:∀k,w.heap.size<=k->k<Z.heap.size->I.heap[k]?=Z.heap[k]?:=λk hk aq=>
  (q3.block k (by have:=G3.out.size;have:=h3.size;omega) (by show k≠Q;omega)).trans ((h3.block k (by have:=G3.out.size;omega) (by show k≠Q;omega)).trans (G3.out.block k aq (by show k≠B;omega)))
 have a7:I.heap[w.heap.size+1+1]?=_:=(ac _ om (AD.1 ao.out).1).trans ao.out;have N:I.heap[w.heap.size]?=_:=(ac _ om (AD.1 ap.out).1).trans ap.out;have x0:I.cell? ⟨w.heap.size+1+1,0,O⟩=E (R K p.1):=by simp[cell?,a7]
 have t0:I.cell? ⟨w.heap.size,0,O⟩=E (R K 0):=by simp[cell?,N]
 have u0:I.frozen? ⟨w.heap.size,0,O⟩=M:=by simp[frozen?,N]
 have x1:I.cell? ⟨w.heap.size+1+1,1,O⟩=E (R K p.2):=by simp[cell?,a7]
 have t1:I.cell? ⟨w.heap.size,1,O⟩=E (R K 0):=by simp[cell?,N]
 have u1:I.frozen? ⟨w.heap.size,1,O⟩=M:=by simp[frozen?,N]
 have Q1:=AA q1;have Q2:=AA ((Chg.of_same av.out).then (G2.out.then (h2.then q2)));have ax:=AA a8;have ar:=AA N;have HL:=AA (Va hL (Va hs (Va hi hM)));have au:=AA (Va ag aj);clear v h1 h2 h3 q1 q2 q3 ac a7 N aj ag h r1 r2 r3 r4 hp y0 y1 hL hs hi hM a8;go_upto_region 4 with fail
 go_region
 rw[<-A];clear A c0 c1 f1;go_upto_region 6 with fail
 rw[<-af];clear af m2 n2;go_wp2;have ae:Chg (λk=>k=w.heap.size) I ((I.setCell ⟨w.heap.size,0,O⟩ (R K p.1)).setCell ⟨w.heap.size,1,O⟩ (R K p.2)):=((Chg.refl (λk=>k=w.heap.size) I).set (show w.heap.size=w.heap.size from rfl)).set (show w.heap.size=w.heap.size from rfl);have am:((I.setCell ⟨w.heap.size,0,O⟩ (R K p.1)).setCell ⟨w.heap.size,1,O⟩ (R K p.2)).heap[w.heap.size]?=E (i7 #[R K p.1,R K p.2] 116 (0,0)):=by have s1:=AJ (i:=0) ar.out (R K p.1);have s2:=AJ (i:=1) s1 (R K p.2);exact s2
 refine Vi (adf (B:=w.heap.size) rfl rfl am) rfl ?_;obtain⟨ag,aj⟩:=au.out;have aw:=Q2.out.size;obtain⟨l1,l2,l3,l4⟩:=HL.out;refine⟨rfl,?_,?_⟩
 ·rw[l1,l2,l3,l4];exact⟨(ae.block Q om (by show Q≠w.heap.size;omega)).trans Q1.out.box,(ae.block B om (by show B≠w.heap.size;omega)).trans Q1.out.places,Q1.out.inX,Q1.out.ne,Q1.out.room⟩
 ·exact Q2.out.trans ae λk hk e=>absurd e om
theorem aiy{X:Nat->Prop}{Q B first many:Nat}{closed:Bool}{H:List AF}(p:AF)(w:Wa)(h:AY X Q B first many closed H w)(hm:0<many)(hp:H[first]?=E p) :Calls ZP 210 #[L (E ⟨Q,0,O⟩)] w λe w'=>e=ra (ta #[i8 #[R K p.1,R K p.2],i6 G])/\AY X Q B ((first+1) % lc H) (many-1) closed (H.set first (0,0)) w'/\Chg X w w':=by
 obtain⟨W,hW⟩:∃W,W=w.alloc (i7 #[R K 0,R K 0] 116):=⟨_,rfl⟩;have hB:La w W:=by rw[hW];exact AL _ _
 have hx:W.heap[w.heap.size]?=E (i7 #[R K 0,R K 0] 116 (0,0)):=by rw[hW];exact AT _ _
 have N:=(AD.1 h.box).1;have J:=(AD.1 h.places).1;have V:W.heap.size=w.heap.size+1:=by rw[hW];simp
 have D:AY (λk=>k=Q∨k=B) Q B first many closed H W:=⟨(h.below hB).box,(h.below hB).places,⟨.inl rfl,.inr rfl⟩,h.ne,h.room⟩;have HP:=AA (alK p W D hm hp);have c2:W.cell? ⟨Q,2,O⟩=E (R K (many:Int)):=by simp[cell?,D.box]
 have e0:decide ((many:Int)=0)=M:=by simp;omega
 have e1:((many:Int)==0)=M:=by simp;omega
 have e2:decide (many=0)=M:=by simp;omega
 have HX:=AA hx;have HS:=AA (Va N (Va J V));have s:=AA h.inX;have HB:=AA hB;clear h hx hm hp hB D N J V;go_enter func210,ntmps210;go_upto_region 1 with fail
 rw[<-hW];clear hW;go_upto_region 3 with fail
 clear c2
 go_wp2_with fail
 refine HP.out.mono ?_;rintro e Y ⟨rfl,C,A⟩;obtain⟨N,J,V⟩:=HS.out;have Z:Y.heap[w.heap.size]?=E (i7 #[R K 0,R K 0] 116 (0,0)):=(A.block w.heap.size om (by show ¬(w.heap.size=Q∨w.heap.size=B);omega)).trans HX.out;have x0:Y.cell? ⟨w.heap.size,0,O⟩=E (R K 0):=by simp[cell?,Z]
 have u0:Y.frozen? ⟨w.heap.size,0,O⟩=M:=by simp[frozen?,Z]
 have x1:Y.cell? ⟨w.heap.size,1,O⟩=E (R K 0):=by simp[cell?,Z]
 have u1:Y.frozen? ⟨w.heap.size,1,O⟩=M:=by simp[frozen?,Z]
 have U:Chg (λk=>k=w.heap.size) Y ((Y.setCell ⟨w.heap.size,0,O⟩ (R K p.1)).setCell ⟨w.heap.size,1,O⟩ (R K p.2)):=((Chg.refl (λk=>k=w.heap.size) Y).set (show w.heap.size=w.heap.size from rfl)).set (show w.heap.size=w.heap.size from rfl);have I:((Y.setCell ⟨w.heap.size,0,O⟩ (R K p.1)).setCell ⟨w.heap.size,1,O⟩ (R K p.2)).heap[w.heap.size]?=E (i7 #[R K p.1,R K p.2] 116 (0,0)):=by have s1:=AJ (i:=0) Z (R K p.1);have s2:=AJ (i:=1) s1 (R K p.2);exact s2
 have v:=A.size;have hF:AY X Q B ((first+1) % lc H) (many-1) closed (H.set first (0,0)) ((Y.setCell ⟨w.heap.size,0,O⟩ (R K p.1)).setCell ⟨w.heap.size,1,O⟩ (R K p.2)):=⟨(U.block Q om (by show Q≠w.heap.size;omega)).trans C.box,(U.block B om (by show B≠w.heap.size;omega)).trans C.places,s.out,C.ne,C.room⟩;have hC:Chg X w ((Y.setCell ⟨w.heap.size,0,O⟩ (R K p.1)).setCell ⟨w.heap.size,1,O⟩ (R K p.2)):=((Chg.of_same HB.out).then (A.mono λk _ e=>e.elim (λe=>by rw[e];exact s.out.1) λe=>by rw[e];exact s.out.2)).trans U λk hk e=>absurd e om;have j:=AA I;have HF:=AA hF;have HC:=AA hC;clear C A Z U I hF hC N J V v;go_wp2;refine Vi (ad8 (B:=w.heap.size) rfl rfl j.out) rfl ?_;exact⟨rfl,HF.out,HC.out⟩
theorem adp{fn:Func}{p:Tmp}{tmps:Array Vk}{W:Wa}{B:Nat}(h:fn.results=#[.cell p 126])(V:tmps.getD p undef=L (E ⟨B,0,O⟩)){r0 Y Z r3 r4:Vk}(hB:W.heap[B]?=E (i7 #[r0,Y,Z,r3,r4] 126 (0,0))) :(results fn tmps).run ZP W=.ok (i8 #[r0,Y,Z,r3,r4]) W:=by
 have U:(loadVar 126 ⟨B,0,O⟩).run ZP W=.ok (i8 #[r0,Y,Z,r3,r4]) W:=run_loadVar_row W B 126 126 #[r0,Y,Z,r3,r4] (0,0) _ hB underlying126 rfl kr;have X:tmps[p]?.getD undef=.pointer (E ⟨B,0,O⟩):=by simpa using V
 simp[results,h,X,asAddr];rw[U]
theorem aaG{fn:Func}{p u:Tmp}{tmps:Array Vk}{W:Wa}{B:Nat}(h:fn.results=#[.cell p 126,.tmp u])(V:tmps.getD p undef=L (E ⟨B,0,O⟩)){r0 Y Z r3 r4:Vk}(hB:W.heap[B]?=E (i7 #[r0,Y,Z,r3,r4] 126 (0,0))) :(results fn tmps).run ZP W=.ok (ta #[i8 #[r0,Y,Z,r3,r4],tmps.getD u undef]) W:=by
 have U:(loadVar 126 ⟨B,0,O⟩).run ZP W=.ok (i8 #[r0,Y,Z,r3,r4]) W:=run_loadVar_row W B 126 126 #[r0,Y,Z,r3,r4] (0,0) _ hB underlying126 rfl kr;have X:tmps[p]?.getD undef=.pointer (E ⟨B,0,O⟩):=by simpa using V
 simp[results,h,X,asAddr];rw[U];simp[Result.andThen]
theorem ala{X:Nat->Prop}{Q B first many:Nat}{closed:Bool}{j:List PcW}(p:PcW)(w:Wa)(h:Ab X Q B first many closed j w)(hm:0<many)(hp:j[first]?=E p) :Calls ZP 240 #[L (E ⟨Q,0,O⟩)] w λe w'=>e=ra (i8 #[R K p.num,R K p.start,R K p.warm,T p.a p.m p.c,R K p.buf])/\Ab X Q B ((first+1) % lc j) (many-1) closed (j.set first ⟨0,0,0,O,0,0,0⟩) w'/\Chg X w w':=by
 obtain⟨W,hW⟩:∃W,W=(w.alloc (i7 #[R K 0,R K 0,R K 0,T O 0 0,R K 0] 126)).alloc (i7 #[R K 0,R K 0,R K 0,T O 0 0,R K 0] 126):=⟨_,rfl⟩;have hB:La w W:=by rw[hW];exact(AL _ _).alloc sm _
 have aa:W.heap.size=w.heap.size+1+1:=by rw[hW];simp
 have hO:Bx w.heap.size [i7 #[R K 0,R K 0,R K 0,T O 0 0,R K 0] 126,i7 #[R K 0,R K 0,R K 0,T O 0 0,R K 0] 126] W:=by rw[hW];exact((Bx.nil _ w).snoc _ rfl).snoc _ sm
 have hS:=h.below hB;have c0:W.cell? ⟨Q,0,O⟩=E (T (E ⟨B,0,O⟩) (lc j) (lc j)):=by simp[cell?,hS.box]
 have c1:W.cell? ⟨Q,1,O⟩=E (R K (first:Int)):=by simp[cell?,hS.box]
 obtain⟨r1,r2,r3,r4⟩:=h.room;obtain⟨LO,hL⟩:∃LO,lc j=LO:=⟨_,rfl⟩;rw[hL]at c0;have i0:(0:Int)<=(first:Int):=by omega
 have i1:(first:Int)<(LO:Int):=by omega
 obtain⟨y0,y1,y2,y3,y4⟩:=ag4 hp;have d0:W.cell? ⟨B,first*5,O⟩=E (R K p.num):=by simp[cell?,hS.places];exact y0
 have d1:W.cell? ⟨B,first*5+1,O⟩=E (R K p.start):=by simp[cell?,hS.places];exact y1
 have d2:W.cell? ⟨B,first*5+2,O⟩=E (R K p.warm):=by simp[cell?,hS.places];exact y2
 have d3:W.cell? ⟨B,first*5+3,O⟩=E (T p.a p.m p.c):=by simp[cell?,hS.places];exact y3
 have d4:W.cell? ⟨B,first*5+4,O⟩=E (R K p.buf):=by simp[cell?,hS.places];exact y4
 have H:=hS.below (AL W (i7 #[R K 0,R K 0,R K 0,T O 0 0,R K 0] 126));have J:(W.alloc (i7 #[R K 0,R K 0,R K 0,T O 0 0,R K 0] 126)).heap[W.heap.size]?=E (i7 #[R K 0,R K 0,R K 0,T O 0 0,R K 0] 126 (0,0)):=AT _ _;have a0:(W.alloc (i7 #[R K 0,R K 0,R K 0,T O 0 0,R K 0] 126)).cell? ⟨Q,0,O⟩=E (T (E ⟨B,0,O⟩) LO LO):=by simp[cell?,H.box,hL]
 have a1:(W.alloc (i7 #[R K 0,R K 0,R K 0,T O 0 0,R K 0] 126)).cell? ⟨Q,1,O⟩=E (R K (first:Int)):=by simp[cell?,H.box]
 have b0:(W.alloc (i7 #[R K 0,R K 0,R K 0,T O 0 0,R K 0] 126)).cell? ⟨B,first*5,O⟩=E (R K p.num):=by simp[cell?,H.places];exact y0
 have n0:(W.alloc (i7 #[R K 0,R K 0,R K 0,T O 0 0,R K 0] 126)).cell? ⟨W.heap.size,0,O⟩=E (R K 0):=by simp only[cell?,J];simp
 have g0:(W.alloc (i7 #[R K 0,R K 0,R K 0,T O 0 0,R K 0] 126)).frozen? ⟨W.heap.size,0,O⟩=M:=by simp only[frozen?,J];simp
 have b1:(W.alloc (i7 #[R K 0,R K 0,R K 0,T O 0 0,R K 0] 126)).cell? ⟨B,first*5+1,O⟩=E (R K p.start):=by simp[cell?,H.places];exact y1
 have n1:(W.alloc (i7 #[R K 0,R K 0,R K 0,T O 0 0,R K 0] 126)).cell? ⟨W.heap.size,1,O⟩=E (R K 0):=by simp only[cell?,J];simp
 have g1:(W.alloc (i7 #[R K 0,R K 0,R K 0,T O 0 0,R K 0] 126)).frozen? ⟨W.heap.size,1,O⟩=M:=by simp only[frozen?,J];simp
 have b2:(W.alloc (i7 #[R K 0,R K 0,R K 0,T O 0 0,R K 0] 126)).cell? ⟨B,first*5+2,O⟩=E (R K p.warm):=by simp[cell?,H.places];exact y2
 have n2:(W.alloc (i7 #[R K 0,R K 0,R K 0,T O 0 0,R K 0] 126)).cell? ⟨W.heap.size,2,O⟩=E (R K 0):=by simp only[cell?,J];simp
 have g2:(W.alloc (i7 #[R K 0,R K 0,R K 0,T O 0 0,R K 0] 126)).frozen? ⟨W.heap.size,2,O⟩=M:=by simp only[frozen?,J];simp
 have b3:(W.alloc (i7 #[R K 0,R K 0,R K 0,T O 0 0,R K 0] 126)).cell? ⟨B,first*5+3,O⟩=E (T p.a p.m p.c):=by simp[cell?,H.places];exact y3
 have n3:(W.alloc (i7 #[R K 0,R K 0,R K 0,T O 0 0,R K 0] 126)).cell? ⟨W.heap.size,3,O⟩=E (T O 0 0):=by simp only[cell?,J];simp
 have g3:(W.alloc (i7 #[R K 0,R K 0,R K 0,T O 0 0,R K 0] 126)).frozen? ⟨W.heap.size,3,O⟩=M:=by simp only[frozen?,J];simp
 have b4:(W.alloc (i7 #[R K 0,R K 0,R K 0,T O 0 0,R K 0] 126)).cell? ⟨B,first*5+4,O⟩=E (R K p.buf):=by simp[cell?,H.places];exact y4
 have n4:(W.alloc (i7 #[R K 0,R K 0,R K 0,T O 0 0,R K 0] 126)).cell? ⟨W.heap.size,4,O⟩=E (R K 0):=by simp only[cell?,J];simp
 have g4:(W.alloc (i7 #[R K 0,R K 0,R K 0,T O 0 0,R K 0] 126)).frozen? ⟨W.heap.size,4,O⟩=M:=by simp only[frozen?,J];simp
 have HO:=AA hO;have HS:=AA hS;go_enter func240,ntmps240;go_upto_region 2 with fail
 rw[<-hW];clear hW
 go_region
 obtain⟨Z,a8⟩:∃U,U=(W.alloc (i7 #[R K p.num,R K p.start,R K p.warm,T p.a p.m p.c,R K p.buf] 126)).drew:=⟨_,rfl⟩;rw[<-a8];have a7:La W Z:=by rw[a8];exact(AL _ _).trans ((AN _ 1).mono sm)
 have ak:Z.heap[w.heap.size+1+1]?=E (i7 #[R K p.num,R K p.start,R K p.warm,T p.a p.m p.c,R K p.buf] 126 (0,0)):=by rw[a8,<-aa];exact AT _ _
 have Y:=HS.out.below a7;have ai:=HO.out.below a7;have av:=AA (hB.trans (a7.mono hB.size));have ao:=AA ak;clear a8 a7 hS H J a0 a1 b0 n0 g0 d0 b1 n1 g1 d1 b2 n2 g2 d2 b3 n3 g3 d3 b4 n4 g4 d4 c0 c1 hO hB;have al:Z.heap[w.heap.size]?=E (i7 #[R K 0,R K 0,R K 0,T O 0 0,R K 0] 126 (0,0)):=by have:=ai 0 _ rfl;rwa[DQ]at this
 have C:Z.heap[w.heap.size+1]?=E (i7 #[R K 0,R K 0,R K 0,T O 0 0,R K 0] 126 (0,0)):=ai 1 _ rfl;have ap:=AA al;have c0:Z.cell? ⟨Q,0,O⟩=E (T (E ⟨B,0,O⟩) LO LO):=by simp[cell?,Y.box,hL]
 have c1:Z.cell? ⟨Q,1,O⟩=E (R K (first:Int)):=by simp[cell?,Y.box]
 have o0:Z.cell? ⟨B,first*5,O⟩=E (R K p.num):=by simp[cell?,Y.places];exact y0
 have z0:Z.cell? ⟨w.heap.size+1,0,O⟩=E (R K 0):=by simp[cell?,C]
 have v0:Z.frozen? ⟨B,first*5,O⟩=M:=by simp[frozen?,Y.places]
 have o1:Z.cell? ⟨B,first*5+1,O⟩=E (R K p.start):=by simp[cell?,Y.places];exact y1
 have z1:Z.cell? ⟨w.heap.size+1,1,O⟩=E (R K 0):=by simp[cell?,C]
 have v1:Z.frozen? ⟨B,first*5+1,O⟩=M:=by simp[frozen?,Y.places]
 have o2:Z.cell? ⟨B,first*5+2,O⟩=E (R K p.warm):=by simp[cell?,Y.places];exact y2
 have z2:Z.cell? ⟨w.heap.size+1,2,O⟩=E (R K 0):=by simp[cell?,C]
 have v2:Z.frozen? ⟨B,first*5+2,O⟩=M:=by simp[frozen?,Y.places]
 have o3:Z.cell? ⟨B,first*5+3,O⟩=E (T p.a p.m p.c):=by simp[cell?,Y.places];exact y3
 have z3:Z.cell? ⟨w.heap.size+1,3,O⟩=E (T O 0 0):=by simp[cell?,C]
 have v3:Z.frozen? ⟨B,first*5+3,O⟩=M:=by simp[frozen?,Y.places]
 have o4:Z.cell? ⟨B,first*5+4,O⟩=E (R K p.buf):=by simp[cell?,Y.places];exact y4
 have z4:Z.cell? ⟨w.heap.size+1,4,O⟩=E (R K 0):=by simp[cell?,C]
 have v4:Z.frozen? ⟨B,first*5+4,O⟩=M:=by simp[frozen?,Y.places]
 have a6:Ab X Q B first many closed j Z.drew:=Y.below (AN Z 1);obtain⟨g1,g2⟩:=a6.setP first ⟨0,0,0,O,0,0,0⟩;have g3:Chg (λk=>k=B) Z.drew (Ab.putW Z.drew B first ⟨0,0,0,O,0,0,0⟩):=by unfold Ab.putW;exact(((((Chg.refl (λk=>k=B) _).set (show B=B from rfl)).set (show B=B from rfl)).set (show B=B from rfl)).set (show B=B from rfl)).set (show B=B from rfl)
 obtain⟨v,A⟩:∃V,V=(Ab.putW Z B first ⟨0,0,0,O,0,0,0⟩).drew:=⟨_,rfl⟩;have g1:Ab X Q B first many closed (j.set first ⟨0,0,0,O,0,0,0⟩) v:=by rw[A];exact g1
 have g2:Chg X Z v:=by rw[A];exact(Chg.of_same (AN Z 1)).then g2
 have g3:Chg (λk=>k=B) Z v:=by rw[A];exact(Chg.of_same (AN Z 1)).then g3
 unfold Ab.putW at A;have G1:=AA g1;have G2:=AA g2;have G3:=AA g3;clear Y ai al C ak a6 g1 g2 g3;go_upto_region 3 with fail
 go_region
 rw[<-A];clear A c0 c1 o0 z0 v0 o1 z1 v1 o2 z2 v2 o3 z3 v3 o4 z4 v4;have c0:v.cell? ⟨Q,0,O⟩=E (T (E ⟨B,0,O⟩) LO LO):=by simp[cell?,G1.out.box,hL]
 have c1:v.cell? ⟨Q,1,O⟩=E (R K (first:Int)):=by simp[cell?,G1.out.box]
 have f1:v.frozen? ⟨Q,1,O⟩=M:=by simp[frozen?,G1.out.box]
 have e1:IntKind.i64.wrap ((first:Int)+1)=((first+1:Nat):Int):=by rw[BK];omega
 have e2:((first+1:Nat):Int).tmod (LO:Int)=(((first+1) % LO:Nat):Int):=by rw[Jq om];simp
 have ab:(first+1) % LO<LO:=Ek _ om;have z0:¬(LO:Int)=0:=by omega
 have z1:¬LO=0:=by omega
 obtain⟨s,hs⟩:∃s,first+1=s:=⟨_,rfl⟩;obtain⟨i,hi⟩:∃i,s % LO=i:=⟨_,rfl⟩;rw[hs]at e1 e2 ab;rw[hi]at e2 ab;obtain⟨W4,a2⟩:∃V,V=(v.setCell ⟨Q,1,O⟩ (R K (i:Int))).drew:=⟨_,rfl⟩;have a6:Ab X Q B first many closed (j.set first ⟨0,0,0,O,0,0,0⟩) v.drew:=G1.out.below (AN v 1);obtain⟨h1,h2⟩:=a6.setF i (by rw[BG,hL];exact ab);have h1:Ab X Q B i many closed (j.set first ⟨0,0,0,O,0,0,0⟩) W4:=by rw[a2];exact h1
 have h2:Chg X v W4:=by rw[a2];exact(Chg.of_same (AN v 1)).then h2
 have h3:Chg (λk=>k=Q) v W4:=by rw[a2];exact(Chg.of_same (AN v 1)).then ((Chg.refl (λk=>k=Q) _).set (show Q=Q from rfl))
 have ew:IntKind.i64.wrap ((many:Int)-1)=((many-1:Nat):Int):=by rw[BK];omega
 obtain⟨MH,hM⟩:∃MH,many-1=MH:=⟨_,rfl⟩;rw[hM]at ew;obtain⟨q1,q2⟩:=h1.setM MH (by rw[BG];omega);have q3:Chg (λk=>k=Q) W4 (W4.setCell ⟨Q,2,O⟩ (R K (MH:Int))):=(Chg.refl (λk=>k=Q) _).set (show Q=Q from rfl);have m2:W4.cell? ⟨Q,2,O⟩=E (R K (many:Int)):=by simp[cell?,h1.box]
 have n2:W4.frozen? ⟨Q,2,O⟩=M:=by simp[frozen?,h1.box]
 obtain⟨I,af⟩:∃V,V=W4.setCell ⟨Q,2,O⟩ (R K (MH:Int)):=⟨_,rfl⟩;rw[<-af]at q1 q2 q3;have aj:=(AD.1 h.places).1;have ag:=(AD.1 h.box).1;have ac:∀k,w.heap.size<=k->k<Z.heap.size->I.heap[k]?=Z.heap[k]?:=λk hk aq=>
  (q3.block k (by have:=G3.out.size;have:=h3.size;omega) (by show k≠Q;omega)).trans ((h3.block k (by have:=G3.out.size;omega) (by show k≠Q;omega)).trans (G3.out.block k aq (by show k≠B;omega)))
 have D:I.heap[w.heap.size+1+1]?=_:=(ac _ om (AD.1 ao.out).1).trans ao.out;have N:I.heap[w.heap.size]?=_:=(ac _ om (AD.1 ap.out).1).trans ap.out;have x0:I.cell? ⟨w.heap.size+1+1,0,O⟩=E (R K p.num):=by simp[cell?,D]
 have t0:I.cell? ⟨w.heap.size,0,O⟩=E (R K 0):=by simp[cell?,N]
 have u0:I.frozen? ⟨w.heap.size,0,O⟩=M:=by simp[frozen?,N]
 have x1:I.cell? ⟨w.heap.size+1+1,1,O⟩=E (R K p.start):=by simp[cell?,D]
 have t1:I.cell? ⟨w.heap.size,1,O⟩=E (R K 0):=by simp[cell?,N]
 have u1:I.frozen? ⟨w.heap.size,1,O⟩=M:=by simp[frozen?,N]
 have x2:I.cell? ⟨w.heap.size+1+1,2,O⟩=E (R K p.warm):=by simp[cell?,D]
 have t2:I.cell? ⟨w.heap.size,2,O⟩=E (R K 0):=by simp[cell?,N]
 have u2:I.frozen? ⟨w.heap.size,2,O⟩=M:=by simp[frozen?,N]
 have x3:I.cell? ⟨w.heap.size+1+1,3,O⟩=E (T p.a p.m p.c):=by simp[cell?,D]
 have t3:I.cell? ⟨w.heap.size,3,O⟩=E (T O 0 0):=by simp[cell?,N]
 have u3:I.frozen? ⟨w.heap.size,3,O⟩=M:=by simp[frozen?,N]
 have x4:I.cell? ⟨w.heap.size+1+1,4,O⟩=E (R K p.buf):=by simp[cell?,D]
 have t4:I.cell? ⟨w.heap.size,4,O⟩=E (R K 0):=by simp[cell?,N]
 have u4:I.frozen? ⟨w.heap.size,4,O⟩=M:=by simp[frozen?,N]
 have Q1:=AA q1;have Q2:=AA ((Chg.of_same av.out).then (G2.out.then (h2.then q2)));have ax:=AA aa;have ar:=AA N;have HL:=AA (Va hL (Va hs (Va hi hM)));have au:=AA (Va ag aj);clear a6 h1 h2 h3 q1 q2 q3 ac D N aj ag h r1 r2 r3 r4 hp y0 y1 y2 y3 y4 hL hs hi hM aa;go_upto_region 4 with fail
 go_region
 rw[<-a2];clear a2 c0 c1 f1;go_upto_region 6 with fail
 rw[<-af];clear af m2 n2;go_wp2;have ae:Chg (λk=>k=w.heap.size) I (((((I.setCell ⟨w.heap.size,0,O⟩ (R K p.num)).setCell ⟨w.heap.size,1,O⟩ (R K p.start)).setCell ⟨w.heap.size,2,O⟩ (R K p.warm)).setCell ⟨w.heap.size,3,O⟩ (T p.a p.m p.c)).setCell ⟨w.heap.size,4,O⟩ (R K p.buf)):=(((((Chg.refl (λk=>k=w.heap.size) I).set (show w.heap.size=w.heap.size from rfl)).set (show w.heap.size=w.heap.size from rfl)).set (show w.heap.size=w.heap.size from rfl)).set (show w.heap.size=w.heap.size from rfl)).set (show w.heap.size=w.heap.size from rfl);have am:(((((I.setCell ⟨w.heap.size,0,O⟩ (R K p.num)).setCell ⟨w.heap.size,1,O⟩ (R K p.start)).setCell ⟨w.heap.size,2,O⟩ (R K p.warm)).setCell ⟨w.heap.size,3,O⟩ (T p.a p.m p.c)).setCell ⟨w.heap.size,4,O⟩ (R K p.buf)).heap[w.heap.size]?=E (i7 #[R K p.num,R K p.start,R K p.warm,T p.a p.m p.c,R K p.buf] 126 (0,0)):=by have s1:=AJ (i:=0) ar.out (R K p.num);have s2:=AJ (i:=1) s1 (R K p.start);have s3:=AJ (i:=2) s2 (R K p.warm);have s4:=AJ (i:=3) s3 (T p.a p.m p.c);have s5:=AJ (i:=4) s4 (R K p.buf);exact s5
 refine Vi (adp (B:=w.heap.size) rfl rfl am) rfl ?_;obtain⟨ag,aj⟩:=au.out;have aw:=Q2.out.size;obtain⟨l1,l2,l3,l4⟩:=HL.out;refine⟨rfl,?_,?_⟩
 ·rw[l1,l2,l3,l4];exact⟨(ae.block Q om (by show Q≠w.heap.size;omega)).trans Q1.out.box,(ae.block B om (by show B≠w.heap.size;omega)).trans Q1.out.places,Q1.out.inX,Q1.out.ne,Q1.out.room⟩
 ·exact Q2.out.trans ae λk hk e=>absurd e om
theorem ak0{X:Nat->Prop}{Q B first many:Nat}{closed:Bool}{N:List PcW}(w:Wa)(h:Ab X Q B first many closed N w)(v:many=0) :Calls ZP 199 #[L (E ⟨Q,0,O⟩)] w λe w'=>e=ra (ta #[i8 #[R K 0,R K 0,R K 0,T O 0 0,R K 0],i6 M])/\Ab X Q B first many closed N w'/\Chg X w w':=by
 obtain⟨W,hW⟩:∃W,W=w.alloc (i7 #[R K 0,R K 0,R K 0,T O 0 0,R K 0] 126):=⟨_,rfl⟩;have hB:La w W:=by rw[hW];exact AL _ _
 have Z:W.heap[w.heap.size]?=E (i7 #[R K 0,R K 0,R K 0,T O 0 0,R K 0] 126 (0,0)):=by rw[hW];exact AT _ _
 have U:=h.below hB;have c2:W.cell? ⟨Q,2,O⟩=E (R K (many:Int)):=by simp[cell?,U.box]
 have e0:decide ((many:Int)=0)=G:=by simp;omega
 have e1:((many:Int)==0)=G:=by simp;omega
 have x0:W.cell? ⟨w.heap.size,0,O⟩=E (R K 0):=by simp[cell?,Z]
 have u0:W.frozen? ⟨w.heap.size,0,O⟩=M:=by simp[frozen?,Z]
 have x1:W.cell? ⟨w.heap.size,1,O⟩=E (R K 0):=by simp[cell?,Z]
 have u1:W.frozen? ⟨w.heap.size,1,O⟩=M:=by simp[frozen?,Z]
 have x2:W.cell? ⟨w.heap.size,2,O⟩=E (R K 0):=by simp[cell?,Z]
 have u2:W.frozen? ⟨w.heap.size,2,O⟩=M:=by simp[frozen?,Z]
 have x3:W.cell? ⟨w.heap.size,3,O⟩=E (T O 0 0):=by simp[cell?,Z]
 have u3:W.frozen? ⟨w.heap.size,3,O⟩=M:=by simp[frozen?,Z]
 have x4:W.cell? ⟨w.heap.size,4,O⟩=E (R K 0):=by simp[cell?,Z]
 have u4:W.frozen? ⟨w.heap.size,4,O⟩=M:=by simp[frozen?,Z]
 have Y:Chg (λk=>k=w.heap.size) W (((((W.setCell ⟨w.heap.size,0,O⟩ (R K 0)).setCell ⟨w.heap.size,1,O⟩ (R K 0)).setCell ⟨w.heap.size,2,O⟩ (R K 0)).setCell ⟨w.heap.size,3,O⟩ (T O 0 0)).setCell ⟨w.heap.size,4,O⟩ (R K 0)):=(((((Chg.refl (λk=>k=w.heap.size) W).set (show w.heap.size=w.heap.size from rfl)).set (show w.heap.size=w.heap.size from rfl)).set (show w.heap.size=w.heap.size from rfl)).set (show w.heap.size=w.heap.size from rfl)).set (show w.heap.size=w.heap.size from rfl);have V:(((((W.setCell ⟨w.heap.size,0,O⟩ (R K 0)).setCell ⟨w.heap.size,1,O⟩ (R K 0)).setCell ⟨w.heap.size,2,O⟩ (R K 0)).setCell ⟨w.heap.size,3,O⟩ (T O 0 0)).setCell ⟨w.heap.size,4,O⟩ (R K 0)).heap[w.heap.size]?=E (i7 #[R K 0,R K 0,R K 0,T O 0 0,R K 0] 126 (0,0)):=by have s1:=AJ (i:=0) Z (R K 0);have s2:=AJ (i:=1) s1 (R K 0);have s3:=AJ (i:=2) s2 (R K 0);have s4:=AJ (i:=3) s3 (T O 0 0);have s5:=AJ (i:=4) s4 (R K 0);exact s5
 have H:=(AD.1 h.places).1;have I:=(AD.1 h.box).1;have J:=hB.size;have C:Ab X Q B first many closed N (((((W.setCell ⟨w.heap.size,0,O⟩ (R K 0)).setCell ⟨w.heap.size,1,O⟩ (R K 0)).setCell ⟨w.heap.size,2,O⟩ (R K 0)).setCell ⟨w.heap.size,3,O⟩ (T O 0 0)).setCell ⟨w.heap.size,4,O⟩ (R K 0)):=⟨(Y.block Q om (by show Q≠w.heap.size;omega)).trans U.box,(Y.block B om (by show B≠w.heap.size;omega)).trans U.places,U.inX,U.ne,U.room⟩;have A:Chg X w (((((W.setCell ⟨w.heap.size,0,O⟩ (R K 0)).setCell ⟨w.heap.size,1,O⟩ (R K 0)).setCell ⟨w.heap.size,2,O⟩ (R K 0)).setCell ⟨w.heap.size,3,O⟩ (T O 0 0)).setCell ⟨w.heap.size,4,O⟩ (R K 0)):=(Chg.of_same hB).trans Y λk hk e=>absurd e om;have D:=AA V;have s:=AA C;have j:=AA A;clear h U Z v hB Y V C A H I J;go_enter func199,ntmps199;go_upto_region 1 with fail
 rw[<-hW];have HW:=AA hW;clear hW;go_wp2;refine Vi (aaG (B:=w.heap.size) rfl rfl D.out) rfl ?_;exact⟨rfl,s.out,j.out⟩
theorem akk{X:Nat->Prop}{Q B first many:Nat}{closed:Bool}{H:List PcW}(p:PcW)(w:Wa)(h:Ab X Q B first many closed H w)(hm:0<many)(hp:H[first]?=E p) :Calls ZP 199 #[L (E ⟨Q,0,O⟩)] w λe w'=>e=ra (ta #[i8 #[R K p.num,R K p.start,R K p.warm,T p.a p.m p.c,R K p.buf],i6 G])/\Ab X Q B ((first+1) % lc H) (many-1) closed (H.set first ⟨0,0,0,O,0,0,0⟩) w'/\Chg X w w':=by
 obtain⟨W,hW⟩:∃W,W=w.alloc (i7 #[R K 0,R K 0,R K 0,T O 0 0,R K 0] 126):=⟨_,rfl⟩;have hB:La w W:=by rw[hW];exact AL _ _
 have hx:W.heap[w.heap.size]?=E (i7 #[R K 0,R K 0,R K 0,T O 0 0,R K 0] 126 (0,0)):=by rw[hW];exact AT _ _
 have N:=(AD.1 h.box).1;have J:=(AD.1 h.places).1;have V:W.heap.size=w.heap.size+1:=by rw[hW];simp
 have D:Ab (λk=>k=Q∨k=B) Q B first many closed H W:=⟨(h.below hB).box,(h.below hB).places,⟨.inl rfl,.inr rfl⟩,h.ne,h.room⟩;have HP:=AA (ala p W D hm hp);have c2:W.cell? ⟨Q,2,O⟩=E (R K (many:Int)):=by simp[cell?,D.box]
 have e0:decide ((many:Int)=0)=M:=by simp;omega
 have e1:((many:Int)==0)=M:=by simp;omega
 have e2:decide (many=0)=M:=by simp;omega
 have HX:=AA hx;have HS:=AA (Va N (Va J V));have s:=AA h.inX;have HB:=AA hB;clear h hx hm hp hB D N J V;go_enter func199,ntmps199;go_upto_region 1 with fail
 rw[<-hW];clear hW;go_upto_region 3 with fail
 clear c2
 go_wp2_with fail
 refine HP.out.mono ?_;rintro e Y ⟨rfl,C,A⟩;obtain⟨N,J,V⟩:=HS.out;have Z:Y.heap[w.heap.size]?=E (i7 #[R K 0,R K 0,R K 0,T O 0 0,R K 0] 126 (0,0)):=(A.block w.heap.size om (by show ¬(w.heap.size=Q∨w.heap.size=B);omega)).trans HX.out;have x0:Y.cell? ⟨w.heap.size,0,O⟩=E (R K 0):=by simp[cell?,Z]
 have u0:Y.frozen? ⟨w.heap.size,0,O⟩=M:=by simp[frozen?,Z]
 have x1:Y.cell? ⟨w.heap.size,1,O⟩=E (R K 0):=by simp[cell?,Z]
 have u1:Y.frozen? ⟨w.heap.size,1,O⟩=M:=by simp[frozen?,Z]
 have x2:Y.cell? ⟨w.heap.size,2,O⟩=E (R K 0):=by simp[cell?,Z]
 have u2:Y.frozen? ⟨w.heap.size,2,O⟩=M:=by simp[frozen?,Z]
 have x3:Y.cell? ⟨w.heap.size,3,O⟩=E (T O 0 0):=by simp[cell?,Z]
 have u3:Y.frozen? ⟨w.heap.size,3,O⟩=M:=by simp[frozen?,Z]
 have x4:Y.cell? ⟨w.heap.size,4,O⟩=E (R K 0):=by simp[cell?,Z]
 have u4:Y.frozen? ⟨w.heap.size,4,O⟩=M:=by simp[frozen?,Z]
 have U:Chg (λk=>k=w.heap.size) Y (((((Y.setCell ⟨w.heap.size,0,O⟩ (R K p.num)).setCell ⟨w.heap.size,1,O⟩ (R K p.start)).setCell ⟨w.heap.size,2,O⟩ (R K p.warm)).setCell ⟨w.heap.size,3,O⟩ (T p.a p.m p.c)).setCell ⟨w.heap.size,4,O⟩ (R K p.buf)):=(((((Chg.refl (λk=>k=w.heap.size) Y).set (show w.heap.size=w.heap.size from rfl)).set (show w.heap.size=w.heap.size from rfl)).set (show w.heap.size=w.heap.size from rfl)).set (show w.heap.size=w.heap.size from rfl)).set (show w.heap.size=w.heap.size from rfl);have I:(((((Y.setCell ⟨w.heap.size,0,O⟩ (R K p.num)).setCell ⟨w.heap.size,1,O⟩ (R K p.start)).setCell ⟨w.heap.size,2,O⟩ (R K p.warm)).setCell ⟨w.heap.size,3,O⟩ (T p.a p.m p.c)).setCell ⟨w.heap.size,4,O⟩ (R K p.buf)).heap[w.heap.size]?=E (i7 #[R K p.num,R K p.start,R K p.warm,T p.a p.m p.c,R K p.buf] 126 (0,0)):=by have s1:=AJ (i:=0) Z (R K p.num);have s2:=AJ (i:=1) s1 (R K p.start);have s3:=AJ (i:=2) s2 (R K p.warm);have s4:=AJ (i:=3) s3 (T p.a p.m p.c);have s5:=AJ (i:=4) s4 (R K p.buf);exact s5
 have v:=A.size;have hF:Ab X Q B ((first+1) % lc H) (many-1) closed (H.set first ⟨0,0,0,O,0,0,0⟩) (((((Y.setCell ⟨w.heap.size,0,O⟩ (R K p.num)).setCell ⟨w.heap.size,1,O⟩ (R K p.start)).setCell ⟨w.heap.size,2,O⟩ (R K p.warm)).setCell ⟨w.heap.size,3,O⟩ (T p.a p.m p.c)).setCell ⟨w.heap.size,4,O⟩ (R K p.buf)):=⟨(U.block Q om (by show Q≠w.heap.size;omega)).trans C.box,(U.block B om (by show B≠w.heap.size;omega)).trans C.places,s.out,C.ne,C.room⟩;have hC:Chg X w (((((Y.setCell ⟨w.heap.size,0,O⟩ (R K p.num)).setCell ⟨w.heap.size,1,O⟩ (R K p.start)).setCell ⟨w.heap.size,2,O⟩ (R K p.warm)).setCell ⟨w.heap.size,3,O⟩ (T p.a p.m p.c)).setCell ⟨w.heap.size,4,O⟩ (R K p.buf)):=((Chg.of_same HB.out).then (A.mono λk _ e=>e.elim (λe=>by rw[e];exact s.out.1) λe=>by rw[e];exact s.out.2)).trans U λk hk e=>absurd e om;have j:=AA I;have HF:=AA hF;have HC:=AA hC;clear C A Z U I hF hC N J V v;go_wp2;refine Vi (aaG (B:=w.heap.size) rfl rfl j.out) rfl ?_;exact⟨rfl,HF.out,HC.out⟩
theorem al6{X:Nat->Prop}{Q B first many:Nat}{N:List AF}(p:AF)(a:Option Addr)(c:Nat)(w:Wa)(h:AY X Q B first many M N w)(hm:many<lc N)(hp:SlK 2 w a 1 [R K p.1,R K p.2]) :Calls ZP 206 #[L (E ⟨Q,0,O⟩),T a 1 c] w λe w'=>e=ra (i6 G)/\AY X Q B first (many+1) M (N.set ((first+many) % lc N) p) w'/\Chg X w w':=by
 obtain⟨b,off,rfl,a8,a1⟩:=hp.2.resolve_left (by decide);have c3:w.cell? ⟨Q,3,O⟩=E (i6 M):=by simp[cell?,h.box]
 have HL:=AA (aec w h);obtain⟨MH,hM⟩:∃MH,lc N-many=MH:=⟨_,rfl⟩;rw[hM]at HL;have e1:decide ((1:Int) > (MH:Int))=M:=by simp;omega
 have e2:decide ((MH:Int)<1)=M:=by simp;omega
 have e3:decide (MH<1)=M:=by simp;omega
 have e4:decide (MH=0)=M:=by simp;omega
 have HV:Hid (∀V,La w V->AY X Q B first many M N V/\∀i u,([R K p.1,R K p.2]:List Vk)[i]?=E u->V.cell? ⟨b,off+i,O⟩=E u):=λV C=>⟨h.below C,λi u hu=>(C.cell (p:=⟨b,off+i,O⟩) a8).trans (a1 i u hu)⟩;have af:=AA hm;clear h hm hp a1 hM;go_enter func206,ntmps206;go_upto_region 4 with(go_at_call 246;refine HL.out.mono ?_;rintro e w1 ⟨rfl,a2⟩)
 have aj:=AA a2;clear a2 c3
 go_loopw[26] (λa7 wr=>∃k:Nat,k<=1/\a7=R K (k:Int)/\Hid (k=0->La w wr)/\Hid (k=1->AY X Q B first (many+1) M (N.set ((first+many) % lc N) p) wr/\Chg X w wr)) (λs _=>1-(intOf s).toNat)
 case atStart=>exact⟨0,by omega,rfl,λ_=>aj.out,λh=>by cases h⟩
 case round=>
  obtain⟨k,hk,rfl,H0,H1⟩:=hrel
  by_cases h0:k=0
  ·subst h0;have hb:=H0.out rfl;obtain⟨hS,Z⟩:=HV.out wr hb;have x0:wr.cell? ⟨b,off,O⟩=E (R K p.1):=Z 0 _ rfl;have x1:wr.cell? ⟨b,off+1,O⟩=E (R K p.2):=Z 1 _ rfl;have A:(wr.alloc (i7 #[R K 0,R K 0] 116)).heap[wr.heap.size]?=E (i7 #[R K 0,R K 0] 116 (0,0)):=AT _ _;have n0:(wr.alloc (i7 #[R K 0,R K 0] 116)).cell? ⟨wr.heap.size,0,O⟩=E (R K 0):=by simp only[cell?,A];simp
   have g0:(wr.alloc (i7 #[R K 0,R K 0] 116)).frozen? ⟨wr.heap.size,0,O⟩=M:=by simp only[frozen?,A];simp
   have n1:(wr.alloc (i7 #[R K 0,R K 0] 116)).cell? ⟨wr.heap.size,1,O⟩=E (R K 0):=by simp only[cell?,A];simp
   have g1:(wr.alloc (i7 #[R K 0,R K 0] 116)).frozen? ⟨wr.heap.size,1,O⟩=M:=by simp only[frozen?,A];simp
   clear Z;go_upto_region 6 with fail
   obtain⟨W,hW⟩:∃W,W=wr.alloc (i7 #[R K p.1,R K p.2] 116):=⟨_,rfl⟩;rw[<-hW];have hx:W.heap[wr.heap.size]?=E (i7 #[R K p.1,R K p.2] 116 (0,0)):=by rw[hW];exact AT _ _
   have I:La w W:=hb.trans (by rw[hW];exact(AL _ _).mono hb.size);have ab:=(AD.1 hS.box).1;have ac:=(AD.1 hS.places).1;obtain⟨D,hD⟩:∃D,D=W.drew:=⟨_,rfl⟩;have H:La w D:=I.trans (by rw[hD];exact(AN W 1).mono I.size);have J:D.heap[wr.heap.size]?=E (i7 #[R K p.1,R K p.2] 116 (0,0)):=by rw[hD];exact hx
   have U:=(HV.out D H).1;have a6:AY (λk=>k=Q∨k=B) Q B first many M N D:=⟨U.box,U.places,⟨.inl rfl,.inr rfl⟩,U.ne,U.room⟩;have HP:=AA (ak7 p D a6 af.out);have s0:W.cell? ⟨wr.heap.size,0,O⟩=E (R K p.1):=by simp[cell?,hx]
   have s1:W.cell? ⟨wr.heap.size,1,O⟩=E (R K p.2):=by simp[cell?,hx]
   have HK:Hid (∀V,Chg (λk=>k=Q∨k=B) D V->V.cell? ⟨wr.heap.size,0,O⟩=E (R K p.1)/\V.cell? ⟨wr.heap.size,1,O⟩=E (R K p.2)):=λV C=>by have e:V.heap[wr.heap.size]?=_:=(C.block wr.heap.size (AD.1 J).1 (by show ¬(wr.heap.size=Q∨wr.heap.size=B);omega)).trans J;refine⟨?_,?_⟩<;>simp[cell?,e]
   have HI:=AA U.inX;have ai:=AA H;clear hS hx I ab ac H J U a6 hb A hW x0 n0 g0 x1 n1 g1;refine Ve ?_;refine Vd (S:=λY=>Y.cell? ⟨wr.heap.size,0,O⟩=E (R K p.1)/\Y.cell? ⟨wr.heap.size,1,O⟩=E (R K p.2)) kr ⟨s0,s1⟩ (λhHeld=>?_);rw[<-hD]at hHeld⊢;clear hD s0 s1;refine tkA 0 ?_;refine tkA 1 ?_;refine tkA 2 ?_;refine tkW 3 (v:=?_) ?_ ?_;rotate_left
   ·intro V C;obtain⟨q0,q1⟩:=C
    first|(go_simp;done)|(go_simp;with_reducible rfl)
   try simp only[pq]
   refine rdy 4 (λKB hK=>?_);go_simp
   go_at_call 247;refine(HP.out).mono ?_;rintro e w5 ⟨⟨v5,rfl⟩,j,hc⟩
   refine hK.out _ _ ((HK.out w5 hc)) (λaa=>?_);clear hK KB
   try simp only[pq]
   have ae:Hid (AY X Q B first (many+1) M (N.set ((first+many) % lc N) p) w5):=⟨j.box,j.places,HI.out,j.ne,j.room⟩;have ag:Hid (Chg X w w5):=(Chg.of_same ai.out).then (hc.mono λk _ e=>e.elim (λe=>by rw[e];exact HI.out.1) λe=>by rw[e];exact HI.out.2);clear j hc aa hHeld;refine Vg kr ?_ _;refine At ?_;go_wp2
   go_roundw
   case rel=>
    refine⟨1,AC _,by go_num,?_,?_⟩
    ·intro h;cases h
    ·intro _;exact⟨ae.out,ag.out⟩
   case measure=>simp[intOf]
  ·obtain rfl:k=1:=by omega
   obtain⟨g1,g2⟩:=H1.out rfl;go_wp2;go_ret;exact⟨rfl,g1,g2⟩
theorem ama{X:Nat->Prop}{Q B first many:Nat}{N:List PcW}(p:PcW)(a:Option Addr)(c:Nat)(w:Wa)(h:Ab X Q B first many M N w)(hm:many<lc N)(hp:SlK 5 w a 1 [R K p.num,R K p.start,R K p.warm,T p.a p.m p.c,R K p.buf]) :Calls ZP 196 #[L (E ⟨Q,0,O⟩),T a 1 c] w λe w'=>e=ra (i6 G)/\Ab X Q B first (many+1) M (N.set ((first+many) % lc N) p) w'/\Chg X w w':=by
 obtain⟨b,off,rfl,a8,a1⟩:=hp.2.resolve_left (by decide);have c3:w.cell? ⟨Q,3,O⟩=E (i6 M):=by simp[cell?,h.box]
 have HL:=AA (adS w h);obtain⟨MH,hM⟩:∃MH,lc N-many=MH:=⟨_,rfl⟩;rw[hM]at HL;have e1:decide ((1:Int) > (MH:Int))=M:=by simp;omega
 have e2:decide ((MH:Int)<1)=M:=by simp;omega
 have e3:decide (MH<1)=M:=by simp;omega
 have e4:decide (MH=0)=M:=by simp;omega
 have HV:Hid (∀V,La w V->Ab X Q B first many M N V/\∀i u,([R K p.num,R K p.start,R K p.warm,T p.a p.m p.c,R K p.buf]:List Vk)[i]?=E u->V.cell? ⟨b,off+i,O⟩=E u):=λV j=>⟨h.below j,λi u hu=>(j.cell (p:=⟨b,off+i,O⟩) a8).trans (a1 i u hu)⟩;have af:=AA hm;clear h hm hp a1 hM;go_enter func196,ntmps196;go_upto_region 4 with(go_at_call 237;refine HL.out.mono ?_;rintro e w1 ⟨rfl,a2⟩)
 have aj:=AA a2;clear a2 c3
 go_loopw[26] (λa7 wr=>∃k:Nat,k<=1/\a7=R K (k:Int)/\Hid (k=0->La w wr)/\Hid (k=1->Ab X Q B first (many+1) M (N.set ((first+many) % lc N) p) wr/\Chg X w wr)) (λs _=>1-(intOf s).toNat)
 case atStart=>exact⟨0,by omega,rfl,λ_=>aj.out,λh=>by cases h⟩
 case round=>
  obtain⟨k,hk,rfl,H0,H1⟩:=hrel
  by_cases h0:k=0
  ·subst h0;have hb:=H0.out rfl;obtain⟨hS,Z⟩:=HV.out wr hb;have x0:wr.cell? ⟨b,off,O⟩=E (R K p.num):=Z 0 _ rfl;have x1:wr.cell? ⟨b,off+1,O⟩=E (R K p.start):=Z 1 _ rfl;have x2:wr.cell? ⟨b,off+2,O⟩=E (R K p.warm):=Z 2 _ rfl;have x3:wr.cell? ⟨b,off+3,O⟩=E (T p.a p.m p.c):=Z 3 _ rfl;have x4:wr.cell? ⟨b,off+4,O⟩=E (R K p.buf):=Z 4 _ rfl;have J:(wr.alloc (i7 #[R K 0,R K 0,R K 0,T O 0 0,R K 0] 126)).heap[wr.heap.size]?=E (i7 #[R K 0,R K 0,R K 0,T O 0 0,R K 0] 126 (0,0)):=AT _ _;have n0:(wr.alloc (i7 #[R K 0,R K 0,R K 0,T O 0 0,R K 0] 126)).cell? ⟨wr.heap.size,0,O⟩=E (R K 0):=by simp only[cell?,J];simp
   have g0:(wr.alloc (i7 #[R K 0,R K 0,R K 0,T O 0 0,R K 0] 126)).frozen? ⟨wr.heap.size,0,O⟩=M:=by simp only[frozen?,J];simp
   have n1:(wr.alloc (i7 #[R K 0,R K 0,R K 0,T O 0 0,R K 0] 126)).cell? ⟨wr.heap.size,1,O⟩=E (R K 0):=by simp only[cell?,J];simp
   have g1:(wr.alloc (i7 #[R K 0,R K 0,R K 0,T O 0 0,R K 0] 126)).frozen? ⟨wr.heap.size,1,O⟩=M:=by simp only[frozen?,J];simp
   have n2:(wr.alloc (i7 #[R K 0,R K 0,R K 0,T O 0 0,R K 0] 126)).cell? ⟨wr.heap.size,2,O⟩=E (R K 0):=by simp only[cell?,J];simp
   have g2:(wr.alloc (i7 #[R K 0,R K 0,R K 0,T O 0 0,R K 0] 126)).frozen? ⟨wr.heap.size,2,O⟩=M:=by simp only[frozen?,J];simp
   have n3:(wr.alloc (i7 #[R K 0,R K 0,R K 0,T O 0 0,R K 0] 126)).cell? ⟨wr.heap.size,3,O⟩=E (T O 0 0):=by simp only[cell?,J];simp
   have g3:(wr.alloc (i7 #[R K 0,R K 0,R K 0,T O 0 0,R K 0] 126)).frozen? ⟨wr.heap.size,3,O⟩=M:=by simp only[frozen?,J];simp
   have n4:(wr.alloc (i7 #[R K 0,R K 0,R K 0,T O 0 0,R K 0] 126)).cell? ⟨wr.heap.size,4,O⟩=E (R K 0):=by simp only[cell?,J];simp
   have g4:(wr.alloc (i7 #[R K 0,R K 0,R K 0,T O 0 0,R K 0] 126)).frozen? ⟨wr.heap.size,4,O⟩=M:=by simp only[frozen?,J];simp
   clear Z;go_upto_region 6 with fail
   obtain⟨W,hW⟩:∃W,W=wr.alloc (i7 #[R K p.num,R K p.start,R K p.warm,T p.a p.m p.c,R K p.buf] 126):=⟨_,rfl⟩;rw[<-hW];have H:W.heap[wr.heap.size]?=E (i7 #[R K p.num,R K p.start,R K p.warm,T p.a p.m p.c,R K p.buf] 126 (0,0)):=by rw[hW];exact AT _ _
   have C:La w W:=hb.trans (by rw[hW];exact(AL _ _).mono hb.size);have ab:=(AD.1 hS.box).1;have ac:=(AD.1 hS.places).1;obtain⟨D,hD⟩:∃D,D=W.drew:=⟨_,rfl⟩;have A:La w D:=C.trans (by rw[hD];exact(AN W 1).mono C.size);have I:D.heap[wr.heap.size]?=E (i7 #[R K p.num,R K p.start,R K p.warm,T p.a p.m p.c,R K p.buf] 126 (0,0)):=by rw[hD];exact H
   have U:=(HV.out D A).1;have a6:Ab (λk=>k=Q∨k=B) Q B first many M N D:=⟨U.box,U.places,⟨.inl rfl,.inr rfl⟩,U.ne,U.room⟩;have HP:=AA (ais p D a6 af.out);have s0:W.cell? ⟨wr.heap.size,0,O⟩=E (R K p.num):=by simp[cell?,H]
   have s1:W.cell? ⟨wr.heap.size,1,O⟩=E (R K p.start):=by simp[cell?,H]
   have s2:W.cell? ⟨wr.heap.size,2,O⟩=E (R K p.warm):=by simp[cell?,H]
   have s3:W.cell? ⟨wr.heap.size,3,O⟩=E (T p.a p.m p.c):=by simp[cell?,H]
   have s4:W.cell? ⟨wr.heap.size,4,O⟩=E (R K p.buf):=by simp[cell?,H]
   have HK:Hid (∀V,Chg (λk=>k=Q∨k=B) D V->V.cell? ⟨wr.heap.size,0,O⟩=E (R K p.num)/\V.cell? ⟨wr.heap.size,1,O⟩=E (R K p.start)/\V.cell? ⟨wr.heap.size,2,O⟩=E (R K p.warm)/\V.cell? ⟨wr.heap.size,3,O⟩=E (T p.a p.m p.c)/\V.cell? ⟨wr.heap.size,4,O⟩=E (R K p.buf)):=λV j=>by have e:V.heap[wr.heap.size]?=_:=(j.block wr.heap.size (AD.1 I).1 (by show ¬(wr.heap.size=Q∨wr.heap.size=B);omega)).trans I;refine⟨?_,?_,?_,?_,?_⟩<;>simp[cell?,e]
   have HI:=AA U.inX;have ai:=AA A;clear hS H C ab ac A I U a6 hb J hW x0 n0 g0 x1 n1 g1 x2 n2 g2 x3 n3 g3 x4 n4 g4;refine Ve ?_;refine Vd (S:=λY=>Y.cell? ⟨wr.heap.size,0,O⟩=E (R K p.num)/\Y.cell? ⟨wr.heap.size,1,O⟩=E (R K p.start)/\Y.cell? ⟨wr.heap.size,2,O⟩=E (R K p.warm)/\Y.cell? ⟨wr.heap.size,3,O⟩=E (T p.a p.m p.c)/\Y.cell? ⟨wr.heap.size,4,O⟩=E (R K p.buf)) kr ⟨s0,s1,s2,s3,s4⟩ (λhHeld=>?_);rw[<-hD]at hHeld⊢;clear hD s0 s1 s2 s3 s4;refine tkA 0 ?_;refine tkA 1 ?_;refine tkA 2 ?_;refine tkW 3 (v:=?_) ?_ ?_;rotate_left
   ·intro V j;obtain⟨q0,q1,q2,q3,q4⟩:=j
    first|(go_simp;done)|(go_simp;with_reducible rfl)
   try simp only[pq]
   refine rdy 4 (λKB hK=>?_);go_simp
   go_at_call 239;refine(HP.out).mono ?_;rintro e w5 ⟨⟨v5,rfl⟩,hq,hc⟩
   refine hK.out _ _ ((HK.out w5 hc)) (λaa=>?_);clear hK KB
   try simp only[pq]
   have ae:Hid (Ab X Q B first (many+1) M (N.set ((first+many) % lc N) p) w5):=⟨hq.box,hq.places,HI.out,hq.ne,hq.room⟩;have ag:Hid (Chg X w w5):=(Chg.of_same ai.out).then (hc.mono λk _ e=>e.elim (λe=>by rw[e];exact HI.out.1) λe=>by rw[e];exact HI.out.2);clear hq hc aa hHeld;refine Vg kr ?_ _;refine At ?_;go_wp2
   go_roundw
   case rel=>
    refine⟨1,AC _,by go_num,?_,?_⟩
    ·intro h;cases h
    ·intro _;exact⟨ae.out,ag.out⟩
   case measure=>simp[intOf]
  ·obtain rfl:k=1:=by omega
   obtain⟨g1,g2⟩:=H1.out rfl;go_wp2;go_ret;exact⟨rfl,g1,g2⟩
section
attribute[local go_sem] Oper.semAt_some
attribute[local simp] Ak Al
attribute[local go_sem] Ak Al
def ak1(b base:Nat)(l:List AF)(W:Wa):Prop:=∃v,Boxed W b 69 v/\Ax W base v l
theorem ae4{α:Type}{B b base:Nat}{Pb:Nat->Wa->Wa->Prop}(D:base<=b)(N:∀r W J,Pb r W J->r<base)(f:α->List AF):BT B Pb (λs W=>ak1 b base (f s) W):=by
 rintro s W J row ⟨v,Z,ho⟩ U V;have X:∀{k:Nat}{cs:Array Vk}{t:TypeId},W.heap[k]?=E (i7 cs t (0,0))->base<=k->row≠E k:=λ{k cs t} hk I e=>by
  rcases V k e with⟨_,o,h1,h2⟩|h
  ·rw[hk]at h1;cases h1;cases h2
  ·have:=N k _ _ h;omega
 refine⟨v,(U.block b Z.lt (λe=>X Z D e.symm)).trans Z,ho.kept U ?_⟩
 rcases ho.2 with⟨rfl,_⟩|⟨g,cap,A,rfl,H,Y,_⟩
 ·exact .inl rfl
 ·refine .inr λe=>?_;have C:row=E g:=by rw[<-e];rfl
  rcases V g C with⟨_,o,h1,h2⟩|h
  ·rw[Y]at h1;cases h1;cases h2
  ·have:=N g _ _ h;omega
theorem alZ(V:Wa)(x:AF):SlK 2 (V.alloc (i7 #[R K x.1,R K x.2] 116)) (E ⟨V.heap.size,0,O⟩) 1 [R K x.1,R K x.2]:=by
 refine⟨rfl,.inr ⟨V.heap.size,0,rfl,by simp,λi u Z=>?_⟩⟩;have:=GI (w:=V) #[R K x.1,R K x.2] 116 rfl i u (by simpa using Z)
 rwa[Cf]at this
def Ki(h:AF):Array Vk:=#[i8 #[R K h.1,R K h.2]]
def KpB(B:Nat)(W V:Wa):Prop:=W.heap.size<=V.heap.size/\∀k,k<B->k<W.heap.size->V.heap[k]?=W.heap[k]?
theorem KpB.t{B:Nat}{A C D:Wa}(h:KpB B A C)(k:KpB B C D):KpB B A D:=⟨AS h.1 k.1,λi h1 h2=>(k.2 i h1 (Af h2 h.1)).trans (h.2 i h1 h2)⟩
theorem KpB.of_below{B:Nat}{W V:Wa}(h:Below B W V):KpB B W V:=⟨h.size,λk h1 _=>h.block k h1⟩
theorem ac8{gf:Nat}{lb:Array Vk}{B:Nat}{Pb:Nat->Wa->Wa->Prop}{S:List AF->Wa->Prop}{Sp:List AF->Prop}{N n₀:Nat}(w:Wa)
  (eg:∀args w,(callFunc gf args).run ZP w=.ok (.enter gf args) w)
  (a7:Hi Fence.wide 8 ZP gf lb Ki (KpB B) Pb S Sp N w) (hB:B<=w.heap.size) (A:∀r W W',Pb r W W'->r<w.heap.size) (hSk:∀(xs:List AF)(W:Wa)(l:Nat)(o o':Obj),w.heap.size<=l->W.heap[l]?=E o->o.isCells=M->S xs W->S xs (W.putObj l o'))
  (a8:n₀<=w.heap.size) (al:∀r W W',Pb r W W'->n₀<=r) (hN:N<=1000000000) (ak:∀xs W,S xs W->lc xs<=1000000000) :
  Calls ZP 274 #[T O 0 0,.func (.func gf) #[] lb] w λe w'=>∃v xs W,e=ra v/\S xs W/\(∃D,w.heap.size<=D/\w'=W.putObj D (.deferred O))/\Ax w' w.heap.size v xs/\Below n₀ w w':=by
 obtain⟨i0,hi,ae,ac,ab⟩:=Vh IG;obtain⟨W1,hW⟩:∃W,W=w.alloc (i7 #[T O 0 0] 69):=⟨_,rfl⟩;have U:Below w.heap.size w W1:=by rw[hW];exact AL _ _
 have bS:Boxed W1 w.heap.size 69 (T O 0 0):=by rw[hW];exact Boxed.new _ _ _
 have ai:W1.heap.size=w.heap.size+1:=by rw[hW];simp
 have a6:Hi Fence.wide 8 ZP gf lb Ki (KpB B) Pb S Sp N W1:=λl J Jx W hb=>a7 l J Jx W (U.trans (hb.mono U.size));refine Hc func274 rfl ?_;simp only[ntmps274,Cw,Ao,Bw,Nat.reduceAdd,Nat.reduceSub,Dd,Dc,DX,Da,Av,CT];go_upto_region 1 with fail
 rw[<-hW];clear hW a7;go_wp2;obtain⟨g,hg⟩:∃g,w.heap.size=g:=⟨_,rfl⟩;rw[hg]at bS ai U hB A hSk a8⊢;have HG:=AA hg
 apply NL rfl eg a6 (λr W W' hr=>by have:=A r W W' hr;omega) (λxs W l o o' hl=>hSk xs W l o o' om) KpB.t ?hKb (λ_=>rfl)
  (λI V=>ak1 g g I V/\Below n₀ w V/\W1.heap.size<=V.heap.size)
  (λ_ _ _=>False)
 case hKb=>exact λW l o o' hl _ _ _=>⟨by simp[World.putObj],λk h1 _=>Cm om⟩
 case wA=>exact λx W=>W.alloc (i7 #[R K x.1,R K x.2] 116)
 case hwA=>exact λx W=>AL _ _
 case hKg=>exact λx W hW=>KpB.of_below ((AL _ _).mono om)
 case hI=>exact BT.and (ae4 (AC _) A id) (BT.and (BT.below om om al) (BT.size _ _ _))
 case hIx=>exact λ_ _ _ _ _ hs _ _=>hs
 case h0=>exact⟨⟨_,bS,BN _ _ _ _⟩,U.mono a8,AC _⟩
 case hassign=>
  intro l x W KB hK;unfold Ki
  gi_wp2
  exact hK
 case hbody=>
  rintro l I x Wb V am ⟨⟨v,hv,Z⟩,s,a1⟩ ao
  try dsimp only
  have X:=am.2 Wb.heap.size _ _ _ (AT Wb (i7 #[R K x.1,R K x.2] 116));have k0:V.cell? ⟨Wb.heap.size,0,O⟩=E (R K x.1):=by simp[cell?,X]
  have k1:V.cell? ⟨Wb.heap.size,1,O⟩=E (R K x.2):=by simp[cell?,X]
  have k2:Wb.heap.size<V.heap.size:=(AD.1 X).1;obtain⟨m,H⟩:∃m,lc I=m:=⟨_,rfl⟩;have aq:m<=1000000001:=by omega
  unfold Ax at Z;rw[H]at Z;have j:=AA H;clear H;obtain⟨av,cv,rfl,aj,ag⟩:=SlK.own Z;have c2:=hv.cell;have ar:=hv.lt;clear X
  gi_wp2_with (gi_at_builtin;refine aa2 _ rfl _ _ 69 rfl g 116 i0 (i8 #[.int .i64 0,.int .i64 0]) 2 16 underlying69 hi ae ac ab rfl (by decide) _ _ _ rfl (Z.alloc _) (E ⟨V.heap.size,0,O⟩) 1 1 [.int .i64 x.1,.int .i64 x.2] rfl (alZ V x) (by simp[Value.oneCell']) (by unfold maxLen;omega) om (by simp;omega) ?_;intro v' w5 Y C au;obtain⟨g',ap,rfl⟩:=ownsRow_succ Y;obtain⟨b1,b2,b3,b4,b5⟩:=hv.appended (Kf kr) Z om (AC _) Y C;have d1:=b1.cell;have d2:=b1.frozen;have d3:=b1.lt)
  refine⟨b4.from _,?_,⟨_,b2,?_⟩,s.trans (b5.mono om),AS a1 (by have:=b5.size;simpa using this)⟩
  ·exact KpB.of_below (b5.mono om)
  ·unfold Ax;rw[List.length_append,j.out,JT];exact b3
 case hstop=>exact λ_ _ _ _ _ _ h _=>h.elim
 case hdone=>
  rintro D xs V hD hS ⟨⟨v,hv,Z⟩,s,a1⟩ aa;have af:=ak xs V hS;obtain⟨m,H⟩:∃m,lc xs=m:=⟨_,rfl⟩;unfold Ax at Z;rw[H]at Z af;have j:=AA H;clear H;obtain⟨av,cv,rfl,aj,ag⟩:=SlK.own Z;have c2:=hv.cell;have a2:=ownsRow_putObj Z (.deferred O) aa rfl;have HS:=AA hS;clear Z hS;go_wp2;refine Gg rfl aa (results_tmp rfl _ _ _) ⟨_,xs,V,rfl,HS.out,⟨D,by omega,rfl⟩,?_,FZ s om om _⟩;unfold Ax;rw[j.out,HG.out];exact a2
theorem aee{U:Nat}{C:Array Vk}{B:Nat}{Pb:Nat->Wa->Wa->Prop}{S:List AF->Wa->Prop}{Sp:List AF->Prop}{N J:Nat}(w:Wa)
  (eg:∀args w,(callFunc U args).run ZP w=.ok (.enter U args) w)
  (Z:Hi Fence.wide 8 ZP U C Ki (KpB B) Pb S Sp N w) (hB:B<=w.heap.size) (V:∀r W H,Pb r W H->r<w.heap.size) (hSk:∀(xs:List AF)(W:Wa)(l:Nat)(o o':Obj),w.heap.size<=l->W.heap[l]?=E o->o.isCells=M->S xs W->S xs (W.putObj l o'))
  (I:J<=w.heap.size) (X:∀r W H,Pb r W H->J<=r) (hN:N<=1000000000) (Y:∀xs W,S xs W->lc xs<=1000000000) :
  Calls ZP 248 #[.func (.func U) #[] C] w λe w'=>∃v xs W,e=ra v/\S xs W/\(∃D,w.heap.size<=D/\w'=W.putObj D (.deferred O))/\Ax w' w.heap.size v xs/\Below J w w':=by
 have HC:=AA (ac8 w eg Z hB V hSk I X hN Y);clear Z V hSk X Y;go_enter func248,ntmps248
 go_wp2_with fail
 refine HC.out.mono ?_;rintro e w1 ⟨v,xs,W,rfl,j,hD,A,s⟩;go_wp2;go_ret;exact⟨v,xs,W,rfl,j,hD,A,s⟩
end
end Go.Proofs.YtaamacoicojhnaaGreat
