/- Proofs over the given program, part 11. -/
import Derived.Test.YtaamacoicojhnaaGreatZR10
set_option linter.unusedVariables false
set_option linter.unusedSimpArgs false
set_option maxRecDepth 100000
set_option maxHeartbeats 16000000
open Go.Proofs.Tryz
open Go.Proofs.Tryz renaming prog→ZP
open Go.World(cell? frozen?)
open Go.Value(int slice pointer bool)
open Go.IntKind(i64)
namespace Go.Proofs.YtaamacoicojhnaaGreat
open Go.RowKit Go.Sort
structure Bc where
 num:Nat
 start:Nat
 warm:Nat
 data:List Int
 buf:Nat
structure RdM where
 ph:Nat
 holds:Bool
 buf:Nat
 warm:Nat
 own:Nat
 ahead:Nat
 tail:List Int
 ended:Bool
structure WkM where
 ph:Nat
 blk:Bc
 node:Nat
 done:Nat
 hits:List AF
structure CfM where
 W:Nat
 K:Nat
 R:Nat
 Q:Nat
 O:Nat
 S:Nat
 F:Nat
 L:Nat
 scan:Nat->Nat->List Int->Nat->Nat->Nat×Nat×List AF×Bool
 br:Bool
 ans:List Bool
def CfM.wm(c:CfM):Nat:=c.L-1
structure PlM where
 rs:La
 told:Nat
 off:Nat
 tk:List AF
 fr:List Nat
 us:List Bool
 ds:La
 q:List Bc
 shut:Bool
 next:Nat
 rg:List (Option (List AF))
 out:List AF
 ended:Bool
 number:Nat
 read:Nat
 took:List AF
 cancelled:Bool
 rd:RdM
 wk:List WkM
 mph:Nat
 left:List AF
 eph:Nat
def ape:Bc:=⟨0,0,0,[],0⟩
def wk0(ph:Nat):WkM:=⟨ph,ape,0,0,[]⟩
section
variable (c:CfM)(s:PlM)
def Bn(rs:La):PlM:=
 ⟨rs,0,0,[],(List.range c.R).reverse,List.replicate c.R false,List.replicate c.R [],[],false,0,List.replicate c.R none,[],false,0,0,[],false,⟨1,false,0,0,0,0,[],false⟩,List.replicate c.W (wk0 1),1,[],1⟩
def Bv(n:Nat):PlM:={s with fr:=if Cr s.us n then s.fr++[n] else s.fr,us:=if Cr s.us n then s.us.set n false else s.us,ds:=if Cr s.us n then s.ds.set n [] else s.ds}
def Ep:Bool:=!s.q.isEmpty || s.shut
def Gt:Bool:=(match s.rg with|some _::_=>true|_=>false) || (decide (s.rd.ph=5)&&decide (s.next=s.number))
def IV:Bool:=!s.out.isEmpty || s.ended
def Ck:Bool:=if s.rd.ph=5 then false else if s.cancelled then true else if s.rd.ph=1 then Du s.next c.R s.number else if s.rd.ph=3 then decide (s.q.length<c.Q) else true
def Er(i:Nat):Bool:=match s.wk[i]? with|none=>false|some w=>if w.ph=4 then false else if w.ph=1 then Ep s else true
def EX:Bool:=if s.mph=3 then false else if s.cancelled then true else if s.mph=1 then Gt s else decide (s.out.length<c.O)
def Fx:Bool:=if s.eph=2 then false else IV s
def Bj(t:Nat):Bool:=if t=0 then Ck c s else if t<=c.W then Er s (t-1) else if t=c.W+1 then EX c s else if t=c.W+2 then Fx s else false
def takeR:PlM:=
 let n:=s.fr.getLast?.getD 0
 {s with fr:=s.fr.dropLast,us:=s.us.set n true,ds:=(s.ds.set n []).set n s.rd.tail,rd:={s.rd with ph:=2,holds:=true,buf:=n,warm:=s.rd.tail.length,own:=0,ahead:=s.read}}
def backR:PlM:=let t:=Bv s s.rd.buf;{t with rd:={t.rd with holds:=false}}
def readR:PlM:=
 let b:=BR ((c.K:Int)-s.rd.own) s.rs
 if s.rs.isEmpty then
  if 0<s.rd.own then {s with rd:={s.rd with ended:=true,ph:=3}}
  else let t:=backR s;{t with rd:={t.rd with ph:=4}}
 else {s with
  rs:=EB ((c.K:Int)-s.rd.own) s.rs,told:=s.told+b.length,ds:=s.ds.set s.rd.buf (s.ds.getD s.rd.buf []++b),read:=s.read+b.length,
  rd:={s.rd with own:=s.rd.own+b.length,tail:=(s.rd.tail++b).drop ((s.rd.tail++b).length-c.wm),ph:=if s.rd.own+b.length=c.K then 3 else s.rd.ph}}
def putR:PlM:=
 {s with q:=s.q++[⟨s.number,c.F+s.rd.ahead,s.rd.warm,s.ds.getD s.rd.buf [],s.rd.buf⟩],number:=s.number+1,rd:={s.rd with holds:=false,ph:=if s.rd.ended then 4 else 1}}
def shutR:PlM:={s with shut:=true,rd:={s.rd with ph:=5}}
def stopR:PlM:=shutR (if s.rd.holds then backR s else s)
def stepR:PlM:=if s.cancelled then stopR s else if s.rd.ph=1 then takeR s else if s.rd.ph=2 then readR c s else if s.rd.ph=3 then putR c s else shutR s
def setW(i:Nat)(f:WkM->WkM):PlM:={s with wk:=s.wk.modify i f}
def takeW(i:Nat):PlM:=match s.q with
 |[]=>setW s i λw=>{w with ph:=4}
 |b::q=>{setW s i (λw=>{w with ph:=2,blk:=b})with q:=q}
def scanW(i:Nat):PlM:=setW s i λw=>
 let r:=c.scan w.blk.start w.blk.warm w.blk.data w.node w.done
 {w with node:=r.1,done:=r.2.1,hits:=w.hits++r.2.2.1,ph:=if r.2.2.2 then 3 else w.ph}
def leaveW(i:Nat):PlM:=match s.wk[i]? with
 |none=>s
 |some w=>setW (Bv s w.blk.buf) i λ_=>wk0 1
def putWM(i:Nat):PlM:=match s.wk[i]? with
 |none=>s
 |some w=>leaveW {s with rg:=s.rg.set (w.blk.num-s.next) (some w.hits)} i
def phW(i:Nat):Nat:=match s.wk[i]? with|none=>4|some w=>w.ph
def stopW(i:Nat):PlM:=
 let t:=if phW s i=1 then takeW s i else s
 if phW t i=4 then t else leaveW t i
def stepW(i:Nat):PlM:=if s.cancelled then stopW s i else if phW s i=1 then takeW s i else if phW s i=2 then scanW c s i else putWM s i
def takeM:PlM:=match s.rg with
 |some h::r=>if h.isEmpty then {s with rg:=r++[none],next:=s.next+1} else {s with rg:=r++[none],next:=s.next+1,left:=h,mph:=2}
 |_=>{s with ended:=true,mph:=3}
def flushM:PlM:=match s.left with
 |[]=>s
 |h::t=>{s with out:=s.out++[h],left:=t,mph:=if t.isEmpty then 1 else s.mph}
def Hr:PlM:={s with rg:=List.replicate s.rg.length none,left:=[],ended:=true,mph:=3}
def stepMg:PlM:=if s.cancelled then Hr s else if s.mph=1 then takeM s else flushM s
def offerE:PlM:=match s.out with
 |[]=>{s with eph:=2}
 |h::t=>if EH c.ans s.off then {s with off:=s.off+1,tk:=s.tk++[h],out:=t,took:=s.took++[h]} else {s with off:=s.off+1}
def Fr:PlM:=if s.out.isEmpty then {s with eph:=2} else {s with out:=[]}
def stepE:PlM:=if s.cancelled then Fr s else offerE c s
def Bi(t:Nat):PlM:=if t=0 then stepR c s else if t<=c.W then stepW c s (t-1) else if t=c.W+1 then stepMg s else stepE c s
def II:List Nat:=(List.range (c.W+3)).filter (Bj c s)
def EZ(n:Int):Option Nat:=(II c s)[Fz n (II c s).length]?
def Fi(n:Int):PlM:=match EZ c s n with|none=>s|some t=>Bi c s t
def Fd:Bool:=decide (s.rd.ph=5)&&s.wk.all (λw=>decide (w.ph=4))&&decide (s.mph=3)&&decide (s.eph=2)
def LN:PlM:=if s.cancelled || Fd s then s else {s with cancelled:=true}
end
def hW(x:WkM):List Bc:=if x.ph=2∨x.ph=3 then [x.blk] else []
def If(s:PlM):List Bc:=s.q++s.wk.flatMap hW
def rdB(r:RdM):List Nat:=if r.holds then [r.buf] else []
def Cu(s:PlM):List Nat:=rdB s.rd++(If s).map Bc.buf
theorem amN{α:Type}{l:List α}{i:Nat}{x:α}(h:l[i]?=some x):l=l.take i++x::l.drop (i+1):=by obtain⟨Z,e⟩:=AP.1 h;rw[<-e,List.getElem_cons_drop,Dx]
theorem amR{α:Type}{l:List α}{i:Nat}{x:α}(h:l[i]?=some x)(f:α->α):l.modify i f=l.take i++f x::l.drop (i+1):=by
 have U:=(AP.1 h).1
 apply Hn
 intro j;rw[GS]
 by_cases V:j<i
 ·have Z:¬i=j:=by omega
  rw[By (by rw[Ag];omega),MW V]
  cases l[j]?<;>simp[Z]
 ·have Y:(l.take i).length=i:=by rw[Ag];omega
  rw[DY om,Y]
  by_cases X:j=i
  ·subst X;rw[FG,h];simp
  ·obtain⟨d,rfl⟩:∃d,j=i+1+d:=⟨j-(i+1),by omega⟩;have Z:¬i=i+1+d:=by omega
   rw[show i+1+d-i=d+1 by omega,IP,Hm]
   cases l[i+1+d]?<;>simp[Z]
theorem aeg(n x:Nat):(List.range n).count x=if x<n then 1 else 0:=by
 induction n with
 |zero=>simp
 |succ n ih=>
  rw[El,En,ih,OM]
  by_cases h:n=x
  ·subst h;simp
  ·have e:(n==x)=false:=by simp[h]
   rw[e]
   by_cases h2:x<n
   ·have h3:x<n+1:=by omega
    simp[h2,h3]
   ·have h3:¬x<n+1:=by omega
    simp[h2,h3]
structure AW(c:CfM)(s:PlM):Prop where
 perm:(s.fr++Cu s).Perm (List.range c.R)
 ul:s.us.length=c.R
 dl:s.ds.length=c.R
 uf:∀x,x∈s.fr->s.us[x]?=some false
 ut:∀x,x∈Cu s->s.us[x]?=some true
section
variable {c:CfM}{s t:PlM}
theorem AW.cnt(h:AW c s)(x:Nat):s.fr.count x+(Cu s).count x=if x<c.R then 1 else 0:=by have:=h.perm.count_eq x;rw[En]at this;rw[this,aeg]
theorem AW.same(h:AW c s)(X:t.fr=s.fr)(Z:t.us=s.us)(U:t.ds.length=s.ds.length)(N:∀x,(Cu t).count x=(Cu s).count x):AW c t:=by have Y:(Cu t).Perm (Cu s):=OI.2 N;refine⟨?_,by rw[Z];exact h.ul,by rw[U];exact h.dl,by rw[X,Z];exact h.uf,λx V=>by rw[Z];exact h.ut x (Y.mem_iff.1 V)⟩;rw[X];exact(List.Perm.append_left _ Y).trans h.perm
theorem AW.give(h:AW c s)(n:Nat)(B:n∈Cu s)(I:t.fr=(Bv s n).fr)(U:t.us=(Bv s n).us)(A:t.ds.length=s.ds.length)(C:∀x,(Cu t).count x+(if x=n then 1 else 0)=(Cu s).count x):AW c t:=by
 have V:=h.ut n B;have Y:Cr s.us (n:Int)=true:=by unfold Cr;rw[DZ,Aa,V];simp
 have e1:(Bv s n).fr=s.fr++[n]:=by unfold Bv;dsimp only;rw[Lc Y]
 have j:(Bv s n).us=s.us.set n false:=by unfold Bv;dsimp only;rw[Lc Y]
 rw[e1]at I;rw[j]at U;have N:n<s.us.length:=(AP.1 V).1;have H:=h.cnt n;have D:=C n;rw[Lc rfl]at D;refine⟨?_,by rw[U,BG];exact h.ul,by rw[A];exact h.dl,λx Z=>?_,λx Z=>?_⟩
 ·refine(OI.2 λx=>?_).trans h.perm;rw[I,En,En,En,OM];have:=C x
  by_cases Z:x=n
  ·subst Z;simp at this⊢;omega
  ·have:¬n=x:=λe=>Z e.symm;simp[Z,this]at *;omega
 ·rw[U,Gr]
  by_cases X:n=x
  ·rw[Lc X,Lc N]
  ·rw[Lb X];rw[I]at Z
   rcases Bf.1 Z with h1|h1
   ·exact h.uf x h1
   ·exact absurd (Fq.1 h1).symm X
 ·have z:=Iv.2 Z;have y:=C x;have J:n≠x:=λe=>by
   subst e
   split at H<;>omega
  rw[U,Gr,Lb J];exact h.ut x (Iv.1 om)
theorem AW.take(h:AW c s)(n:Nat)(A:s.fr.getLast?=some n)(C:t.fr=s.fr.dropLast)(N:t.us=s.us.set n true)(z:t.ds.length=s.ds.length)(B:∀x,(Cu t).count x=(Cu s).count x+(if x=n then 1 else 0)):AW c t:=by
 have X:s.fr=s.fr.dropLast++[n]:=by obtain⟨l,e⟩:=List.getLast?_eq_some_iff.1 A;rw[e,LJ]
 have J:n∈s.fr:=by rw[X];simp
 have U:=h.uf n J;have I:n<s.us.length:=(AP.1 U).1;have D:=h.cnt n;have V:∀x,s.fr.count x=s.fr.dropLast.count x+(if x=n then 1 else 0):=λx=>by
  have:s.fr.count x=(s.fr.dropLast++[n]).count x:=by rw[<-X]
  rw[this,En,OM]
  by_cases Z:x=n
  ·subst Z;simp
  ·have:¬n=x:=λe=>Z e.symm;simp[Z,this]
 refine⟨?_,by rw[N,BG];exact h.ul,by rw[z];exact h.dl,λx Z=>?_,λx Z=>?_⟩
 ·refine(OI.2 λx=>?_).trans h.perm;rw[C,En,En,B x,V x];omega
 ·rw[C]at Z;have y:=Iv.2 Z;have h2:=V n;rw[Lc rfl]at h2;have H:n≠x:=λe=>by subst e;split at D<;>omega
  rw[N,Gr,Lb H];exact h.uf x (by rw[X];exact List.mem_append_left _ Z)
 ·rw[N,Gr]
  by_cases Y:n=x
  ·rw[Lc Y,Lc I]
  ·rw[Lb Y];have:=B x;rw[Lb (λe=>Y e.symm)]at this;exact h.ut x (Iv.1 (by have:=Iv.2 Z;omega))
end
structure Az(s:PlM):Prop where
 ph:1<=s.rd.ph/\s.rd.ph<=5
 ho:s.rd.holds=true↔(s.rd.ph=2∨s.rd.ph=3)
 wp:∀(i:Nat)(x:WkM),s.wk[i]?=some x->1<=x.ph/\x.ph<=4
 mp:1<=s.mph/\s.mph<=3
 ep:1<=s.eph/\s.eph<=2
section
variable {c:CfM}{s t:PlM}{i:Nat}{x:WkM}
theorem Ii{α:Type} [DecidableEq α] (g:Bc->α){l:List WkM}(h:l[i]?=some x)(f:WkM->WkM)(y:α):(((l.modify i f).flatMap hW).map g).count y+((hW x).map g).count y=((l.flatMap hW).map g).count y+((hW (f x)).map g).count y:=by
 rw[amR h f];have e:=congrArg (λl=>((List.flatMap hW l).map g).count y) (amN h)
 try dsimp only at e
 rw[e];simp only[List.flatMap_append,List.flatMap_cons,Aj,En];omega
theorem EQ(s:PlM)(y:Nat):(Cu s).count y=(rdB s.rd).count y+((s.q.map Bc.buf).count y+((s.wk.flatMap hW).map Bc.buf).count y):=by unfold Cu If;rw[Aj,En,En]
theorem KO(n y:Nat):([n]:List Nat).count y=if y=n then 1 else 0:=by
 rw[OM]
 by_cases h:y=n
 ·subst h;simp
 ·have:¬n=y:=λe=>h e.symm;simp[h,this]
theorem AW.takeW(h:AW c s)(Z:s.wk[i]?=some x)(X:x.ph=1):AW c (takeW s i):=by
 have h1:hW x=[]:=by unfold hW;rw[Lb om]
 unfold Proofs.YtaamacoicojhnaaGreat.takeW
 cases Y:s.q with
 |nil=>
  refine h.same rfl rfl rfl λy=>?_;rw[EQ,EQ];have:=Ii Bc.buf Z (λw=>{w with ph:=4}) y;rw[h1]at this;have h2:hW {x with ph:=4}=[]:=rfl;rw[h2]at this;simp only[setW]
  simpa using this
 |cons b q=>
  refine h.same rfl rfl rfl λy=>?_;rw[EQ,EQ,Y];have:=Ii Bc.buf Z (λw=>{w with ph:=2,blk:=b}) y;rw[h1]at this;have h2:hW {x with ph:=2,blk:=b}=[b]:=rfl;rw[h2]at this;simp only[setW,BO,DE,Iw,List.count_cons]at this⊢;omega
theorem AW.scanW(h:AW c s)(X:s.wk[i]?=some x)(Y:x.ph=2):AW c (scanW c s i):=by
 unfold Proofs.YtaamacoicojhnaaGreat.scanW;refine h.same rfl rfl rfl λy=>?_;rw[EQ,EQ];have:=Ii Bc.buf X (λw=>{w with node:=(c.scan w.blk.start w.blk.warm w.blk.data w.node w.done).1,done:=(c.scan w.blk.start w.blk.warm w.blk.data w.node w.done).2.1,hits:=w.hits++(c.scan w.blk.start w.blk.warm w.blk.data w.node w.done).2.2.1,ph:=if(c.scan w.blk.start w.blk.warm w.blk.data w.node w.done).2.2.2 then 3 else w.ph}) y;have h1:hW x=[x.blk]:=by unfold hW;rw[Lc (.inl Y)]
 have h2:∀(n d:Nat)(Z:List AF)(b:Bool),hW {x with node:=n,done:=d,hits:=Z,ph:=if b then 3 else x.ph}=[x.blk]:=λn d Z b=>by unfold hW;rw[Lc (by cases b<;>simp[Y])]
 rw[h1,h2]at this;simp only[setW];omega
theorem AW.leaveW(h:AW c s)(Z:s.wk[i]?=some x)(Y:x.ph=2∨x.ph=3):AW c (leaveW s i):=by
 have h1:hW x=[x.blk]:=by unfold hW;rw[Lc Y]
 have X:x.blk.buf∈Cu s:=by unfold Cu If;refine List.mem_append_right _ (Be.2 ⟨x.blk,List.mem_append_right _ (Ir.2 ⟨x,AX Z,by rw[h1];simp⟩),rfl⟩)
 unfold Proofs.YtaamacoicojhnaaGreat.leaveW;rw[Z];refine h.give x.blk.buf X rfl rfl ?_ λy=>?_
 ·simp only[setW,Bv];split<;>simp
 ·rw[EQ,EQ];have:=Ii Bc.buf Z (λ_=>wk0 1) y;have h2:hW (wk0 1)=[]:=rfl;rw[h1,h2,BO,DE,KO]at this;simp only[setW,Bv,DE,Iw]at this⊢;omega
theorem AW.ring(h:AW c s)(rg:List (Option (List AF))):AW c {s with rg:=rg}:=h.same rfl rfl rfl λ_=>rfl
theorem AW.putWM(h:AW c s)(Z:s.wk[i]?=some x)(Y:x.ph=2∨x.ph=3):AW c (putWM s i):=by unfold Proofs.YtaamacoicojhnaaGreat.putWM;rw[Z];exact(h.ring _).leaveW (s:={s with rg:=s.rg.set (x.blk.num-s.next) (some x.hits)}) Z Y
theorem KW{l:List WkM}(h:l[i]?=some x)(f:WkM->WkM):(l.modify i f)[i]?=some (f x):=by rw[GS,h];simp
theorem Fc(Z:s.wk[i]?=some x):phW s i=x.ph:=by unfold phW;rw[Z]
theorem AW.stopW(h:AW c s)(Z:s.wk[i]?=some x)(V:1<=x.ph/\x.ph<=3):AW c (stopW s i):=by
 unfold Proofs.YtaamacoicojhnaaGreat.stopW;rw[Fc Z]
 by_cases h1:x.ph=1
 ·dsimp only;rw[Lc h1];have Y:=h.takeW Z h1
  cases X:s.q with
  |nil=>
   have e:(Proofs.YtaamacoicojhnaaGreat.takeW s i).wk[i]?=some {x with ph:=4}:=by unfold Proofs.YtaamacoicojhnaaGreat.takeW;rw[X];exact KW Z _
   rw[Fc e,Lc rfl];exact Y
  |cons b q=>
   have e:(Proofs.YtaamacoicojhnaaGreat.takeW s i).wk[i]?=some {x with ph:=2,blk:=b}:=by unfold Proofs.YtaamacoicojhnaaGreat.takeW;rw[X];exact KW Z _
   rw[Fc e,Lb (show ¬(2=4) by decide)];exact Y.leaveW e (.inl rfl)
 ·dsimp only;rw[Lb h1,Fc Z,Lb om];exact h.leaveW Z om
theorem AW.stepW(h:AW c s)(Z:s.wk[i]?=some x)(Y:1<=x.ph/\x.ph<=3):AW c (stepW c s i):=by
 unfold Proofs.YtaamacoicojhnaaGreat.stepW;rw[Fc Z]
 split
 ·exact h.stopW Z Y
 ·split
  ·exact h.takeW Z (by assumption)
  ·split
   ·exact h.scanW Z (by assumption)
   ·exact h.putWM Z om
theorem NK{r:RdM}(h:r.holds=false):rdB r=[]:=by unfold rdB;rw[h];rfl
theorem KG{r:RdM}(h:r.holds=true):rdB r=[r.buf]:=by unfold rdB;rw[h];rfl
theorem AW.takeR(h:AW c s)(Y:s.rd.holds=false)(X:s.fr≠[]):AW c (takeR s):=by obtain⟨n,Z⟩:∃n,s.fr.getLast?=some n:=⟨_,MV X⟩;unfold Proofs.YtaamacoicojhnaaGreat.takeR;rw[Z];refine h.take n Z rfl rfl sm λy=>?_;rw[EQ,EQ,NK Y,KG (r:={s.rd with ph:=2,holds:=true,buf:=(some n).getD 0,warm:=s.rd.tail.length,own:=0,ahead:=s.read}) rfl,KO];simp only[CG,Iw];omega
theorem AW.backR(h:AW c s)(Z:s.rd.holds=true):AW c (backR s):=by
 have Y:s.rd.buf∈Cu s:=by unfold Cu;rw[KG Z];simp
 unfold Proofs.YtaamacoicojhnaaGreat.backR;refine h.give s.rd.buf Y rfl rfl ?_ λy=>?_
 ·simp only[Bv];split<;>simp
 ·rw[EQ,EQ,KG Z,NK (r:={(Bv s s.rd.buf).rd with holds:=false}) rfl,KO];simp only[Bv,Iw];omega
theorem AW.rdO(h:AW c s){t:PlM}(h1:t.fr=s.fr)(h2:t.us=s.us)(h3:t.ds.length=s.ds.length)(h4:t.q=s.q)(h5:t.wk=s.wk)(h6:t.rd.holds=s.rd.holds)(h7:t.rd.buf=s.rd.buf):AW c t:=by refine h.same h1 h2 h3 λy=>?_;rw[EQ,EQ,h4,h5];unfold rdB;rw[h6,h7]
theorem AW.readR(h:AW c s)(Z:s.rd.holds=true):AW c (readR c s):=by
 unfold Proofs.YtaamacoicojhnaaGreat.readR;dsimp only
 split
 ·split
  ·exact h.rdO rfl rfl rfl rfl rfl rfl rfl
  ·exact(h.backR Z).rdO rfl rfl rfl rfl rfl rfl rfl
 ·exact h.rdO rfl rfl sm rfl rfl rfl rfl
theorem AW.putR(h:AW c s)(Z:s.rd.holds=true):AW c (putR c s):=by unfold Proofs.YtaamacoicojhnaaGreat.putR;refine h.same rfl rfl rfl λy=>?_;rw[EQ,EQ,KG Z,NK (r:={s.rd with holds:=false,ph:=if s.rd.ended then 4 else 1}) rfl];simp only[Aj,BO,DE,En,Iw];omega
theorem AW.shutR(h:AW c s):AW c (shutR s):=h.rdO rfl rfl rfl rfl rfl rfl rfl
theorem AW.stopR(h:AW c s):AW c (stopR s):=by
 unfold Proofs.YtaamacoicojhnaaGreat.stopR
 by_cases Z:s.rd.holds=true
 ·rw[Lc Z];exact(h.backR Z).shutR
 ·rw[Lb Z];exact h.shutR
theorem AW.stepR(h:AW c s)(X:Az s)(h5:s.rd.ph≠5)(V:s.cancelled=false->s.rd.ph=1->s.fr≠[]):AW c (stepR c s):=by
 unfold Proofs.YtaamacoicojhnaaGreat.stepR;have Y:=X.ho
 cases U:s.cancelled with
 |true=>exact h.stopR
 |false=>
  have Z:¬(false=true):=by decide
  rw[Lb Z]
  split
  ·exact h.takeR (by cases N:s.rd.holds with|false=>rfl|true=>have:=Y.1 N;omega) (V U (by assumption))
  ·split
   ·exact h.readR (Y.2 (.inl (by assumption)))
   ·split
    ·exact h.putR (Y.2 (.inr (by assumption)))
    ·exact h.shutR
theorem AW.stepMg(h:AW c s):AW c (stepMg s):=by
 unfold Proofs.YtaamacoicojhnaaGreat.stepMg takeM flushM Hr
 repeat' split
 all_goals exact h.rdO rfl rfl rfl rfl rfl rfl rfl
theorem AW.stepE(h:AW c s):AW c (stepE c s):=by
 unfold Proofs.YtaamacoicojhnaaGreat.stepE offerE Fr
 repeat' split
 all_goals exact h.rdO rfl rfl rfl rfl rfl rfl rfl
end
structure CD(c:CfM)(s:PlM):Prop where
 shu:s.shut=decide (s.rd.ph=5)
 en:s.ended=decide (s.mph=3)
 ml:s.mph=2->s.left≠[]
 wl:s.wk.length=c.W
 gl:s.rg.length=c.R
 ql:s.q.length<=c.Q
 ol:s.out.length<=c.O
section
variable {c:CfM}{s t:PlM}{i:Nat}{x:WkM}
theorem Ju{p:WkM->Prop}{l:List WkM}{f:WkM->WkM}(h:∀(j:Nat)(y:WkM),l[j]?=some y->p y)(V:l[i]?=some x)(U:p (f x)):∀(j:Nat)(y:WkM),(l.modify i f)[j]?=some y->p y:=λj y Z=>by
 rw[GS]at Z
 by_cases Y:i=j
 ·subst Y;rw[V]at Z;simp at Z;rw[<-Z];exact U
 ·cases X:l[j]? with
  |none=>rw[X]at Z;simp at Z
  |some z=>
   rw[X]at Z;simp[Y]at Z;rw[<-Z];exact h j z X
theorem Az.wk(h:Az s){t:PlM}{f:WkM->WkM}(Z:t.rd=s.rd)(V:t.mph=s.mph)(N:t.eph=s.eph)(X:t.wk=s.wk.modify i f)(Y:s.wk[i]?=some x)(U:1<=(f x).ph/\(f x).ph<=4):Az t:=⟨by rw[Z];exact h.ph,by rw[Z];exact h.ho,by rw[X];exact Ju (p:=λy=>1<=y.ph/\y.ph<=4) h.wp Y U,by rw[V];exact h.mp,by rw[N];exact h.ep⟩
theorem Az.rd(h:Az s){t:PlM}(X:t.mph=s.mph)(V:t.eph=s.eph)(Z:t.wk=s.wk)(Y:1<=t.rd.ph/\t.rd.ph<=5)(ho:t.rd.holds=true↔(t.rd.ph=2∨t.rd.ph=3)):Az t:=⟨Y,ho,by rw[Z];exact h.wp,by rw[X];exact h.mp,by rw[V];exact h.ep⟩
theorem Az.takeW(h:Az s)(Z:s.wk[i]?=some x):Az (takeW s i):=by
 unfold Proofs.YtaamacoicojhnaaGreat.takeW
 split
 ·exact h.wk (f:=λw=>{w with ph:=4}) rfl rfl rfl rfl Z ⟨by show 1<=4;decide,AC _⟩
 ·exact h.wk (f:=λw=>{w with ph:=2,blk:=_}) rfl rfl rfl rfl Z ⟨by show 1<=2;decide,by show 2<=4;decide⟩
theorem Az.leaveW(h:Az s)(Z:s.wk[i]?=some x):Az (leaveW s i):=by unfold Proofs.YtaamacoicojhnaaGreat.leaveW;rw[Z];exact h.wk (f:=λ_=>wk0 1) rfl rfl rfl rfl Z ⟨AC _,by show 1<=4;decide⟩
theorem Az.putWM(h:Az s)(Z:s.wk[i]?=some x):Az (putWM s i):=by unfold Proofs.YtaamacoicojhnaaGreat.putWM;rw[Z];exact Az.leaveW (s:={s with rg:=s.rg.set (x.blk.num-s.next) (some x.hits)}) ⟨h.ph,h.ho,h.wp,h.mp,h.ep⟩ Z
theorem Az.scanW(h:Az s)(Z:s.wk[i]?=some x):Az (scanW c s i):=by
 have Y:=h.wp i x Z;unfold Proofs.YtaamacoicojhnaaGreat.scanW;refine h.wk (f:=λw=>{w with node:=(c.scan w.blk.start w.blk.warm w.blk.data w.node w.done).1,done:=(c.scan w.blk.start w.blk.warm w.blk.data w.node w.done).2.1,hits:=w.hits++(c.scan w.blk.start w.blk.warm w.blk.data w.node w.done).2.2.1,ph:=if(c.scan w.blk.start w.blk.warm w.blk.data w.node w.done).2.2.2 then 3 else w.ph}) rfl rfl rfl rfl Z ?_;dsimp only
 split
 ·omega
 ·exact Y
theorem agA(Z:s.wk[i]?=some x):∃y,(takeW s i).wk[i]?=some y:=by
 unfold takeW
 split
 ·exact⟨_,KW Z _⟩
 ·exact⟨_,KW Z _⟩
theorem Az.stepW(h:Az s)(Z:s.wk[i]?=some x):Az (stepW c s i):=by
 unfold Proofs.YtaamacoicojhnaaGreat.stepW
 split
 ·unfold stopW;dsimp only
  by_cases h1:phW s i=1
  ·rw[Lc h1];have Y:=h.takeW Z;obtain⟨y,X⟩:=agA Z
   split
   ·exact Y
   ·exact Y.leaveW X
  ·rw[Lb h1]
   split
   ·exact h
   ·exact h.leaveW Z
 ·split
  ·exact h.takeW Z
  ·split
   ·exact h.scanW Z
   ·exact h.putWM Z
theorem Az.stepR(h:Az s):Az (stepR c s):=by
 have Z:=h.ho;have X:=h.ph;unfold Proofs.YtaamacoicojhnaaGreat.stepR
 split
 ·unfold stopR shutR backR
  by_cases Y:s.rd.holds=true
  ·rw[Lc Y];exact h.rd rfl rfl rfl ⟨by show 1<=5;decide,AC _⟩ (by simp[Bv])
  ·rw[Lb Y];refine h.rd rfl rfl rfl ⟨by show 1<=5;decide,AC _⟩ ?_;show s.rd.holds=true↔(5=2∨5=3)
   constructor
   ·intro e;exact absurd e Y
   ·intro e;omega
 ·split
  ·exact h.rd rfl rfl rfl ⟨by show 1<=2;decide,by show 2<=5;decide⟩ (by simp[takeR])
  ·split
   ·have h2:s.rd.holds=true:=Z.2 (.inl (by assumption));unfold readR;dsimp only
    split
    ·split
     ·exact h.rd rfl rfl rfl ⟨by show 1<=3;decide,by show 3<=5;decide⟩ (by simp[h2])
     ·exact h.rd rfl rfl rfl ⟨by show 1<=4;decide,by show 4<=5;decide⟩ (by simp[backR,Bv])
    ·refine h.rd rfl rfl rfl ?_ ?_
     ·dsimp only;split<;>omega
     ·dsimp only;rw[h2]
      constructor
      ·intro _;split
       ·exact .inr rfl
       ·exact .inl (by assumption)
      ·intro _;rfl
   ·split
    ·unfold putR;refine h.rd rfl rfl rfl ?_ ?_
     ·dsimp only;split<;>omega
     ·dsimp only;split<;>simp
    ·unfold shutR;refine h.rd rfl rfl rfl ⟨by show 1<=5;decide,AC _⟩ ?_;show s.rd.holds=true↔(5=2∨5=3)
     constructor
     ·intro e;have:=Z.1 e;omega
     ·intro e;omega
theorem Az.stepMg(h:Az s):Az (stepMg s):=by
 have Z:=h.mp;unfold Proofs.YtaamacoicojhnaaGreat.stepMg takeM flushM Hr
 repeat' split
 all_goals refine⟨h.ph,h.ho,h.wp,?_,h.ep⟩
 all_goals (try dsimp only)
 all_goals (try split)
 all_goals first|omega|exact Z
theorem Az.stepE(h:Az s):Az (stepE c s):=by
 have Z:=h.ep;unfold Proofs.YtaamacoicojhnaaGreat.stepE offerE Fr
 repeat' split
 all_goals refine⟨h.ph,h.ho,h.wp,h.mp,?_⟩
 all_goals (try dsimp only)
 all_goals first|omega|exact Z
end
section
variable {c:CfM}{s t:PlM}{i:Nat}{x:WkM}
theorem CD.wk(h:CD c s)(h1:t.shut=s.shut)(h2:t.rd=s.rd)(h3:t.ended=s.ended)(h4:t.mph=s.mph)(h5:t.left=s.left)(h6:t.wk.length=s.wk.length)(h7:t.rg.length=s.rg.length)(h8:t.q.length<=s.q.length)(h9:t.out=s.out):CD c t:=⟨by rw[h1,h2];exact h.shu,by rw[h3,h4];exact h.en,by rw[h4,h5];exact h.ml,by rw[h6];exact h.wl,by rw[h7];exact h.gl,AS h8 h.ql,by rw[h9];exact h.ol⟩
theorem CD.takeW(h:CD c s):CD c (takeW s i):=by
 unfold Proofs.YtaamacoicojhnaaGreat.takeW
 split
 ·exact h.wk rfl rfl rfl rfl rfl (by simp[setW]) rfl (AC _) rfl
 ·rename_i b q Z
  exact h.wk rfl rfl rfl rfl rfl (by simp[setW]) rfl (by rw[Z];simp) rfl
theorem CD.leaveW(h:CD c s):CD c (leaveW s i):=by
 unfold Proofs.YtaamacoicojhnaaGreat.leaveW
 split
 ·exact h
 ·exact h.wk rfl rfl rfl rfl rfl (by simp[setW,Bv]) rfl (AC _) rfl
theorem CD.stepW(h:CD c s):CD c (stepW c s i):=by
 unfold Proofs.YtaamacoicojhnaaGreat.stepW
 split
 ·unfold stopW;dsimp only
  repeat' split
  all_goals first|exact h.takeW|exact h|exact h.takeW.leaveW|exact h.leaveW
 ·split
  ·exact h.takeW
  ·split
   ·exact h.wk rfl rfl rfl rfl rfl (by simp[scanW,setW]) rfl (AC _) rfl
   ·unfold putWM
    split
    ·exact h
    ·exact CD.leaveW (h.wk (t:={s with rg:=s.rg.set _ _}) rfl rfl rfl rfl rfl rfl sm (AC _) rfl)
theorem CD.rdN(h:CD c s)(h0:s.rd.ph≠5)(h2:t.rd.ph≠5)(h1:t.shut=s.shut)(h3:t.ended=s.ended)(h4:t.mph=s.mph)(h5:t.left=s.left)(h6:t.wk=s.wk)(h7:t.rg=s.rg)(h8:t.q.length<=c.Q)(h9:t.out=s.out):CD c t:=⟨by rw[h1,h.shu,decide_eq_false h0,decide_eq_false h2],by rw[h3,h4];exact h.en,by rw[h4,h5];exact h.ml,by rw[h6];exact h.wl,by rw[h7];exact h.gl,h8,by rw[h9];exact h.ol⟩
theorem CD.rd5(h:CD c s)(h2:t.rd.ph=5)(h1:t.shut=true)(h3:t.ended=s.ended)(h4:t.mph=s.mph)(h5:t.left=s.left)(h6:t.wk=s.wk)(h7:t.rg=s.rg)(h8:t.q=s.q)(h9:t.out=s.out):CD c t:=⟨by rw[h1,Lz h2],by rw[h3,h4];exact h.en,by rw[h4,h5];exact h.ml,by rw[h6];exact h.wl,by rw[h7];exact h.gl,by rw[h8];exact h.ql,by rw[h9];exact h.ol⟩
theorem CD.stepR(h:CD c s)(Z:Ck c s=true):CD c (stepR c s):=by
 have h5:s.rd.ph≠5:=λe=>by unfold Ck at Z;rw[Lc e]at Z;cases Z
 unfold Proofs.YtaamacoicojhnaaGreat.stepR
 split
 ·unfold stopR shutR backR
  split
  ·exact h.rd5 rfl rfl rfl rfl rfl rfl rfl rfl rfl
  ·exact h.rd5 rfl rfl rfl rfl rfl rfl rfl rfl rfl
 ·rename_i X
  split
  ·exact h.rdN h5 (by show 2≠5;decide) rfl rfl rfl rfl rfl rfl h.ql rfl
  ·split
   ·unfold readR;dsimp only
    split
    ·split
     ·exact h.rdN h5 (by show 3≠5;decide) rfl rfl rfl rfl rfl rfl h.ql rfl
     ·exact h.rdN h5 (by show 4≠5;decide) rfl rfl rfl rfl rfl rfl h.ql rfl
    ·refine h.rdN h5 ?_ rfl rfl rfl rfl rfl rfl h.ql rfl;dsimp only;split
     ·decide
     ·exact h5
   ·split
    ·rename_i U N V
     have Y:s.q.length<c.Q:=by unfold Ck at Z;rw[Lb h5,Lb X,Lb U,Lc V]at Z;exact Lj Z
     refine h.rdN h5 ?_ rfl rfl rfl rfl rfl rfl (by show(s.q++[_]).length<=c.Q;rw[List.length_append];exact Y) rfl;unfold putR;dsimp only;split<;>decide
    ·exact h.rd5 rfl rfl rfl rfl rfl rfl rfl rfl rfl
theorem CD.stepMg(h:CD c s)(J:Az s)(Y:EX c s=true):CD c (stepMg s):=by
 have h3:s.mph≠3:=λe=>by unfold EX at Y;rw[Lc e]at Y;cases Y
 have V:s.ended=false:=by rw[h.en,decide_eq_false h3]
 have I:=J.mp;unfold Proofs.YtaamacoicojhnaaGreat.stepMg
 split
 ·exact⟨h.shu,rfl,λe=>by have e:(3:Nat)=2:=e;omega,h.wl,by simp[Hr];exact h.gl,h.ql,h.ol⟩
 ·rename_i N
  split
  ·rename_i h1
   unfold takeM
   split
   ·rename_i H r D
    have X:(r++[(none:Option (List AF))]).length=c.R:=by have:=h.gl;rw[D]at this;simp at this⊢;exact this
    split
    ·exact⟨h.shu,h.en,h.ml,h.wl,X,h.ql,h.ol⟩
    ·rename_i Z
     exact⟨h.shu,by show s.ended=decide ((2:Nat)=3);rw[V];rfl,λ_ e=>Z (by have e:H=[]:=e;rw[e];rfl),h.wl,X,h.ql,h.ol⟩
   ·exact⟨h.shu,rfl,λe=>by have e:(3:Nat)=2:=e;omega,h.wl,h.gl,h.ql,h.ol⟩
  ·rename_i h1
   have U:s.out.length<c.O:=by unfold EX at Y;rw[Lb h3,Lb N,Lb h1]at Y;exact Lj Y
   unfold flushM
   split
   ·exact h
   ·rename_i q l C
    refine⟨h.shu,?_,?_,h.wl,h.gl,h.ql,by show(s.out++[q]).length<=c.O;rw[List.length_append];exact U⟩
    ·show s.ended=decide ((if l.isEmpty then 1 else s.mph)=3);rw[V]
     split
     ·rfl
     ·rw[decide_eq_false h3]
    ·show(if l.isEmpty then 1 else s.mph)=2->l≠[]
     split
     ·intro e;omega
     ·rename_i Z
      intro _ e;exact Z (by rw[e];rfl)
theorem CD.stepE(h:CD c s):CD c (stepE c s):=by
 have Z:=h.ol;unfold Proofs.YtaamacoicojhnaaGreat.stepE offerE Fr
 split
 ·split
  ·exact⟨h.shu,h.en,h.ml,h.wl,h.gl,h.ql,h.ol⟩
  ·exact⟨h.shu,h.en,h.ml,h.wl,h.gl,h.ql,AR _⟩
 ·split
  ·exact⟨h.shu,h.en,h.ml,h.wl,h.gl,h.ql,h.ol⟩
  ·rename_i q l Y
   rw[Y]at Z
   split
   ·exact⟨h.shu,h.en,h.ml,h.wl,h.gl,h.ql,by show l.length<=c.O;simp at Z;omega⟩
   ·exact⟨h.shu,h.en,h.ml,h.wl,h.gl,h.ql,h.ol⟩
end
def Cv(X:Nat->Prop)(w:World)(v:Value)(xs:List Int):Prop:=
 ((v=slice none 0 0/\xs=[])∨∃g off c Z,v=slice (some ⟨g,off,none⟩) xs.length c/\X g/\w.heap[g]?=some (.cells Z 5 (0,0))/\xs.length<=c/\c<=maxLen/\off+c<=Z.size/\(Z.toList.drop off).take xs.length=xs.map (Value.int .u8))/\∀x∈xs,0<=x/\x<=255
section
variable {X Y:Nat->Prop}{w w':World}{v:Value}{xs:List Int}
theorem Cv.nil(X:Nat->Prop)(w:World):Cv X w (slice none 0 0) []:=⟨.inl ⟨rfl,rfl⟩,λx Z=>by cases Z⟩
theorem Cv.lt(h:Cv X w v xs):∀g,v.ownBlock=some g->g<w.heap.size/\X g:=λg Z=>by
 rcases h.1 with⟨rfl,_⟩|⟨g',off,c,N,rfl,V,U,_⟩
 ·cases Z
 ·cases Z
  exact⟨(AD.1 U).1,V⟩
theorem Cv.keep(h:Cv X w v xs)(J:Chg Y w w')(N:∀g,v.ownBlock=some g->¬Y g):Cv X w' v xs:=by refine⟨h.1.imp id ?_,h.2⟩;rintro⟨g,off,c,Z,rfl,U,V,r⟩;exact⟨g,off,c,Z,rfl,U,(J.block g (AD.1 V).1 (N g rfl)).trans V,r⟩
theorem Cv.wide(h:Cv X w v xs)(N:∀k,k<w.heap.size->X k->Y k):Cv Y w v xs:=by refine⟨h.1.imp id ?_,h.2⟩;rintro⟨g,off,c,Z,rfl,U,V,r⟩;exact⟨g,off,c,Z,rfl,N g (AD.1 V).1 U,V,r⟩
theorem Cv.shape(h:Cv X w v xs):∃a c,v=slice a xs.length c/\xs.length<=c/\Bys w a xs.length xs:=by
 rcases h.1 with⟨rfl,rfl⟩|⟨g,off,c,D,rfl,C,N,I,_,H,Z⟩
 ·exact⟨none,0,rfl,AC _,⟨rfl,.inl rfl⟩,h.2⟩
 ·refine⟨_,c,rfl,I,⟨rfl,.inr ⟨g,off,rfl,(AD.1 N).1,λi x U=>?_⟩⟩,h.2⟩;have J:(xs.map (Value.int .u8))[i]?=some (Value.int .u8 x):=by rw[BU,U];rfl
  have V:i<xs.length:=(AP.1 U).1;rw[<-Z,FT,Lc V,Hm,Array.getElem?_toList]at J;simp only[cell?,N];exact J
theorem Cv.cut{a:Option Addr}{n c:Nat}(h:Cv X w (slice a n c) xs)(k:Nat)(hk:k<=n):Cv X w (slice (if c=k then a else a.map (·.add k)) (n-k) (c-k)) (xs.drop k):=by
 refine⟨?_,λx J=>h.2 x (Iq J)⟩
 rcases h.1 with⟨h1,rfl⟩|⟨g,off,A,N,h1,J,H,D,B,C,Z⟩
 ·simp only[IL]at h1;obtain⟨rfl,rfl,rfl⟩:=h1;obtain rfl:k=0:=by omega
  exact .inl ⟨by simp,rfl⟩
 ·simp only[IL]at h1;obtain⟨rfl,rfl,rfl⟩:=h1;have V:(xs.drop k).length=xs.length-k:=List.length_drop
  by_cases U:c=k
  ·subst U;rw[Lc rfl];have I:xs.drop c=[]:=List.drop_eq_nil_of_le D;refine .inr ⟨g,off,0,N,?_,J,H,?_,AR _,by omega,?_⟩
   ·rw[I,show xs.length-c=0 by omega,FG];rfl
   ·rw[I];exact AC _
   ·rw[I];rfl
  ·rw[Lb U];refine .inr ⟨g,off+k,c-k,N,by rw[V,Dw,Cf],J,H,by omega,by omega,by omega,?_⟩;rw[V,List.map_drop,<-Z,List.drop_take,List.drop_drop]
theorem aaB{P:Program}(w:World)(t ty e:TypeId)(i:TypeInfo)(C:P.underlying t=some (.slice e))(A:P.info? e=some i)
  (g off V U:Nat) (N:Array Value) (z:w.heap[g]?=some (.cells N e (0,0)))
  (a:Addr) (m c:Nat) (Z:List Value) (B:Z.length=m*i.size) (I:∀j u,Z[j]?=some u->w.cell? (a.add j)=some u) (h1:∀u∈Z,u.oneCell'=true)
  (J:V+m<=U) (D:off+V*i.size+Z.length<=N.size) :
  (Builtin.append_ #[t,t] ty #[.slice (some ⟨g,off,none⟩) V U,.slice (some a) m c]).run P w =
   .ok (slice (some ⟨g,off,none⟩) (V+m) U) (w.setRow g (N.toList.take (off+V*i.size)++Z++N.toList.drop (off+V*i.size+Z.length)).toArray):=by
 have y:=run_firstCells_some (P:=P) w i.size m a m c Z B I;have H:=run_storeCells_at P g (off+V*i.size) e Z 0 N w z (by simpa using D) h1;simp only[DQ]at H;simp[Builtin.append_,run_underlying C,sizeOf,typeInfo,A,Builtin.lenOf,J,y,Addr.add_lit,H]
theorem ac1(w:World)(h:Cv X w v xs)(A:Option Addr)(m c:Nat)(C:List Int)(hB:Bys w A m C)(hb:xs.length+m<=1000000) :∃a' c' w',(Builtin.append_ #[32,32] 32 #[v,.slice A m c]).run ZP w=.ok (.slice a' (xs.length+m) c') w'/\Cv (λk=>X k∨w.heap.size<=k) w' (.slice a' (xs.length+m) c') (xs++C)/\w.grownBy w' v.ownBlock/\
   ((slice a' (xs.length+m) c').ownBlock=v.ownBlock∨(slice a' (xs.length+m) c').ownBlock=some w.heap.size):=by
 obtain⟨i,hi,s,J,y⟩:=Ve Gs;have I:C.length=m:=hB.1.1;have N:∀x∈xs++C,0<=x/\x<=255:=λx hx=>(Bf.1 hx).elim (h.2 x) (hB.2 x);have V:(xs++C).length=xs.length+m:=by rw[List.length_append,I]
 rcases h.1 with⟨rfl,rfl⟩|⟨g,off,B,Z,rfl,hx,z,hl,a1,aa,U⟩
 ·obtain⟨v1,W1,hr,ho,hg,a7⟩:=Gu (P:=ZP) w 0 32 32 5 i (.int .u8 0) 1 1 underlying32 hi s J y rfl (by decide) (.slice none 0 0) 0 [] (BN _ _ _ _) A m c (C.map (Value.int .u8)) (Jz hB.1) (λu H=>by obtain⟨x,_,rfl⟩:=Be.1 H;rfl) (by unfold maxLen;simp at hb;omega) (by simp at hb;omega) (AR _);obtain⟨a2,c2,rfl,ae,_⟩:=SlK.own ho;refine⟨a2,c2,W1,by simpa using hr,⟨?_,N⟩,hg,by simpa using a7⟩
  rcases ho.2 with⟨e,h0⟩|⟨g,cap,Z,e,_,z,h1,h2,h3,h4⟩
  ·simp only[IL]at e;obtain⟨rfl,e2,rfl⟩:=e
   left
   have:C=[]:=Bz om;subst this;refine⟨?_,rfl⟩;simp at I;simp[<-I]
  ·simp only[IL]at e;obtain⟨rfl,e2,rfl⟩:=e
   right
   refine⟨g,0,c2,Z,by simp[I],?_,z,by simpa[I]using h1,h2,by omega,?_⟩
   ·rcases a7 with e|e
    ·cases e
    ·right
     exact Gq (AK e).symm
   ·simp[I]at h4⊢;exact h4
 ·cases A with
  |none=>
   have h0:m=0:=hB.1.2.elim id λ⟨b,o,e,_⟩=>by cases e
   subst h0;have ac:C=[]:=Bz I;subst ac;refine⟨_,B,w,?_,⟨.inr ⟨g,off,B,Z,by simp,.inl hx,z,by simpa using hl,a1,aa,by simpa using U⟩,N⟩,World.grownBy.refl w _,.inl rfl⟩;simp[Builtin.append_,run_underlying underlying32,sizeOf,typeInfo,hi,Builtin.lenOf,Builtin.firstCells,hl,storeCells]
  |some ad=>
   have hs:=Jz hB.1
   by_cases D:xs.length+m<=B
   ·have a6:off+xs.length*i.size+(C.map (Value.int .u8)).length<=Z.size:=by rw[J,BP,I];omega
    have hr:=aaB (P:=ZP) w 32 32 5 i underlying32 hi g off xs.length B Z z ad m c (C.map (Value.int .u8)) (by rw[J,BP,I,Hk]) (λj u H=>hs.news j u H) (λu H=>by obtain⟨x,_,rfl⟩:=Be.1 H;rfl) D a6;refine⟨_,B,_,hr,⟨.inr ⟨g,off,B,_,by rw[V],.inl hx,setRow_heap w g Z _ _ _ z,by rw[V];exact D,a1,?_,?_⟩,N⟩,⟨rfl,rfl,rfl,by simp,λk _ hk=>setRow_other w g k _ (λe=>hk (by simp[Value.ownBlock,e]))⟩,.inl rfl⟩
    ·simp only[Cw,List.length_append,Ag,List.length_drop,Array.length_toList];omega
    ·have e2:off<=(Z.toList.take (off+xs.length)).length:=by have e3:Z.toList.length=Z.size:=Array.length_toList;rw[Ag];omega
     rw[V,J,Hk,CE,List.drop_append_of_le_length e2,Aj,List.drop_take];have e1:(Z.toList.drop off).take (off+xs.length-off)=xs.map (Value.int .u8):=by rw[Nat.add_sub_cancel_left];exact U
     rw[e1,<-CE];exact List.take_left' (by simp[I])
   ·have holds:∀j u,(xs.map (Value.int .u8))[j]?=some u->w.cell? ((⟨g,off,none⟩:Addr).add j)=some u:=λj u H=>by
     have hj:j<xs.length:=by have:=(AP.1 H).1;simpa using this
     rw[<-U,FT,Lc hj,Hm,Array.getElem?_toList]at H;rw[Cf];simp only[cell?,z];exact H
    have hr:=run_append_grow (P:=ZP) w 32 32 5 i (.int .u8 0) underlying32 hi s ⟨g,off,none⟩ xs.length B (xs.map (Value.int .u8)) (by rw[J,BP,Hk]) holds ad m c (C.map (Value.int .u8)) (by rw[J,BP,I,Hk]) (λj u H=>hs.news j u H) om om (growslice_fits om (by rw[y];omega));have a8:=grownCap_ge w (xs.length+m) B 5;have ab:=grownCap_le_maxLen w (xs.length+m) B 5 (by unfold maxLen;omega);refine⟨_,_,_,hr,⟨.inr ⟨w.heap.size,0,_,_,by rw[V],.inr (AC _),heap_alloc_new w.drew _,by rw[V];exact a8,ab,?_,?_⟩,N⟩,⟨rfl,rfl,rfl,by simp,λk hk _=>Bg w.drew _ k hk⟩,.inr rfl⟩
    ·have:(Value.int IntKind.u8 0).cells.size=1:=rfl;simp only[Array.size_append,Cw,size_zeroCells,BP,I,this,Hk];omega
    ·rw[V,List.drop_zero];simp only[Array.toList_append,Aj];exact List.take_left' (by simp[I])
end
def DM(X:Nat->Prop)(B U D size:Nat)(fr:List Int)(us:List Bool)(ds:La)(w:World):Prop:=∃Z Y V,BB X Z B U D Y V size fr us ds w
theorem am1{w:World}{e:TypeId}{a:Option Addr}{k c:Nat}{xs:List Value}(h:w.ownsRow 0 e 1 (slice a k c) k xs):w.ownsRow 0 e 1 (slice a 0 c) 0 []:=by
 rcases h.2 with⟨Z,h0⟩|⟨g,cap,Y,Z,h1,h2,h3,h4,h5,h6⟩
 ·cases Z
  exact⟨rfl,.inl ⟨rfl,rfl⟩⟩
 ·cases Z
  exact⟨rfl,.inr ⟨g,c,Y,rfl,h1,h2,AR _,h4,h5,by simp⟩⟩
theorem BB.cut0{X:Nat->Prop}{N:Nat->Nat}{B U D size:Nat}{x:Value}{Y:List Value}{fr:List Int}{us:List Bool}{ds:La}{w:World}(h:BB X N B U D x Y size fr us ds w)(n:Nat)(C:n<us.length) :∃a k c,Y[n]?=some (slice a k c)/\DM (λk=>X k∨w.heap.size<=k) B U D size fr us (ds.set n []) (w.setCell ⟨D,n,none⟩ (slice a 0 c))/\Chg X w (w.setCell ⟨D,n,none⟩ (slice a 0 c)):=by
 have Z:n<Y.length:=by rw[h.dl.1];exact C
 have J:n<ds.length:=by rw[h.dl.2];exact C
 obtain⟨I,s⟩:=h.rows n Y[n] ds[n] (Ar Z) (Ar J);obtain⟨a,c,e,_,_⟩:=SlK.own I.1;have H:=I.1;rw[e]at H;obtain⟨z,A,_,_⟩:=h.setD (v:=Y[n]) (v':=slice a 0 c) (xs':=[]) (V:=w) n (Ar Z) (am1 H) (Chg.refl _ _) (λg y=>.inl (by rw[e];cases a<;>exact y));exact⟨a,ds[n].length,c,by rw[Ar Z,e],⟨_,_,_,z⟩,A⟩
def aoa(X:Nat->Prop)(B U D size:Nat)(fr:List Int)(us:List Bool)(ds:La)(w:World)(e:Ending)(w':World):Prop:=
 e=.returned (.tuple #[.int .i64 (fr.getLast?.getD 0),.bool (!fr.isEmpty)])/\Chg X w w'/\
  if fr=[] then DM (λk=>X k∨w.heap.size<=k) B U D size fr us ds w' else DM (λk=>X k∨w.heap.size<=k) B U D size fr.dropLast (us.set (fr.getLast?.getD 0).toNat true) (ds.set (fr.getLast?.getD 0).toNat []) w'
theorem afw{X:Nat->Prop}{B U D size:Nat}{fr:List Int}{us:List Bool}{ds:La}(w:World)(h:DM X B U D size fr us ds w)(hn:fr.length<=1000000)(hf:∀x∈fr,0<=x/\x<us.length) :Calls ZP 190 #[pointer (some ⟨B,0,none⟩)] w (aoa X B U D size fr us ds w):=by
 obtain⟨a8,fv,dv,h⟩:=h;have HP:=AA (aig w h hn)
 rcases List.eq_nil_or_concat fr with rfl|⟨l,x,rfl⟩
 ·clear h hf hn;go_enter func190,ntmps190
  go_wp2_with (go_at_call 232;refine HP.out.mono ?_;rintro e C ⟨rfl,⟨fv',Z,V⟩,H⟩;have HB:=AA V;have HC:=AA H;clear V H)
  go_ret2;exact⟨rfl,HC.out,by rw[Lc rfl];exact⟨_,_,_,HB.out⟩⟩
 ·rw[List.concat_eq_append]at *;have e1:(l++[x]).getLast?.getD 0=x:=by simp
  have e2:(!(l++[x]).isEmpty)=true:=by simp
  have e3:(l++[x]).dropLast=l:=by simp
  obtain⟨x0,x1⟩:=hf x sm;obtain⟨n,rfl⟩:=Mb x0;have y:n<us.length:=by omega
  have a7:Hid (l++[(n:Int)]≠[]):=by simp[Hid]
  have HE:=AA (Lq e1 e3);unfold api at HP;rw[e1,e2,e3]at HP;obtain⟨L,hL⟩:∃L,us.length=L:=⟨_,rfl⟩;have i0:(0:Int)<=(n:Int):=x0;have i1:(n:Int)<(L:Int):=by omega
  have HL:=AA hL;have I:=AA y;clear h hf hn e1 e2 e3 hL y x0 x1;go_enter func190,ntmps190;go_upto_region 6 with(go_at_call 232;refine HP.out.mono ?_;rintro e C ⟨rfl,⟨fv',Z,V⟩,H⟩)
  obtain⟨u1,u2⟩:=V.setU n true;have c2:C.cell? ⟨B,2,none⟩=some (slice (some ⟨U,0,none⟩) L L):=by have:=HL.out;simp[cell?,V.box,this]
  have f2:C.frozen? ⟨U,n,none⟩=false:=by simp[frozen?,V.used]
  have g2:C.cell? ⟨U,n,none⟩=some (bool (us[n]'I.out)):=by simp[cell?,V.used,I.out]
  obtain⟨J,N⟩:∃W,W=C.setCell ⟨U,n,none⟩ (bool true):=⟨_,rfl⟩;rw[<-N]at u1 u2;have j:BB (λk=>X k∨w.heap.size<=k) Z B U D fv' dv size l (us.set n true) ds J.drew:=u1.keep (Y:=λ_=>False) (.of_same (AN J 1)) λ_ _ _ h=>h;obtain⟨a,k,c,q1,q2,q3⟩:=j.cut0 n (by rw[BG];exact I.out);have s:(us.set n true).length=L:=by rw[BG];exact HL.out
  have c3:J.cell? ⟨B,3,none⟩=some (slice (some ⟨D,0,none⟩) L L):=by simp[cell?,u1.box,s]
  have f3:J.frozen? ⟨D,n,none⟩=false:=by simp[frozen?,u1.data]
  have g3:J.cell? ⟨D,n,none⟩=some (slice a k c):=by simp[cell?,u1.data];exact q1
  have k0:0<=k:=AR _;have Q2:=AA q2;have Q3:=AA ((H.trans ((u2.same (AN J 1)).then q3) (λi hi hx=>hx.elim id λh=>by omega)));have z:w.heap.size<=J.drew.heap.size:=AS H.size u2.size;have a6:=AA z;clear V H u1 u2 j q1 q2 q3 s z;go_upto_region 7 with fail
  rw[<-N];clear N c2 f2 g2
  go_region
  go_wp2;go_ret2;unfold aoa;rw[HE.out.1,HE.out.2,Lb a7.out];refine⟨by simp,Q3.out,?_⟩;obtain⟨A,a1,a2,hq⟩:=Q2.out;exact⟨A,a1,a2,hq.wide λi _ hx=>hx.elim id λh=>.inr (AS a6.out h)⟩
structure PcW where
 num:Int
 start:Int
 warm:Int
 a:Option Addr
 m:Nat
 c:Nat
 buf:Int
def Lf(p:PcW):List Value:=[int i64 p.num,int i64 p.start,int i64 p.warm,slice p.a p.m p.c,int i64 p.buf]
def EY(l:List PcW):List Value:=l.flatMap Lf
theorem NN(p:PcW)(l:List PcW):EY (p::l)=Lf p++EY l:=by simp[EY]
theorem ag4:∀{l:List PcW}{i:Nat}{p:PcW},l[i]?=some p->(EY l)[i*5]?=some (int i64 p.num)/\(EY l)[i*5+1]?=some (int i64 p.start)/\(EY l)[i*5+2]?=some (int i64 p.warm)/\(EY l)[i*5+3]?=some (slice p.a p.m p.c)/\(EY l)[i*5+4]?=some (int i64 p.buf)
 |[],i,p,h=>by simp at h
 |q::l,0,p,h=>by
  cases AK h
  exact⟨rfl,rfl,rfl,rfl,rfl⟩
 |q::l,i+1,p,h=>by have:=ag4 (l:=l) (i:=i) (p:=p) (by simpa using h);rw[NN,show(i+1)*5=i*5+1+1+1+1+1 by omega];exact this
theorem agr:∀(l:List PcW)(i:Nat)(p:PcW),EY (l.set i p)=(((((EY l).set (i*5) (int i64 p.num)).set (i*5+1) (int i64 p.start)).set (i*5+2) (int i64 p.warm)).set (i*5+3) (slice p.a p.m p.c)).set (i*5+4) (int i64 p.buf)
 |[],i,p=>by simp[EY]
 |q::l,0,p=>by simp[NN,Lf]
 |q::l,i+1,p=>by
  have:=agr l i p;rw[List.set_cons_succ,NN,NN,this,show(i+1)*5=i*5+1+1+1+1+1 by omega]
  rfl
structure Ab(X:Nat->Prop)(Q B first many:Nat)(closed:Bool)(ps:List PcW)(w:World):Prop where
 box:w.heap[Q]?=some (.cells #[slice (some ⟨B,0,none⟩) ps.length ps.length,int i64 (first:Int),int i64 (many:Int),bool closed] 214 (0,0))
 places:w.heap[B]?=some (.cells (EY ps).toArray 126 (0,0))
 inX:X Q/\X B
 ne:Q≠B
 room:1<=ps.length/\ps.length<=16/\first<ps.length/\many<=ps.length
section
variable {X Y:Nat->Prop}{Q B first many:Nat}{closed:Bool}{ps:List PcW}{w w':World}
theorem Ab.keep(h:Ab X Q B first many closed ps w)(N:Chg Y w w')(U:∀k,k<w.heap.size->X k->¬Y k):Ab X Q B first many closed ps w':=by have Z:∀k o,w.heap[k]?=some o->X k->w'.heap[k]?=some o:=λk o hk V=>(N.block k (AD.1 hk).1 (U k (AD.1 hk).1 V)).trans hk;exact⟨Z _ _ h.box h.inX.1,Z _ _ h.places h.inX.2,h.inX,h.ne,h.room⟩
theorem Ab.below(h:Ab X Q B first many closed ps w)(Z:Bt w w'):Ab X Q B first many closed ps w':=h.keep (Y:=λ_=>False) (.of_same Z) λ_ _ _ h=>h
theorem Ab.wide(h:Ab X Q B first many closed ps w)(Z:∀k,k<w.heap.size->X k->Y k):Ab Y Q B first many closed ps w:=⟨h.box,h.places,⟨Z _ (AD.1 h.box).1 h.inX.1,Z _ (AD.1 h.places).1 h.inX.2⟩,h.ne,h.room⟩
def Ab.putW(w:World)(B i:Nat)(p:PcW):World:=((((w.setCell ⟨B,i*5,none⟩ (int i64 p.num)).setCell ⟨B,i*5+1,none⟩ (int i64 p.start)).setCell ⟨B,i*5+2,none⟩ (int i64 p.warm)).setCell ⟨B,i*5+3,none⟩ (slice p.a p.m p.c)).setCell ⟨B,i*5+4,none⟩ (int i64 p.buf)
theorem Ab.setP(h:Ab X Q B first many closed ps w)(i:Nat)(p:PcW):Ab X Q B first many closed (ps.set i p) (Ab.putW w B i p)/\Chg X w (Ab.putW w B i p):=by
 have h0:=h.places;have h1:=AJ (i:=i*5) h0 (int i64 p.num);have h2:=AJ (i:=i*5+1) h1 (int i64 p.start);have h3:=AJ (i:=i*5+2) h2 (int i64 p.warm);have h4:=AJ (i:=i*5+3) h3 (slice p.a p.m p.c);have h5:=AJ (i:=i*5+4) h4 (int i64 p.buf);rw[Fp,Fp,Fp,Fp,Fp,<-agr]at h5;have Z:Chg (λk=>k=B) w (Ab.putW w B i p):=by unfold Ab.putW;exact(((((Chg.refl (λk=>k=B) w).set (show B=B from rfl)).set (show B=B from rfl)).set (show B=B from rfl)).set (show B=B from rfl)).set (show B=B from rfl)
 have V:(Ab.putW w B i p).heap[Q]?=w.heap[Q]?:=Z.block Q (AD.1 h.box).1 h.ne;exact⟨⟨by rw[BG];exact V.trans h.box,h5,h.inX,h.ne,by rw[BG];exact h.room⟩,Z.mono λk _ e=>by rw[e];exact h.inX.2⟩
theorem Ab.setM(h:Ab X Q B first many closed ps w)(Z:Nat)(V:Z<=ps.length):Ab X Q B first Z closed ps (w.setCell ⟨Q,2,none⟩ (int i64 (Z:Int)))/\Chg X w (w.setCell ⟨Q,2,none⟩ (int i64 (Z:Int))):=⟨⟨AJ (i:=2) h.box _,(AQ w ⟨Q,2,none⟩ _ B h.ne.symm).trans h.places,h.inX,h.ne,h.room.1,h.room.2.1,h.room.2.2.1,V⟩,(Chg.refl X w).set h.inX.1⟩
theorem Ab.setF(h:Ab X Q B first many closed ps w)(Z:Nat)(V:Z<ps.length):Ab X Q B Z many closed ps (w.setCell ⟨Q,1,none⟩ (int i64 (Z:Int)))/\Chg X w (w.setCell ⟨Q,1,none⟩ (int i64 (Z:Int))):=⟨⟨AJ (i:=1) h.box _,(AQ w ⟨Q,1,none⟩ _ B h.ne.symm).trans h.places,h.inX,h.ne,h.room.1,h.room.2.1,V,h.room.2.2.2⟩,(Chg.refl X w).set h.inX.1⟩
theorem Ab.setC(h:Ab X Q B first many closed ps w)(c2:Bool):Ab X Q B first many c2 ps (w.setCell ⟨Q,3,none⟩ (bool c2))/\Chg X w (w.setCell ⟨Q,3,none⟩ (bool c2)):=⟨⟨AJ (i:=3) h.box _,(AQ w ⟨Q,3,none⟩ _ B h.ne.symm).trans h.places,h.inX,h.ne,h.room⟩,(Chg.refl X w).set h.inX.1⟩
end
theorem adS{X:Nat->Prop}{Q B first many:Nat}{closed:Bool}{ps:List PcW}(w:World)(h:Ab X Q B first many closed ps w) :Calls ZP 237 #[pointer (some ⟨Q,0,none⟩)] w λe w'=>e=.returned (int i64 ((ps.length-many:Nat):Int))/\Bt w w':=by
 have c0:w.cell? ⟨Q,0,none⟩=some (slice (some ⟨B,0,none⟩) ps.length ps.length):=by simp[cell?,h.box]
 have c2:w.cell? ⟨Q,2,none⟩=some (int i64 (many:Int)):=by simp[cell?,h.box]
 have J:=AA (λq=>AN w q);have N:=h.room;have U:IntKind.i64.wrap ((ps.length:Int)-(many:Int))=((ps.length-many:Nat):Int):=by rw[BK];omega
 obtain⟨L,V⟩:∃L,ps.length=L:=⟨_,rfl⟩;rw[V]at c0 U⊢;obtain⟨M,Z⟩:∃M,L-many=M:=⟨_,rfl⟩;rw[Z]at U⊢;clear h N V Z;go_enter func237,ntmps237;go_upto_region 1 with fail
 go_big_quiet (fail)
 go_wp2;go_ret;exact⟨rfl,J.out _⟩
theorem afj{X:Nat->Prop}{Q B first many:Nat}{closed:Bool}{ps:List PcW}(w:World)(h:Ab X Q B first many closed ps w) :Calls ZP 71 #[pointer (some ⟨Q,0,none⟩)] w λe w'=>e=.returned (bool closed)/\Bt w w':=by
 have c0:w.cell? ⟨Q,3,none⟩=some (bool closed):=by simp[cell?,h.box]
 clear h;go_enter func71,ntmps71;go_wp2;go_ret;exact⟨rfl,AH _ _⟩
theorem amG{X:Nat->Prop}{Q B first many:Nat}{closed:Bool}{ps:List PcW}(w:World)(h:Ab X Q B first many closed ps w) :Calls ZP 198 #[pointer (some ⟨Q,0,none⟩)] w λe w'=>e=.returned (int i64 (many:Int))/\Bt w w':=by
 have c0:w.cell? ⟨Q,2,none⟩=some (int i64 (many:Int)):=by simp[cell?,h.box]
 clear h;go_enter func198,ntmps198;go_wp2;go_ret;exact⟨rfl,AH _ _⟩
theorem aiC{X:Nat->Prop}{Q B first many:Nat}{closed:Bool}{ps:List PcW}(w:World)(h:Ab X Q B first many closed ps w) :Calls ZP 194 #[pointer (some ⟨Q,0,none⟩)] w λe w'=>e=.returned (int i64 ((ps.length-many:Nat):Int))/\Bt w w':=by
 have V:=AA (adS w h);clear h;go_enter func194,ntmps194
 go_wp2_with (go_at_call 237;refine V.out.mono ?_;rintro e N ⟨rfl,Z⟩;have U:=AA Z;clear Z)
 go_ret;exact⟨rfl,U.out⟩
theorem ahs{X:Nat->Prop}{Q B first many:Nat}{closed:Bool}{ps:List PcW}(w:World)(h:Ab X Q B first many closed ps w) :Calls ZP 197 #[pointer (some ⟨Q,0,none⟩)] w λe w'=>e=.returned (bool (!closed))/\Ab X Q B first many true ps w'/\Chg X w w':=by
 have c3:w.cell? ⟨Q,3,none⟩=some (bool closed):=by simp[cell?,h.box]
 have I:w.frozen? ⟨Q,3,none⟩=false:=by simp[frozen?,h.box]
 obtain⟨V,Z⟩:=h.setC true;have J:=AA V;have N:=AA Z;have U:=AA h;clear h V Z
 cases closed with
 |true=>
  go_enter func197,ntmps197;go_wp2;go_ret;exact⟨rfl,U.out,Chg.refl _ _⟩
 |false=>
  go_enter func197,ntmps197;go_wp2;go_ret;exact⟨rfl,J.out,N.out⟩
theorem ais{X:Nat->Prop}{Q B first many:Nat}{closed:Bool}{ps:List PcW}(p:PcW)(w:World)(h:Ab X Q B first many closed ps w)(hm:many<ps.length) :Calls ZP 239 #[pointer (some ⟨Q,0,none⟩),.agg #[int i64 p.num,int i64 p.start,int i64 p.warm,slice p.a p.m p.c,int i64 p.buf]] w λe w'=>(∃v,e=.returned v)/\Ab X Q B first (many+1) closed (ps.set ((first+many) % ps.length) p) w'/\Chg X w w':=by
 obtain⟨W,hW⟩:∃W,W=w.alloc (.cells #[int i64 p.num,int i64 p.start,int i64 p.warm,slice p.a p.m p.c,int i64 p.buf] 126):=⟨_,rfl⟩;have hB:Bt w W:=by rw[hW];exact AL _ _
 have Z:=h.below hB;have U:W.heap[w.heap.size]?=some (.cells #[int i64 p.num,int i64 p.start,int i64 p.warm,slice p.a p.m p.c,int i64 p.buf] 126 (0,0)):=by rw[hW];exact AT _ _
 have x0:W.cell? ⟨w.heap.size,0,none⟩=some (int i64 p.num):=by simp[cell?,U]
 have x1:W.cell? ⟨w.heap.size,1,none⟩=some (int i64 p.start):=by simp[cell?,U]
 have x2:W.cell? ⟨w.heap.size,2,none⟩=some (int i64 p.warm):=by simp[cell?,U]
 have x3:W.cell? ⟨w.heap.size,3,none⟩=some (slice p.a p.m p.c):=by simp[cell?,U]
 have x4:W.cell? ⟨w.heap.size,4,none⟩=some (int i64 p.buf):=by simp[cell?,U]
 have c0:W.cell? ⟨Q,0,none⟩=some (slice (some ⟨B,0,none⟩) ps.length ps.length):=by simp[cell?,Z.box]
 have c1:W.cell? ⟨Q,1,none⟩=some (int i64 (first:Int)):=by simp[cell?,Z.box]
 have c2:W.cell? ⟨Q,2,none⟩=some (int i64 (many:Int)):=by simp[cell?,Z.box]
 obtain⟨r1,r2,r3,r4⟩:=h.room;obtain⟨L,hL⟩:∃L,ps.length=L:=⟨_,rfl⟩;have e1:IntKind.i64.wrap ((first:Int)+(many:Int))=((first+many:Nat):Int):=by rw[BK];omega
 have e2:((first+many:Nat):Int).tmod (L:Int)=(((first+many) % L:Nat):Int):=by rw[Jq om];simp
 have J:(first+many) % L<L:=Ek _ om;obtain⟨s,j⟩:∃s,first+many=s:=⟨_,rfl⟩;obtain⟨i,hi⟩:∃i,s % L=i:=⟨_,rfl⟩;rw[hL]at c0⊢;rw[j]at e1 e2 J⊢;rw[hi]at e2 J⊢;have i0:(0:Int)<=(i:Int):=by omega
 have i1:(i:Int)<(L:Int):=by omega
 have z0:¬(L:Int)=0:=by omega
 have z1:¬L=0:=by omega
 obtain⟨q,hq⟩:∃q,ps[i]?=some q:=⟨_,Ar om⟩;obtain⟨x,y,z,A,C⟩:=ag4 hq;have d0:W.cell? ⟨B,i*5,none⟩=some (int i64 q.num):=by simp[cell?,Z.places];exact x
 have f0:W.frozen? ⟨B,i*5,none⟩=false:=by simp[frozen?,Z.places]
 have d1:W.cell? ⟨B,i*5+1,none⟩=some (int i64 q.start):=by simp[cell?,Z.places];exact y
 have f1:W.frozen? ⟨B,i*5+1,none⟩=false:=by simp[frozen?,Z.places]
 have d2:W.cell? ⟨B,i*5+2,none⟩=some (int i64 q.warm):=by simp[cell?,Z.places];exact z
 have f2:W.frozen? ⟨B,i*5+2,none⟩=false:=by simp[frozen?,Z.places]
 have d3:W.cell? ⟨B,i*5+3,none⟩=some (slice q.a q.m q.c):=by simp[cell?,Z.places];exact A
 have f3:W.frozen? ⟨B,i*5+3,none⟩=false:=by simp[frozen?,Z.places]
 have d4:W.cell? ⟨B,i*5+4,none⟩=some (int i64 q.buf):=by simp[cell?,Z.places];exact C
 have f4:W.frozen? ⟨B,i*5+4,none⟩=false:=by simp[frozen?,Z.places]
 have H:Ab X Q B first many closed ps W.drew:=Z.below (AN W 1);obtain⟨N,D⟩:=H.setP i p;obtain⟨V,I⟩:∃V,V=(Ab.putW W B i p).drew:=⟨_,rfl⟩;have N:Ab X Q B first many closed (ps.set i p) V:=by rw[I];exact N
 have D:Chg X W V:=by rw[I];exact(Chg.of_same (AN W 1)).then D
 have k2:V.cell? ⟨Q,2,none⟩=some (int i64 (many:Int)):=by simp[cell?,N.box]
 have l2:V.frozen? ⟨Q,2,none⟩=false:=by simp[frozen?,N.box]
 have ew:IntKind.i64.wrap ((many:Int)+1)=(many:Int)+1:=by rw[BK];omega
 obtain⟨s1,s2⟩:=N.setM (many+1) (by rw[BG];omega);have S1:=AA s1;have S2:=AA (((Chg.of_same hB).then D).then s2);unfold Ab.putW at I;clear h Z U hL j hi hq x y z A C H N D s1 s2 r1 r2 r3 r4 hB;go_enter func239,ntmps239;go_upto_region 1 with fail
 rw[<-hW];clear hW
 go_region
 rw[<-I];clear I c0 c1 c2 d0 f0 x0 d1 f1 x1 d2 f2 x2 d3 f3 x3 d4 f4 x4;go_wp2
 go_end0
 exact⟨⟨_,rfl⟩,S1.out,S2.out⟩
structure PAd where
 P:Nat
 m:Nat
 S:Nat
 Kk:Nat
 Bb:Nat
 Bu:Nat
 Bd:Nat
 Q:Nat
 QB:Nat
 G:Nat
 GB:Nat
 O:Nat
 OB:Nat
 TT:Nat
 tc:Nat
 R:Nat
 Wk:Nat->Nat
 M:Nat
 E:Nat
 mR:Nat
 mW:Nat->Nat
 mM:Nat
 mE:Nat
 q:Nat
 Wm:World
def mvP(f r:Nat):Value:=.func (.func f) #[pointer (some ⟨r,0,none⟩)] #[]
def He:Value:=.func (.func 141) #[] #[]
def Hg(U V:Value):Value:=.agg #[U,V]
def ES(w:World)(r:Nat)(f:Nat->Option Value):Prop:=∃es V,w.heap[r]?=some (.map es V)/\∀k v,f k=some v->∃i,Instr.findNow (.int .u8) (.int .u8 (k:Int)) es.toList 0=some (some (i,v))
def EO(P at_ V mp:Nat)(N U:Value):List Value:=[pointer (some ⟨P,0,none⟩),.int .u8 (at_:Int),.int .u8 (V:Int),.map (some mp),N,U]
def SlD(Z:Nat->Prop)(w:World)(a:Option Addr)(m:Nat)(h:List AF):Prop:=SlK 2 w a m (AV h)/\(m≠0->∀q,a=some q->Z q.block)
def ByD(Z:Nat->Prop)(w:World)(a:Option Addr)(m:Nat)(h:List Int):Prop:=Bys w a m h/\(m≠0->∀q,a=some q->Z q.block)
def PcD(Z:Nat->Prop)(w:World)(p:PcW)(b:Bc):Prop:=p.num=b.num/\p.start=b.start/\p.warm=b.warm/\p.buf=b.buf/\ByD Z w p.a p.m b.data
def RgD(Z:Nat->Prop)(w:World)(p:PlW)(x:Option (List AF)):Prop:=match x with
 |none=>p.2=false
 |some h=>p.2=true/\SlD Z w p.1.1 p.1.2.1 h/\p.1.2.1<=p.1.2.2
def EK(A:PAd)(c:CfM)(s:PlM)(V:Value):Array Value:=
 #[pointer (some ⟨A.m,0,none⟩),int i64 (c.W:Int),int i64 (c.K:Int),int i64 (c.R:Int),int i64 (c.Q:Int),int i64 (c.O:Int),int i64 (c.S:Int),int i64 (c.F:Int),int i64 (c.wm:Int),
  pointer (some ⟨A.S,0,none⟩),pointer (some ⟨A.Kk,0,none⟩),pointer (some ⟨A.Bb,0,none⟩),pointer (some ⟨A.Q,0,none⟩),pointer (some ⟨A.G,0,none⟩),pointer (some ⟨A.O,0,none⟩),
  slice (some ⟨A.TT,0,none⟩) (c.W+3) A.tc,int i64 (s.number:Int),int i64 (s.read:Int),V,bool s.cancelled]
def rdV(A:PAd)(r:RdM)(V:Value):Array Value:=
 (EO A.P r.ph 5 A.mR He (mvP 146 A.R)++[bool r.holds,int i64 (r.buf:Int),int i64 (r.warm:Int),int i64 (r.own:Int),int i64 (r.ahead:Int),V,bool r.ended]).toArray
def wkV(A:PAd)(i:Nat)(x:WkM)(p:PcW)(V:Value):Array Value:=
 (EO A.P x.ph 4 (A.mW i) (mvP 151 (A.Wk i)) (mvP 152 (A.Wk i))++Lf p++[int i64 (x.node:Int),int i64 (x.done:Int),V]).toArray
def mgV(A:PAd)(ph:Nat)(V:Value):Array Value:=(EO A.P ph 3 A.mM He (mvP 157 A.M)++[V]).toArray
def emV(A:PAd)(ph:Nat):Array Value:=(EO A.P ph 2 A.mE (mvP 158 A.E) (mvP 160 A.E)).toArray
def stR(A:PAd):Nat->Option Value
 |1=>some (Hg (mvP 139 A.R) (mvP 140 A.R))
 |2=>some (Hg He (mvP 142 A.R))
 |3=>some (Hg (mvP 143 A.R) (mvP 144 A.R))
 |4=>some (Hg He (mvP 145 A.R))
 |_=>none
def stW(A:PAd)(i:Nat):Nat->Option Value
 |1=>some (Hg (mvP 147 (A.Wk i)) (mvP 148 (A.Wk i)))
 |2=>some (Hg He (mvP 149 (A.Wk i)))
 |3=>some (Hg He (mvP 150 (A.Wk i)))
 |_=>none
def stM(A:PAd):Nat->Option Value
 |1=>some (Hg (mvP 153 A.M) (mvP 154 A.M))
 |2=>some (Hg (mvP 155 A.M) (mvP 156 A.M))
 |_=>none
def stE(A:PAd):Nat->Option Value
 |1=>some (Hg (mvP 158 A.E) (mvP 159 A.E))
 |_=>none
def Mo(A:PAd)(c:CfM)(t:Nat):Value:=
 if t=0 then .iface 175 (pointer (some ⟨A.R,0,none⟩)) else if t<=c.W then .iface 177 (pointer (some ⟨A.Wk (t-1),0,none⟩)) else if t=c.W+1 then .iface 179 (pointer (some ⟨A.M,0,none⟩)) else .iface 181 (pointer (some ⟨A.E,0,none⟩))
def Fk(q:Nat)(W V:World):Prop:=W.heap.size<=V.heap.size/\∀k,q<=k->k<W.heap.size->(∀l,W.heap[k]?≠some (Obj.deferred l))->V.heap[k]?=W.heap[k]?
def Nz(m:Nat)(c:CfM)(V:World):Prop:=∀(J U wm:Nat)(b:Option Addr)(n I:Nat)(N:List Int)(z d:Nat),Bys V b n N->n<=900000->
 Calls ZP 200 #[pointer (some ⟨m,0,none⟩),.agg #[int i64 (J:Int),int i64 (U:Int),int i64 (wm:Int),slice b n I],.agg #[int i64 (z:Int),int i64 (d:Int)],int i64 (c.S:Int)] V λe w'=>
  ∃v,e=.returned (.tuple #[.agg #[int i64 ((c.scan U wm N z d).1:Int),int i64 ((c.scan U wm N z d).2.1:Int)],v,bool (c.scan U wm N z d).2.2.2])/\Ax w' V.heap.size v (c.scan U wm N z d).2.2.1/\Bt V w'
section
variable (A:PAd)(c:CfM)(s:PlM)(X Z:Nat->Prop)(w:World)
structure MO:Prop where
 tasks:∀t,t<c.W+3->w.cell? ⟨A.TT,t,none⟩=some (Mo A c t)
 tasksZ:Z A.TT/\A.TT<w.heap.size
 mR:ES w A.mR (stR A)/\Z A.mR
 mW:∀i,i<c.W->ES w (A.mW i) (stW A i)/\Z (A.mW i)
 mM:ES w A.mM (stM A)/\Z A.mM
 mE:ES w A.mE (stE A)/\Z A.mE
 mach:(∀V,Fk A.q A.Wm V->Nz A.m c V)/\Fk A.q A.Wm w/\∀k,A.q<=k->k<A.Wm.heap.size->Z k
 tc:c.W+3<=A.tc
def MN:Prop:=∃V,w.heap[A.P]?=some (.cells (EK A c s V) 109 (0,0))/\X A.P/\CO X w 116 2 V s.took.length (AV s.took)/\V.ownBlock≠some A.P
def MM:Prop:=∃a n U V,BY X A.S a n U V s.rs c.br s.told w/\n<=1000000
def LB:Prop:=∃a n U V,CN X A.Kk a n U V c.ans s.tk s.off w
def Ik:Prop:=DM X A.Bb A.Bu A.Bd (c.K+c.wm) (s.fr.map λx:Nat=>(x:Int)) s.us s.ds w
def Gm:Prop:=∃first V,Ab X A.Q A.QB first s.q.length s.shut V w/\V.length=c.Q/\∀i b,s.q[i]?=some b->∃p,V[(first+i) % c.Q]?=some p/\PcD Z w p b
def Gl:Prop:=∃V,BZ X A.G A.GB s.next V w/\V.length=c.R/\s.rg.length=c.R/\∀i x,s.rg[i]?=some x->∃p,V[(s.next+i) % c.R]?=some p/\RgD Z w p x
def GN:Prop:=∃first V,AY X A.O A.OB first s.out.length s.ended V w/\V.length=c.O/\∀i h,s.out[i]?=some h->V[(first+i) % c.O]?=some h
def LA:Prop:=∃V,w.heap[A.R]?=some (.cells (rdV A s.rd V) 245 (0,0))/\X A.R/\Cv X w V s.rd.tail/\V.ownBlock≠some A.R
def Nx:Prop:=∃a m V,w.heap[A.M]?=some (.cells (mgV A s.mph (slice a m V)) 251 (0,0))/\X A.M/\SlD Z w a m s.left/\m<=V
def Ny:Prop:=w.heap[A.E]?=some (.cells (emV A s.eph) 253 (0,0))/\X A.E
def CP(i:Nat):Prop:=match s.wk[i]? with
 |none=>True
 |some x=>∃p V,w.heap[A.Wk i]?=some (.cells (wkV A i x p V) 249 (0,0))/\X (A.Wk i)/\PcD Z w p x.blk/\CO (λk=>X k∨Z k) w 116 2 V x.hits.length (AV x.hits)/\V.ownBlock≠some (A.Wk i)/\(x.ph≠3->∀g,V.ownBlock=some g->X g)
def Ai:Nat->Prop
 |0=>MO A c Z w
 |1=>MN A c s X w
 |2=>MM A c s X w
 |3=>LB A c s X w
 |4=>Ik A c s X w
 |5=>Gm A c s X Z w
 |6=>Gl A c s X Z w
 |7=>GN A c s X w
 |8=>LA A s X w
 |9=>Nx A s X Z w
 |10=>Ny A s X w
 |i+11=>CP A s X Z w i
end
section
variable {A:PAd}{c:CfM}{s s':PlM}{X X' Y Z Z':Nat->Prop}{w w':World}
theorem ES.keep{r:Nat}{f:Nat->Option Value}(h:ES w r f)(U:Chg Y w w')(V:¬Y r):ES w' r f:=by obtain⟨es,N,h1,h2⟩:=h;exact⟨es,N,(U.block r (AD.1 h1).1 V).trans h1,h2⟩
theorem SlD.keep{a:Option Addr}{m:Nat}{h:List AF}(V:SlD Z w a m h)(N:Chg Y w w')(J:∀k,k<w.heap.size->Z k->¬Y k):SlD Z w' a m h:=by
 refine⟨⟨V.1.1,?_⟩,V.2⟩
 by_cases h0:m=0
 ·exact .inl h0
 ·obtain⟨b,o,e,U,I⟩:=V.1.2.resolve_left h0;refine .inr ⟨b,o,e,Af U N.size,λi u H=>?_⟩;have D:w'.heap[b]?=w.heap[b]?:=N.block b U (J b U (V.2 h0 _ e));rw[BC (a:=⟨b,o+i,none⟩) D];exact I i u H
theorem ByD.keep{a:Option Addr}{m:Nat}{h:List Int}(V:ByD Z w a m h)(U:Chg Y w w')(N:∀k,k<w.heap.size->Z k->¬Y k):ByD Z w' a m h:=⟨V.1.same U.size λh0 q e=>U.block _ (V.1.lt h0 q e) (N _ (V.1.lt h0 q e) (V.2 h0 q e)),V.2⟩
theorem SlD.lt{a:Option Addr}{m:Nat}{h:List AF}(V:SlD Z w a m h)(h0:m≠0):∀q,a=some q->q.block<w.heap.size:=λq U=>by
 obtain⟨g,o,e,N,_⟩:=V.1.2.resolve_left h0;rw[U]at e
 cases AK e
 exact N
theorem SlD.wide{a:Option Addr}{m:Nat}{h:List AF}(V:SlD Z w a m h)(U:∀k,k<w.heap.size->Z k->Z' k):SlD Z' w a m h:=⟨V.1,λh0 q e=>U _ (V.lt h0 q e) (V.2 h0 q e)⟩
theorem ByD.wide{a:Option Addr}{m:Nat}{h:List Int}(V:ByD Z w a m h)(U:∀k,k<w.heap.size->Z k->Z' k):ByD Z' w a m h:=⟨V.1,λh0 q e=>U _ (V.1.lt h0 q e) (V.2 h0 q e)⟩
theorem PcD.keep{p:PcW}{b:Bc}(h:PcD Z w p b)(U:Chg Y w w')(V:∀k,k<w.heap.size->Z k->¬Y k):PcD Z w' p b:=⟨h.1,h.2.1,h.2.2.1,h.2.2.2.1,h.2.2.2.2.keep U V⟩
theorem PcD.wide{p:PcW}{b:Bc}(h:PcD Z w p b)(V:∀k,k<w.heap.size->Z k->Z' k):PcD Z' w p b:=⟨h.1,h.2.1,h.2.2.1,h.2.2.2.1,h.2.2.2.2.wide V⟩
theorem RgD.keep{p:PlW}{x:Option (List AF)}(h:RgD Z w p x)(U:Chg Y w w')(V:∀k,k<w.heap.size->Z k->¬Y k):RgD Z w' p x:=by
 cases x with
 |none=>exact h
 |some l=>exact⟨h.1,h.2.1.keep U V,h.2.2⟩
theorem RgD.wide{p:PlW}{x:Option (List AF)}(h:RgD Z w p x)(V:∀k,k<w.heap.size->Z k->Z' k):RgD Z' w p x:=by
 cases x with
 |none=>exact h
 |some l=>exact⟨h.1,h.2.1.wide V,h.2.2⟩
theorem Ai.keep{t:Nat}(h:Ai A c s X Z w t)(V:Chg Y w w')(N:∀k,k<w.heap.size->X k->¬Y k)(U:∀k,k<w.heap.size->Z k->¬Y k):Ai A c s X Z w' t:=by
 have D:∀k o,w.heap[k]?=some o->X k->w'.heap[k]?=some o:=λk o hk h=>(V.block k (AD.1 hk).1 (N k (AD.1 hk).1 h)).trans hk
 match t,h with
 |0,h=>
  have I:∀r f,ES w r f->r<w.heap.size:=λr f ⟨es,y,h1,_⟩=>(AD.1 h1).1;have h:MO A c Z w:=h;exact⟨λt z=>by rw[BC (a:=⟨A.TT,t,none⟩) (V.block _ h.tasksZ.2 (U _ h.tasksZ.2 h.tasksZ.1))];exact h.tasks t z,⟨h.tasksZ.1,Af h.tasksZ.2 V.size⟩,
   ⟨h.mR.1.keep V (U _ (I _ _ h.mR.1) h.mR.2),h.mR.2⟩,λi J=>⟨(h.mW i J).1.keep V (U _ (I _ _ (h.mW i J).1) (h.mW i J).2),(h.mW i J).2⟩,⟨h.mM.1.keep V (U _ (I _ _ h.mM.1) h.mM.2),h.mM.2⟩,⟨h.mE.1.keep V (U _ (I _ _ h.mE.1) h.mE.2),h.mE.2⟩,
   ⟨h.mach.1,⟨AS h.mach.2.1.1 V.size,λk h1 h2 h3=>(V.block k (Af h2 h.mach.2.1.1) (U k (Af h2 h.mach.2.1.1) (h.mach.2.2 k h1 h2))).trans (h.mach.2.1.2 k h1 h2 h3)⟩,h.mach.2.2⟩,h.tc⟩
 |1,h=>exact let⟨tv,h1,h2,h3,h4⟩:=h;⟨tv,D _ _ h1 h2,h2,h3.keep V λg H=>N g (h3.lt g H) (h3.2 g H),h4⟩
 |2,h=>exact let⟨a,n,cc,vs,h1,h2⟩:=h;⟨a,n,cc,vs,h1.keep V N,h2⟩
 |3,h=>exact let⟨a,n,cc,tv,h1⟩:=h;⟨a,n,cc,tv,h1.keep V N⟩
 |4,h=>exact let⟨lab,fv,dv,h1⟩:=h;⟨lab,fv,dv,h1.keep V N⟩
 |5,h=>exact let⟨first,ps,h1,h2,h3⟩:=h;⟨first,ps,h1.keep V N,h2,λi b J=>let⟨p,g1,g2⟩:=h3 i b J;⟨p,g1,g2.keep V U⟩⟩
 |6,h=>exact let⟨pl,h1,h2,h0,h3⟩:=h;⟨pl,h1.keep V N,h2,h0,λi b J=>let⟨p,g1,g2⟩:=h3 i b J;⟨p,g1,g2.keep V U⟩⟩
 |7,h=>exact let⟨first,ps,h1,h2,h3⟩:=h;⟨first,ps,h1.keep V N,h2,h3⟩
 |8,h=>exact let⟨tv,h1,h2,h3,h4⟩:=h;⟨tv,D _ _ h1 h2,h2,h3.keep V λg H=>N g (h3.lt g H).1 (h3.lt g H).2,h4⟩
 |9,h=>exact let⟨a,m,cc,h1,h2,h3,h4⟩:=h;⟨a,m,cc,D _ _ h1 h2,h2,h3.keep V U,h4⟩
 |10,h=>exact⟨D _ _ h.1 h.2,h.2⟩
 |i+11,h=>
  show CP A s X Z w' i;have h:CP A s X Z w i:=h;unfold CP at h⊢
  cases J:s.wk[i]? with
  |none=>trivial
  |some x=>
   rw[J]at h;obtain⟨p,B,h1,h2,h3,h4,h5,h6⟩:=h;exact⟨p,B,D _ _ h1 h2,h2,h3.keep V U,h4.keep V λg H C=>(h4.2 g H).elim (λe=>N g (h4.lt g H) e C) λe=>U g (h4.lt g H) e C,h5,h6⟩
theorem Ai.wide{t:Nat}(h:Ai A c s X Z w t)(U:∀k,k<w.heap.size->X k->X' k)(V:∀k,k<w.heap.size->Z k->Z' k):Ai A c s X' Z' w t:=by
 have I:∀k o,w.heap[k]?=some o->X k->X' k:=λk o hk h=>U k (AD.1 hk).1 h
 match t,h with
 |0,h=>
  have N:∀r f,ES w r f->r<w.heap.size:=λr f ⟨es,C,h1,_⟩=>(AD.1 h1).1;have h:MO A c Z w:=h;exact⟨h.tasks,⟨V _ h.tasksZ.2 h.tasksZ.1,h.tasksZ.2⟩,⟨h.mR.1,V _ (N _ _ h.mR.1) h.mR.2⟩,λi J=>⟨(h.mW i J).1,V _ (N _ _ (h.mW i J).1) (h.mW i J).2⟩,⟨h.mM.1,V _ (N _ _ h.mM.1) h.mM.2⟩,⟨h.mE.1,V _ (N _ _ h.mE.1) h.mE.2⟩,
   ⟨h.mach.1,h.mach.2.1,λk h1 h2=>V k (Af h2 h.mach.2.1.1) (h.mach.2.2 k h1 h2)⟩,h.tc⟩
 |1,h=>exact let⟨tv,h1,h2,h3,h4⟩:=h;⟨tv,h1,I _ _ h1 h2,h3.wide U,h4⟩
 |2,h=>exact let⟨a,n,cc,vs,h1,h2⟩:=h;⟨a,n,cc,vs,h1.wide U,h2⟩
 |3,h=>exact let⟨a,n,cc,tv,h1⟩:=h;⟨a,n,cc,tv,h1.wide U⟩
 |4,h=>exact let⟨lab,fv,dv,h1⟩:=h;⟨lab,fv,dv,h1.wide U⟩
 |5,h=>exact let⟨first,ps,h1,h2,h3⟩:=h;⟨first,ps,h1.wide U,h2,λi b J=>let⟨p,g1,g2⟩:=h3 i b J;⟨p,g1,g2.wide V⟩⟩
 |6,h=>exact let⟨pl,h1,h2,h0,h3⟩:=h;⟨pl,h1.wide U,h2,h0,λi b J=>let⟨p,g1,g2⟩:=h3 i b J;⟨p,g1,g2.wide V⟩⟩
 |7,h=>exact let⟨first,ps,h1,h2,h3⟩:=h;⟨first,ps,h1.wide U,h2,h3⟩
 |8,h=>exact let⟨tv,h1,h2,h3,h4⟩:=h;⟨tv,h1,I _ _ h1 h2,h3.wide U,h4⟩
 |9,h=>exact let⟨a,m,cc,h1,h2,h3,h4⟩:=h;⟨a,m,cc,h1,I _ _ h1 h2,h3.wide V,h4⟩
 |10,h=>exact⟨h.1,I _ _ h.1 h.2⟩
 |i+11,h=>
  show CP A s X' Z' w i;have h:CP A s X Z w i:=h;unfold CP at h⊢
  cases J:s.wk[i]? with
  |none=>trivial
  |some x=>
   rw[J]at h;obtain⟨p,D,h1,h2,h3,h4,h5,h6⟩:=h;exact⟨p,D,h1,I _ _ h1 h2,h3.wide V,h4.wide λk hk e=>e.imp (U k hk) (V k hk),h5,λe g H=>U g (h4.lt g H) (h6 e g H)⟩
end
structure AI(A:PAd)(c:CfM)(o:Nat->Nat)(s:PlM)(w:World):Prop where
 part:∀t,t<1000->Ai A c s (λk=>o k=t) (λk=>o k=0) w t
 out:∀k,w.heap.size<=k->o k=1000000
def EW(o:Nat->Nat)(n V t:Nat)(k:Nat):Nat:=if k<n then o k else if k<V then t else 1000000
def Hq(o:Nat->Nat)(g:Option Nat)(k:Nat):Nat:=if g=some k then 0 else o k
section
variable {A:PAd}{c:CfM}{s s':PlM}{o:Nat->Nat}{w w':World}
theorem FV{n V t k:Nat}(h:k<n):EW o n V t k=o k:=Lc h
theorem Mq{n V t k:Nat}(h:n<=k)(h2:k<V):EW o n V t k=t:=by unfold EW;rw[Lb om,Lc h2]
theorem Mp{n V t k:Nat}(h:n<=k)(h2:V<=k):EW o n V t k=1000000:=by unfold EW;rw[Lb om,Lb om]
theorem AI.upd(h:AI A c o s w)(t:Nat)(B:t≠0)(C:t<1000)(D:Chg (λk=>o k=t) w w')(y:Ai A c s' (λk=>o k=t∨w.heap.size<=k) (λk=>o k=0) w' t)
  (z:∀u X Z V,u≠t->Ai A c s X Z V u->Ai A c s' X Z V u):AI A c (EW o w.heap.size w'.heap.size t) s' w':=by
 have H:∀k,k<w'.heap.size->o k=0->EW o w.heap.size w'.heap.size t k=0:=λk hk h0=>by
  by_cases U:k<w.heap.size
  ·rw[FV U];exact h0
  ·have:=h.out k om;omega
 refine⟨λu J=>?_,λk hk=>Mp (AS D.size hk) hk⟩
 by_cases I:u=t
 ·subst I;refine y.wide (λk hk N=>?_) H
  by_cases U:k<w.heap.size
  ·rw[FV U];exact N.resolve_right om
  ·exact Mq om hk
 ·refine((z u _ _ _ I (h.part u J)).keep D (λk _ h1 h2=>I (h1.symm.trans h2)) (λk _ h1 h2=>B (h2.symm.trans h1))).wide (λk hk N=>?_) H
  by_cases U:k<w.heap.size
  ·rw[FV U];exact N
  ·have:=h.out k om;omega
theorem AI.grow(h:AI A c o s w)(t:Nat)(J:t<1000)(N:Bt w w'):AI A c (EW o w.heap.size w'.heap.size t) s w':=by
 refine⟨λu V=>?_,λk hk=>Mp (AS N.size hk) hk⟩;refine(((h.part u V).keep (Y:=λ_=>False) (.of_same N) (λ_ _ _ h=>h) (λ_ _ _ h=>h))).wide (λk hk U=>?_) (λk hk U=>?_)
 all_goals
  by_cases I:k<w.heap.size
  ·rw[FV I];exact U
  ·have:=h.out k om;omega
theorem AI.freeze(h:AI A c o s w)(t:Nat)(g:Option Nat)(I:∀k,g=some k->k<w.heap.size/\(o k=t∨o k=0))(B:t≠0)(D:Ai A c s' (λk=>o k=t/\g≠some k) (λk=>o k=0∨g=some k) w t)
  (H:∀u X Z V,u≠t->Ai A c s X Z V u->Ai A c s' X Z V u):AI A c (Hq o g) s' w:=by
 refine⟨λu N=>?_,λk hk=>?_⟩
 ·by_cases J:u=t
  ·subst J;refine D.wide (λk hk U=>?_) (λk hk U=>?_)
   ·unfold Hq;rw[Lb U.2];exact U.1
   ·unfold Hq;split
    ·rfl
    ·exact U.resolve_right (by assumption)
  ·refine(H u _ _ _ J (h.part u N)).wide (λk hk U=>?_) (λk hk U=>?_)
   ·unfold Hq;split
    ·rename_i e
     rcases(I k e).2 with C|C<;>omega
    ·exact U
   ·unfold Hq;split
    ·rfl
    ·exact U
 ·unfold Hq;rw[Lb λe=>by have:=(I k e).1;omega];exact h.out k hk
end
section
variable {A:PAd}{c:CfM}{s s':PlM}{o:Nat->Nat}{w w':World}
theorem Ai.congr(t:Nat)
  (h1:t=1∨s'.number=s.number/\s'.read=s.read/\s'.took=s.took/\s'.cancelled=s.cancelled:=by first|exact .inl rfl|exact .inr ⟨rfl,rfl,rfl,rfl⟩)
  (h2:t=2∨s'.rs=s.rs/\s'.told=s.told:=by first|exact .inl rfl|exact .inr ⟨rfl,rfl⟩)
  (h3:t=3∨s'.tk=s.tk/\s'.off=s.off:=by first|exact .inl rfl|exact .inr ⟨rfl,rfl⟩)
  (h4:t=4∨s'.fr=s.fr/\s'.us=s.us/\s'.ds=s.ds:=by first|exact .inl rfl|exact .inr ⟨rfl,rfl,rfl⟩)
  (h5:t=5∨s'.q=s.q/\s'.shut=s.shut:=by first|exact .inl rfl|exact .inr ⟨rfl,rfl⟩)
  (h6:t=6∨s'.next=s.next/\s'.rg=s.rg:=by first|exact .inl rfl|exact .inr ⟨rfl,rfl⟩)
  (h7:t=7∨s'.out=s.out/\s'.ended=s.ended:=by first|exact .inl rfl|exact .inr ⟨rfl,rfl⟩)
  (h8:t=8∨s'.rd=s.rd:=by first|exact .inl rfl|exact .inr rfl)
  (h9:t=9∨s'.mph=s.mph/\s'.left=s.left:=by first|exact .inl rfl|exact .inr ⟨rfl,rfl⟩)
  (h10:t=10∨s'.eph=s.eph:=by first|exact .inl rfl|exact .inr rfl)
  (h11:∀j,t≠j+11->s'.wk[j]?=s.wk[j]?:=by exact λ_ _=>rfl) :
  ∀u X Z V,u≠t->Ai A c s X Z V u->Ai A c s' X Z V u:=λu X Z V Y h=>by
 match u,Y,h with
 |0,_,h=>exact h
 |1,Y,h=>
  obtain⟨U,N,J,I⟩:=h1.resolve_left λe=>Y e.symm;show MN A c s' X V;have h:MN A c s X V:=h;unfold MN EK at h⊢;rw[U,N,J,I];exact h
 |2,Y,h=>
  obtain⟨U,N⟩:=h2.resolve_left λe=>Y e.symm;show MM A c s' X V;have h:MM A c s X V:=h;unfold MM at h⊢;rw[U,N];exact h
 |3,Y,h=>
  obtain⟨U,N⟩:=h3.resolve_left λe=>Y e.symm;show LB A c s' X V;have h:LB A c s X V:=h;unfold LB at h⊢;rw[U,N];exact h
 |4,Y,h=>
  obtain⟨U,N,J⟩:=h4.resolve_left λe=>Y e.symm;show Ik A c s' X V;have h:Ik A c s X V:=h;unfold Ik at h⊢;rw[U,N,J];exact h
 |5,Y,h=>
  obtain⟨U,N⟩:=h5.resolve_left λe=>Y e.symm;show Gm A c s' X Z V;have h:Gm A c s X Z V:=h;unfold Gm at h⊢;rw[U,N];exact h
 |6,Y,h=>
  obtain⟨U,N⟩:=h6.resolve_left λe=>Y e.symm;show Gl A c s' X Z V;have h:Gl A c s X Z V:=h;unfold Gl at h⊢;rw[U,N];exact h
 |7,Y,h=>
  obtain⟨U,N⟩:=h7.resolve_left λe=>Y e.symm;show GN A c s' X V;have h:GN A c s X V:=h;unfold GN at h⊢;rw[U,N];exact h
 |8,Y,h=>
  have U:=h8.resolve_left λe=>Y e.symm;show LA A s' X V;have h:LA A s X V:=h;unfold LA at h⊢;rw[U];exact h
 |9,Y,h=>
  obtain⟨U,N⟩:=h9.resolve_left λe=>Y e.symm;show Nx A s' X Z V;have h:Nx A s X Z V:=h;unfold Nx at h⊢;rw[U,N];exact h
 |10,Y,h=>
  have U:=h10.resolve_left λe=>Y e.symm;show Ny A s' X V;have h:Ny A s X V:=h;unfold Ny at h⊢;rw[U];exact h
 |j+11,Y,h=>
  have U:=h11 j λe=>Y e.symm;show CP A s' X Z V j;have h:CP A s X Z V j:=h;unfold CP at h⊢;rw[U];exact h
theorem AI.tag_same(h:AI A c o s w)(t:Nat):EW o w.heap.size w.heap.size t=o:=by
 funext k
 by_cases hk:k<w.heap.size
 ·exact FV hk
 ·rw[Mp om om,h.out k om]
theorem AI.updB(h:AI A c o s w)(t:Nat)(I:t≠0)(Y:t<1000)(U:w'.heap.size=w.heap.size)(C:Chg (λk=>o k=t) w w')(D:Ai A c s' (λk=>o k=t) (λk=>o k=0) w' t)
  (H:∀u X Z V,u≠t->Ai A c s X Z V u->Ai A c s' X Z V u):AI A c o s' w':=by
 have:=h.upd t I Y C (D.wide (λk _ J=>.inl J) λk _ N=>N) H;rw[U,h.tag_same]at this;exact this
theorem AI.setP(h:AI A c o s w)(i:Nat)(v:Value)(s':PlM)(U:∀Y,(EK A c s Y).setIfInBounds i v=EK A c s' Y)(N:s'.took=s.took)(J:∀u X Z V,u≠1->Ai A c s X Z V u->Ai A c s' X Z V u) :AI A c o s' (w.setCell ⟨A.P,i,none⟩ v)/\w.frozen? ⟨A.P,i,none⟩=false:=by
 obtain⟨Y,h1,h2,h3,h4⟩:=h.part 1 om;have H:Chg (λk=>o k=1) w (w.setCell ⟨A.P,i,none⟩ v):=(Chg.refl _ w).set h2;refine⟨h.updB 1 om om (by simp[World.setCell]) H ⟨Y,?_,h2,?_,h4⟩ J,by simp[frozen?,h1]⟩
 ·have:=AJ (i:=i) h1 v;rw[U]at this;exact this
 ·rw[N];exact⟨Fu h3.1 λg I=>AQ w ⟨A.P,i,none⟩ _ g λe=>h4 (I.trans (congrArg some e)),h3.2⟩
theorem AI.setR(h:AI A c o s w)(i:Nat)(v:Value)(Y:RdM)(V:∀Z,(rdV A s.rd Z).setIfInBounds i v=rdV A Y Z)(U:Y.tail=s.rd.tail) :AI A c o {s with rd:=Y} (w.setCell ⟨A.R,i,none⟩ v)/\w.frozen? ⟨A.R,i,none⟩=false:=by
 obtain⟨Z,h1,h2,h3,h4⟩:=h.part 8 om;have J:Chg (λk=>o k=8) w (w.setCell ⟨A.R,i,none⟩ v):=(Chg.refl _ w).set h2;have X:Chg (λk=>k=A.R) w (w.setCell ⟨A.R,i,none⟩ v):=(Chg.refl _ w).set rfl;refine⟨h.updB 8 om om (by simp[World.setCell]) J ⟨Z,?_,h2,?_,h4⟩ (Ai.congr 8),by simp[frozen?,h1]⟩
 ·have:=AJ (i:=i) h1 v;rw[V]at this;exact this
 ·show Cv _ _ Z Y.tail;rw[U];exact h3.keep X λg N e=>h4 (by rw[<-e];exact N)
theorem AI.setM(h:AI A c o s w)(ph:Nat):AI A c o {s with mph:=ph} (w.setCell ⟨A.M,1,none⟩ (.int .u8 (ph:Int)))/\w.frozen? ⟨A.M,1,none⟩=false:=by obtain⟨a,m,Y,h1,h2,h3,h4⟩:=h.part 9 om;have Z:Chg (λk=>o k=9) w (w.setCell ⟨A.M,1,none⟩ (.int .u8 (ph:Int))):=(Chg.refl _ w).set h2;refine⟨h.updB 9 om om (by simp[World.setCell]) Z ⟨a,m,Y,AJ (i:=1) h1 _,h2,h3.keep Z (λk _ e=>by rw[e];decide),h4⟩ (Ai.congr 9),by simp[frozen?,h1]⟩
theorem AI.setML(h:AI A c o s w)(l:List AF)(a:Option Addr)(m Z:Nat)(V:SlD (λk=>o k=0) w a m l)(X:m<=Z) :AI A c o {s with left:=l} (w.setCell ⟨A.M,6,none⟩ (slice a m Z))/\w.frozen? ⟨A.M,6,none⟩=false:=by obtain⟨a0,N,U,h1,h2,h3,h4⟩:=h.part 9 om;have Y:Chg (λk=>o k=9) w (w.setCell ⟨A.M,6,none⟩ (slice a m Z)):=(Chg.refl _ w).set h2;refine⟨h.updB 9 om om (by simp[World.setCell]) Y ⟨a,m,Z,AJ (i:=6) h1 _,h2,V.keep Y (λk _ e=>by rw[e];decide),X⟩ (Ai.congr 9),by simp[frozen?,h1]⟩
theorem AI.setE(h:AI A c o s w)(ph:Nat):AI A c o {s with eph:=ph} (w.setCell ⟨A.E,1,none⟩ (.int .u8 (ph:Int)))/\w.frozen? ⟨A.E,1,none⟩=false:=by obtain⟨h1,h2⟩:=h.part 10 om;have Z:Chg (λk=>o k=10) w (w.setCell ⟨A.E,1,none⟩ (.int .u8 (ph:Int))):=(Chg.refl _ w).set h2;exact⟨h.updB 10 om om (by simp[World.setCell]) Z ⟨AJ (i:=1) h1 _,h2⟩ (Ai.congr 10),by simp[frozen?,h1]⟩
theorem AI.setWk(h:AI A c o s w){i:Nat}{x:WkM}(N:s.wk[i]?=some x)(hi:i<900)(Y:WkM)(w':World)(J:w'.heap.size=w.heap.size)(H:∀k,k≠A.Wk i->w'.heap[k]?=w.heap[k]?)(X:w'.os=w.os/\w'.tape=w.tape/\w'.output=w.output)
  (B:∀p V,w.heap[A.Wk i]?=some (.cells (wkV A i x p V) 249 (0,0))->PcD (λk=>o k=0) w p x.blk->CO (λk=>o k=i+11∨o k=0) w 116 2 V x.hits.length (AV x.hits)->V.ownBlock≠some (A.Wk i)->(x.ph≠3->∀g,V.ownBlock=some g->o g=i+11)->
   ∃U Z,w'.heap[A.Wk i]?=some (.cells (wkV A i Y U Z) 249 (0,0))/\PcD (λk=>o k=0) w U Y.blk/\CO (λk=>o k=i+11∨o k=0) w 116 2 Z Y.hits.length (AV Y.hits)/\Z.ownBlock≠some (A.Wk i)/\(Y.ph≠3->∀g,Z.ownBlock=some g->o g=i+11)) :
  AI A c o (setW s i λ_=>Y) w':=by
 have h0:=h.part (i+11) om;have h0:CP A s (λk=>o k=i+11) (λk=>o k=0) w i:=h0;unfold CP at h0;rw[N]at h0;obtain⟨p,V,h1,h2,h3,h4,h5,h6⟩:=h0;obtain⟨U,Z,g1,g3,C,D,g6⟩:=B p V h1 h3 h4 h5 h6;have I:Chg (λk=>k=A.Wk i) w w':=⟨X.1,X.2.1,X.2.2,by omega,λk _ hk=>H k hk⟩;have y:i<s.wk.length:=(AP.1 N).1;refine h.updB (i+11) om om J (I.mono λk _ e=>by rw[e];exact h2) ?_ (Ai.congr (i+11) (h1:=.inr ⟨rfl,rfl,rfl,rfl⟩) (h2:=.inr ⟨rfl,rfl⟩) (h3:=.inr ⟨rfl,rfl⟩) (h4:=.inr ⟨rfl,rfl,rfl⟩) (h5:=.inr ⟨rfl,rfl⟩) (h6:=.inr ⟨rfl,rfl⟩) (h7:=.inr ⟨rfl,rfl⟩) (h8:=.inr rfl) (h9:=.inr ⟨rfl,rfl⟩) (h10:=.inr rfl) (h11:=λj z=>?_))
 ·show CP A (setW s i λ_=>Y) (λk=>o k=i+11) (λk=>o k=0) w' i;unfold CP setW;have e:(s.wk.modify i λ_=>Y)[i]?=some Y:=by rw[GS,N];simp
  show(match (s.wk.modify i λ_=>Y)[i]? with|none=>True|some x=>_);rw[e];refine⟨U,Z,g1,h2,g3.keep I λk _ e1 e2=>?_,⟨Fu C.1 λg hg=>H g λe=>D (by rw[<-e];exact hg),C.2⟩,D,g6⟩;rw[e2]at e1;omega
 ·show(s.wk.modify i λ_=>Y)[j]?=s.wk[j]?;rw[GS];have:i≠j:=λe=>z (by rw[e]);simp[this]
end
def aoF(X:Nat->Prop)(B U D size:Nat)(fr:List Int)(us:List Bool)(ds:La)(n:Int)(w:World)(e:Ending)(w':World):Prop:=
 e=.returned (bool (Cr us n))/\Chg X w w'/\DM (λk=>X k∨w.heap.size<=k) B U D size (if Cr us n then fr++[n] else fr) (if Cr us n then us.set n.toNat false else us) (if Cr us n then ds.set n.toNat [] else ds) w'
theorem ak8{us:List Bool}{n:Int}(h:Cr us n=true):∃k:Nat,n=k/\k<us.length/\us[k]?=some true:=by
 unfold Cr at h;rw[Bq]at h;obtain⟨k,rfl⟩:=Mb (Lj h.1);rw[Aa,DZ]at h
 by_cases hk:k<us.length
 ·refine⟨k,rfl,hk,?_⟩;have:=h.2;rw[Ar hk,CG]at this;rw[Ar hk,this]
 ·have:=h.2;rw[GT om]at this
  cases this
theorem ag3{X:Nat->Prop}{B U D size:Nat}{fr:List Int}{us:List Bool}{ds:La}(n:Int)(w:World)(h:DM X B U D size fr us ds w)(hn:fr.length<=100000) :Calls ZP 236 #[pointer (some ⟨B,0,none⟩),int i64 n] w (aoF X B U D size fr us ds n w):=by
 obtain⟨x,fv,dv,h⟩:=h;have HP:=AA (aaR n w h);unfold aoF
 cases hh:Cr us n with
 |false=>
  rw[hh]at HP;have HH:=AA h;clear h hn hh;go_enter func236,ntmps236
  go_wp2_with (go_at_call 233;refine HP.out.mono ?_;rintro e A ⟨rfl,J⟩;have HB:=AA J;clear J)
  go_ret;have hk:=HH.out.keep (Y:=λ_=>False) (.of_same HB.out) λ_ _ _ h=>h;exact⟨rfl,.of_same HB.out,x,fv,dv,hk.wide λ_ _ s=>.inl s⟩
 |true=>
  rw[hh]at HP;obtain⟨k,rfl,a2,a8⟩:=ak8 hh;obtain⟨L,hL⟩:∃L,us.length=L:=⟨_,rfl⟩;have i0:(0:Int)<=(k:Int):=by omega
  have i1:(k:Int)<(L:Int):=by omega
  have HL:=AA hL;have H:=AA a2;have HH:=AA h;clear h hh a2 a8 hL;go_enter func236,ntmps236;go_upto_region 3 with(go_at_call 233;refine HP.out.mono ?_;rintro e A ⟨rfl,V⟩)
  have J:=HH.out.keep (Y:=λ_=>False) (.of_same V) λ_ _ _ h=>h;obtain⟨u1,u2⟩:=J.setU k false;have c2:A.cell? ⟨B,2,none⟩=some (slice (some ⟨U,0,none⟩) L L):=by have:=HL.out;simp[cell?,J.box,this]
  have f2:A.frozen? ⟨U,k,none⟩=false:=by simp[frozen?,J.used]
  have g2:A.cell? ⟨U,k,none⟩=some (bool (us[k]'H.out)):=by simp[cell?,J.used,H.out]
  obtain⟨Z,I⟩:∃W,W=A.setCell ⟨U,k,none⟩ (bool false):=⟨_,rfl⟩;rw[<-I]at u1 u2;have a6:BB X x B U D fv dv size fr (us.set k false) ds Z.drew:=u1.keep (Y:=λ_=>False) (.of_same (AN Z 1)) λ_ _ _ h=>h;obtain⟨a,m,c,q1,C,z⟩:=a6.cut0 k (by rw[BG];exact H.out);have a1:(us.set k false).length=L:=by rw[BG];exact HL.out
  have c3:Z.cell? ⟨B,3,none⟩=some (slice (some ⟨D,0,none⟩) L L):=by simp[cell?,u1.box,a1]
  have f3:Z.frozen? ⟨D,k,none⟩=false:=by simp[frozen?,u1.data]
  have g3:Z.cell? ⟨D,k,none⟩=some (slice a m c):=by simp[cell?,u1.data];exact q1
  obtain⟨W3,N⟩:∃W,W=(Z.setCell ⟨D,k,none⟩ (slice a 0 c)).drew:=⟨_,rfl⟩;have C:DM (λk=>X k∨Z.drew.heap.size<=k) B U D size fr (us.set k false) (ds.set k []) W3:=by rw[N];exact C
  have z:Chg X Z.drew W3:=by rw[N];exact z
  have j:w.heap.size<=Z.drew.heap.size:=AS V.size u2.size;obtain⟨af,ag,ab,C⟩:=C;have ad:=AA (abn (k:Int) W3 C om);have HC:=AA ((Chg.of_same V).then ((u2.same (AN Z 1)).then z));have ac:=AA (Lq j z.size);clear J V u1 u2 a6 q1 C z a1 j;go_upto_region 4 with fail
  rw[<-I];clear I c2 f2 g2
  go_region
  rw[<-N];clear N c3 f3 g3
  go_wp2_with fail
  refine ad.out.mono ?_;rintro e w4 ⟨⟨v4,rfl⟩,⟨aa,y,hq⟩,a7⟩;have HQ:=AA hq;have ae:=AA a7;clear hq a7;go_wp2;go_ret;have hs:=ac.out;refine⟨rfl,HC.out.trans ae.out (λi hi s=>s.elim id λh=>by have:=hs.1;omega),y,aa,ab,?_⟩
  try simp only[if_true,Aa]
  exact HQ.out.wide λi _ s=>s.elim (λh=>h.elim .inl λh=>.inr (by have:=hs.1;omega)) λh=>.inr (by have:=hs.1;have:=hs.2;omega)
theorem aqs{X:Nat->Prop}{B U D size:Nat}{fr:List Int}{us:List Bool}{ds:La}(w:World)(h:DM X B U D size fr us ds w) :Calls ZP 70 #[pointer (some ⟨B,0,none⟩)] w λe w'=>e=.returned (int i64 (fr.length:Int))/\w'=w:=by
 obtain⟨Y,N,J,h⟩:=h;obtain⟨a,c,rfl,_,_⟩:=SlK.own h.free.1.1;have c0:w.cell? ⟨B,0,none⟩=some (slice a fr.length c):=by simp[cell?,h.box]
 have Z:Calls ZP 119 #[pointer (some ⟨B,0,none⟩)] w λe w'=>e=.returned (int i64 (fr.length:Int))/\w'=w:=by clear h;go_enter func119,ntmps119;go_wp2;go_ret;exact⟨rfl,rfl⟩
 have Z:=AA Z;clear h;go_enter func70,ntmps70
 go_wp2_with (go_at_call 119;refine Z.out.mono ?_;rintro e V ⟨rfl,rfl⟩)
 go_ret;exact⟨rfl,rfl⟩
end Go.Proofs.YtaamacoicojhnaaGreat
