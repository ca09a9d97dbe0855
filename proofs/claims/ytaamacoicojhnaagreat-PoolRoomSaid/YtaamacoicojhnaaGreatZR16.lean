/- Proofs over the given program, part 16. -/
import Derived.Test.YtaamacoicojhnaaGreatZR15
set_option linter.unusedVariables false
set_option linter.unusedSimpArgs false
set_option maxRecDepth 100000
set_option maxHeartbeats 16000000
open Go.Proofs.Tryz
open Go.Proofs.Tryz renaming prog→ZP
open Go.World(cell? frozen?)
open Go.Value(int slice pointer bool)
open Go.IntKind(i64)
namespace Go.Proofs.YtaamacoicojhnaaGreat
open Go.RowKit Go.Sort
section
variable {c:CfM}{s t:PlM}{i k:Nat}{x:WkM}
theorem Ha{s t:PlM}(h1:t.q=s.q)(h2:t.wk=s.wk)(h3:t.next=s.next)(h4:t.rg=s.rg)(y:Nat):(GA t).count y=(GA s).count y:=by rw[Ea,Ea,h1,h2,h3,h4]
theorem Ba.stepR(h:Ba c s)(J:s.cancelled=false)(Z:Ck c s=true):Ba c (stepR c s):=by
 have h5:s.rd.ph≠5:=λe=>by unfold Ck at Z;rw[Lc e]at Z;cases Z
 have Y:¬s.cancelled=true:=by rw[J];decide
 unfold Proofs.YtaamacoicojhnaaGreat.stepR;rw[Lb Y]
 split
 ·rename_i h1
  have ha:Du s.next c.R s.number=true:=by unfold Ck at Z;rw[Lb h5,Lb Y,Lc h1]at Z;exact Z
  unfold Du at ha;have I:=Lj (Bool.and_eq_true_iff.1 ha).2;exact h.same rfl rfl (Ha rfl rfl rfl rfl) λ_=>I
 ·split
  ·rename_i N h2
   have V:=h.slot (.inl h2);unfold readR;dsimp only
   split
   ·split
    ·exact h.same rfl rfl (Ha rfl rfl rfl rfl) λ_=>V
    ·exact h.same rfl rfl (Ha rfl rfl rfl rfl) λ_=>V
   ·exact h.same rfl rfl (Ha rfl rfl rfl rfl) λ_=>V
  ·split
   ·rename_i N H h3
    have V:=h.slot (.inr h3);have D:=h.le;unfold putR;refine⟨⟨by show s.next<=s.number+1;omega,by show s.number+1-s.next<=c.R;omega⟩,λy=>?_,λe=>?_⟩
    ·have X:=h.cnt y;rw[Ea]at X⊢;simp only[Aj,BO,DE,En,KO]
     by_cases e:y=s.number
     ·subst e;rw[Lb om]at X;rw[Lc rfl,Lc om];omega
     ·rw[Lb e]
      by_cases U:s.next<=y/\y<s.number
      ·rw[Lc U]at X;rw[Lc om];omega
      ·rw[Lb U]at X;rw[Lb om];omega
    ·have e:(if s.rd.ended then 4 else 1)=2∨(if s.rd.ended then 4 else 1)=3:=e
     split at e<;>omega
   ·exact h.same rfl rfl (Ha rfl rfl rfl rfl) λe=>by
     have e:(5:Nat)=2∨(5:Nat)=3:=e;omega
theorem Ba.takeM(h:Ba c s):Ba c (takeM s):=by
 unfold Proofs.YtaamacoicojhnaaGreat.takeM
 split
 ·rename_i V r I
  have J:=h.cnt s.next;have h0:0<(Cj s.next s.rg).count s.next:=by rw[I];exact ND s.next 0 (some V::r) V rfl
  rw[Ea]at J;have D:s.next<s.number:=Md λH=>by rw[Lb om]at J;omega
  have j:=h.le;have Y:∀t:PlM,t.q=s.q->t.wk=s.wk->t.next=s.next+1->t.rg=r++[none]->t.number=s.number->t.rd=s.rd->Ba c t:=λt z X N A U B=>by
   refine⟨by rw[N,U];omega,λy=>?_,λe=>?_⟩
   ·have Z:=h.cnt y;rw[Ea,I]at Z;rw[Ea,z,X,N,A,U,abo];have C:(Cj s.next (some V::r)).count y=(Cj (s.next+1) r).count y+if y=s.next then 1 else 0:=Ib _ _ _
    rw[C]at Z
    by_cases e:y=s.next
    ·subst e;rw[Lc rfl,Lc om]at Z;rw[Lb om];omega
    ·rw[Lb e]at Z
     by_cases X:s.next<=y/\y<s.number
     ·rw[Lc X]at Z;rw[Lc om];omega
     ·rw[Lb X]at Z;rw[Lb om];omega
   ·rw[B]at e;have:=h.slot e;rw[N,U];omega
  split
  ·exact Y _ rfl rfl rfl rfl rfl rfl
  ·exact Y _ rfl rfl rfl rfl rfl rfl
 ·exact h.same rfl rfl (Ha rfl rfl rfl rfl) h.slot
theorem Ba.flushM(h:Ba c s):Ba c (flushM s):=by
 unfold Proofs.YtaamacoicojhnaaGreat.flushM
 split
 ·exact h
 ·exact h.same rfl rfl (Ha rfl rfl rfl rfl) h.slot
theorem Ba.offerE(h:Ba c s):Ba c (offerE c s):=by
 unfold Proofs.YtaamacoicojhnaaGreat.offerE
 split
 ·exact h.same rfl rfl (Ha rfl rfl rfl rfl) h.slot
 ·split
  ·exact h.same rfl rfl (Ha rfl rfl rfl rfl) h.slot
  ·exact h.same rfl rfl (Ha rfl rfl rfl rfl) h.slot
theorem Ba.step(h:Ba c s)(N:CD c s)(U:Az s)(V:s.cancelled=false)(Y:Bj c s k=true):Ba c (Bi c s k):=by
 have Z:¬s.cancelled=true:=by rw[V];decide
 unfold Bj at Y;unfold Bi
 split at Y
 ·rw[Lc (by assumption)];exact h.stepR V Y
 ·rw[Lb (by assumption)]
  split at Y
  ·rw[Lc (by assumption)];obtain⟨x,X,h4⟩:=JH Y;have J:=U.wp _ x X;unfold stepW;rw[Lb Z,Fc X]
   split
   ·exact h.takeW X (by assumption)
   ·split
    ·exact h.scanW X (by assumption)
    ·exact h.putWM N.gl X om
  ·rw[Lb (by assumption)]
   split at Y
   ·rw[Lc (by assumption)];unfold stepMg;rw[Lb Z]
    split
    ·exact h.takeM
    ·exact h.flushM
   ·rw[Lb (by assumption)];unfold stepE;rw[Lb Z];exact h.offerE
end
theorem aaF:∀(k n y:Nat),(List.range' n k).count y=if n<=y/\y<n+k then 1 else 0
 |0,n,y=>by rw[Lb om];rfl
 |k+1,n,y=>by
  rw[List.range'_succ,Ib,aaF k (n+1) y]
  by_cases e:y=n
  ·rw[Lc e,Lb om,Lc om]
  ·rw[Lb e]
   by_cases Z:n+1<=y/\y<n+1+k
   ·rw[Lc Z,Lc om]
   ·rw[Lb Z,Lb om]
theorem acz:∀(n k:Nat),Cj n (List.replicate k none)=[]
 |n,0=>rfl
 |n,k+1=>by rw[Ip];exact acz (n+1) k
section
variable {c:CfM}{s t:PlM}{i k:Nat}{x:WkM}
theorem Ba.len(h:Ba c s):(GA s).length=s.number-s.next:=by
 have Y:=h.le;have Z:(GA s).Perm (List.range' s.next (s.number-s.next)):=OI.2 λy=>by rw[h.cnt y,aaF,show s.next+(s.number-s.next)=s.number by omega]
 rw[Z.length_eq,List.length_range']
theorem AW.free(hB:AW c s)(V:Ba c s)(X:Az s)(U:s.rd.ph=1)(ha:Du s.next c.R s.number=true):s.fr≠[]:=λY=>by have h1:=hB.perm.length_eq;rw[Y,Av,List.length_range]at h1;have h2:rdB s.rd=[]:=NK (by cases Z:s.rd.holds with|false=>rfl|true=>have:=X.ho.1 Z;omega);have h3:=V.len;unfold Cu at h1;unfold GA at h3;rw[h2,Av,BP]at h1;rw[List.length_append,BP]at h3;unfold Du at ha;have Z:=Lj (Bool.and_eq_true_iff.1 ha).2;omega
structure EE(c:CfM)(s:PlM):Prop where
 a:MP c s
 b:AW c s
 n:s.cancelled=false->Ba c s
theorem EE.step(h:EE c s)(Z:Bj c s k=true):EE c (Bi c s k):=by
 refine⟨h.a.step Z,?_,λY=>?_⟩
 ·have N:=Z;unfold Bj at Z;unfold Bi
  split at Z
  ·rw[Lc (by assumption)];have h5:s.rd.ph≠5:=λe=>by unfold Ck at Z;rw[Lc e]at Z;cases Z
   refine h.b.stepR h.a.r h5 λY X=>h.b.free (h.n Y) h.a.r X ?_;have V:¬s.cancelled=true:=by rw[Y];decide
   unfold Ck at Z;rw[Lb h5,Lb V,Lc X]at Z;exact Z
  ·rw[Lb (by assumption)]
   split at Z
   ·rw[Lc (by assumption)];obtain⟨x,U,h4⟩:=JH Z;have X:=h.a.r.wp _ x U;exact h.b.stepW U om
   ·rw[Lb (by assumption)]
    split at Z
    ·rw[Lc (by assumption)];exact h.b.stepMg
    ·rw[Lb (by assumption)];exact h.b.stepE
 ·rw[ae3]at Y;exact(h.n Y).step h.a.f h.a.r Y Z
theorem EE.cancel(h:EE c s):EE c (LN s):=by
 refine⟨h.a.cancel,?_,?_⟩
 ·unfold LN
  split
  ·exact h.b
  ·exact h.b.rdO rfl rfl rfl rfl rfl rfl rfl
 ·unfold LN
  split
  ·exact h.n
  ·intro e;cases e
theorem ajp(Y:1<=c.W)(rs:La):EE c (Bn c rs):=by
 have U:(List.replicate c.W (wk0 1)).flatMap Proofs.YtaamacoicojhnaaGreat.hW=[]:=by
  rw[List.flatMap_eq_nil_iff];intro x Z;rw[Ho Z]
  rfl
 have X:If (Bn c rs)=[]:=by show []++(List.replicate c.W (wk0 1)).flatMap Proofs.YtaamacoicojhnaaGreat.hW=[];rw[U];rfl
 have V:Cu (Bn c rs)=[]:=by unfold Cu;rw[X];rfl
 refine⟨ajE Y rs,⟨?_,CS,CS,λx Z=>?_,λx Z=>?_⟩,λ_=>⟨⟨AC _,AR _⟩,λy=>?_,λe=>?_⟩⟩
 ·rw[V,Cx];exact List.reverse_perm _
 ·have Z:x∈(List.range c.R).reverse:=Z;rw[List.mem_reverse,List.mem_range]at Z;exact List.getElem?_replicate_of_lt Z
 ·rw[V]at Z;cases Z
 ·have e:GA (Bn c rs)=[]:=by unfold GA;rw[X];exact acz 0 c.R
  rw[e,Lb (by show ¬(0<=y/\y<0);omega)]
  rfl
 ·have e:(1:Nat)=2∨(1:Nat)=3:=e;omega
end
theorem ah3(K own:Nat)(rs:La):(BR ((K:Int)-own) rs).length<=K:=by
 cases rs with
 |nil=>exact AR _
 |cons x t=>
  show(if(K:Int)-own<1 then [] else Dg ((K:Int)-own) x).length<=K
  by_cases h:(K:Int)-own<1
  ·rw[Lc h];exact AR _
  ·rw[Lb h];unfold Dg
   by_cases h2:(x.length:Int)<=(K:Int)-own
   ·rw[Lc h2];omega
   ·rw[Lb h2,Ag];omega
structure BJ(c:CfM)(H D n:Nat)(s:PlM):Prop where
 num:s.number<=n
 nxt:s.next<=n
 rea:s.read<=256*n
 tol:s.told<=256*n
 off:s.off<=n
 tk:s.tk.length<=n
 took:s.took.length<=n
 ahe:s.rd.ahead<=256*n
 hit:∀(i:Nat)(x:WkM),s.wk[i]?=some x->x.hits.length<=H*x.done/\x.done<=D
section
variable {c:CfM}{s t:PlM}{i k H D n:Nat}{x:WkM}
theorem BJ.up(h:BJ c H D n s):BJ c H D (n+1) s:=by obtain⟨V,a2,a3,a4,a5,X,Y,Z,a9⟩:=h;exact⟨by omega,by omega,by omega,by omega,by omega,by omega,by omega,by omega,a9⟩
theorem BJ.wk(h:BJ c H D n s)(A:t.number=s.number)(B:t.next=s.next)(C:t.read=s.read)(I:t.told=s.told)(J:t.off=s.off)(N:t.tk=s.tk)(U:t.took=s.took)(V:t.rd.ahead=s.rd.ahead){f:WkM->WkM}(X:t.wk=s.wk.modify i f)(Z:s.wk[i]?=some x)(Y:(f x).hits.length<=H*(f x).done/\(f x).done<=D):BJ c H D n t:=by obtain⟨a1,a2,a3,a4,a5,e,j,z,a9⟩:=h;exact⟨by rw[A];exact a1,by rw[B];exact a2,by rw[C];exact a3,by rw[I];exact a4,by rw[J];exact a5,by rw[N];exact e,by rw[U];exact j,by rw[V];exact z,by rw[X];exact Ju (p:=λy=>y.hits.length<=H*y.done/\y.done<=D) a9 Z Y⟩
theorem BJ.takeW(h:BJ c H D n s)(Z:s.wk[i]?=some x):BJ c H D n (takeW s i):=by
 have Y:=h.hit i x Z;unfold Proofs.YtaamacoicojhnaaGreat.takeW
 split
 ·exact h.wk (f:=λw=>{w with ph:=4}) rfl rfl rfl rfl rfl rfl rfl rfl rfl Z Y
 ·exact h.wk (f:=λw=>{w with ph:=2,blk:=_}) rfl rfl rfl rfl rfl rfl rfl rfl rfl Z Y
theorem BJ.leaveW(h:BJ c H D n s)(Z:s.wk[i]?=some x):BJ c H D n (leaveW s i):=by rw[Ly Z];exact h.wk (f:=λ_=>wk0 1) rfl rfl rfl rfl rfl rfl rfl rfl rfl Z ⟨AR _,AR _⟩
theorem BJ.putWM(h:BJ c H D n s)(Z:s.wk[i]?=some x):BJ c H D n (putWM s i):=by unfold Proofs.YtaamacoicojhnaaGreat.putWM;rw[Z];exact BJ.leaveW (s:={s with rg:=s.rg.set (x.blk.num-s.next) (some x.hits)}) ⟨h.num,h.nxt,h.rea,h.tol,h.off,h.tk,h.took,h.ahe,h.hit⟩ Z
theorem BJ.scanW(h:BJ c H D n s)(Z:s.wk[i]?=some x)(Y:x.done<=(c.scan x.blk.start x.blk.warm x.blk.data x.node x.done).2.1/\(c.scan x.blk.start x.blk.warm x.blk.data x.node x.done).2.1<=D/\(c.scan x.blk.start x.blk.warm x.blk.data x.node x.done).2.2.1.length<=H*((c.scan x.blk.start x.blk.warm x.blk.data x.node x.done).2.1-x.done)):BJ c H D (n+1) (scanW c s i):=by
 have X:=h.hit i x Z;unfold Proofs.YtaamacoicojhnaaGreat.scanW;refine h.up.wk (f:=λw=>{w with node:=(c.scan w.blk.start w.blk.warm w.blk.data w.node w.done).1,done:=(c.scan w.blk.start w.blk.warm w.blk.data w.node w.done).2.1,hits:=w.hits++(c.scan w.blk.start w.blk.warm w.blk.data w.node w.done).2.2.1,ph:=if(c.scan w.blk.start w.blk.warm w.blk.data w.node w.done).2.2.2 then 3 else w.ph}) rfl rfl rfl rfl rfl rfl rfl rfl rfl Z ?_;dsimp only;refine⟨?_,Y.2.1⟩;rw[List.length_append];have e:H*x.done+H*((c.scan x.blk.start x.blk.warm x.blk.data x.node x.done).2.1-x.done)=H*(c.scan x.blk.start x.blk.warm x.blk.data x.node x.done).2.1:=by rw[<-Nat.mul_add];congr 1;omega
 omega
theorem BJ.stopW(h:BJ c H D n s)(Z:s.wk[i]?=some x):BJ c H D n (stopW s i):=by
 unfold Proofs.YtaamacoicojhnaaGreat.stopW;dsimp only;have Y:=h.takeW Z;obtain⟨y,X⟩:=agA Z
 repeat' split
 all_goals first|exact Y|exact h|exact Y.leaveW X|exact h.leaveW Z
theorem BJ.stepR(h:BJ c H D n s)(X:c.K<=256):BJ c H D (n+1) (stepR c s):=by
 have Z:=h.up;have h3:=h.rea;have h4:=h.tol;have h1:=h.num;unfold Proofs.YtaamacoicojhnaaGreat.stepR
 split
 ·unfold stopR shutR backR
  split
  ·exact⟨Z.num,Z.nxt,Z.rea,Z.tol,Z.off,Z.tk,Z.took,Z.ahe,Z.hit⟩
  ·exact⟨Z.num,Z.nxt,Z.rea,Z.tol,Z.off,Z.tk,Z.took,Z.ahe,Z.hit⟩
 ·split
  ·exact⟨Z.num,Z.nxt,Z.rea,Z.tol,Z.off,Z.tk,Z.took,by show s.read<=_;exact Z.rea,Z.hit⟩
  ·split
   ·have Y:=ah3 c.K s.rd.own s.rs;unfold readR;dsimp only
    split
    ·split
     ·exact⟨Z.num,Z.nxt,Z.rea,Z.tol,Z.off,Z.tk,Z.took,Z.ahe,Z.hit⟩
     ·exact⟨Z.num,Z.nxt,Z.rea,Z.tol,Z.off,Z.tk,Z.took,Z.ahe,Z.hit⟩
    ·exact⟨Z.num,Z.nxt,by dsimp only;omega,by dsimp only;omega,Z.off,Z.tk,Z.took,Z.ahe,Z.hit⟩
   ·split
    ·exact⟨by show s.number+1<=n+1;omega,Z.nxt,Z.rea,Z.tol,Z.off,Z.tk,Z.took,Z.ahe,Z.hit⟩
    ·exact⟨Z.num,Z.nxt,Z.rea,Z.tol,Z.off,Z.tk,Z.took,Z.ahe,Z.hit⟩
theorem BJ.stepMg(h:BJ c H D n s):BJ c H D (n+1) (stepMg s):=by
 have Z:=h.up;have h2:=h.nxt;unfold Proofs.YtaamacoicojhnaaGreat.stepMg takeM flushM Hr
 repeat' split
 all_goals first
  |exact⟨Z.num,Z.nxt,Z.rea,Z.tol,Z.off,Z.tk,Z.took,Z.ahe,Z.hit⟩
  |exact⟨Z.num,by show s.next+1<=n+1;omega,Z.rea,Z.tol,Z.off,Z.tk,Z.took,Z.ahe,Z.hit⟩
theorem BJ.stepE(h:BJ c H D n s):BJ c H D (n+1) (stepE c s):=by
 have Z:=h.up;have h5:=h.off;have h6:=h.tk;have h7:=h.took;unfold Proofs.YtaamacoicojhnaaGreat.stepE offerE Fr
 repeat' split
 all_goals first
  |exact⟨Z.num,Z.nxt,Z.rea,Z.tol,Z.off,Z.tk,Z.took,Z.ahe,Z.hit⟩
  |exact⟨Z.num,Z.nxt,Z.rea,Z.tol,by show s.off+1<=n+1;omega,by show(s.tk++[_]).length<=n+1;rw[List.length_append];simp;omega,by show(s.took++[_]).length<=n+1;rw[List.length_append];simp;omega,Z.ahe,Z.hit⟩
  |exact⟨Z.num,Z.nxt,Z.rea,Z.tol,by show s.off+1<=n+1;omega,Z.tk,Z.took,Z.ahe,Z.hit⟩
theorem BJ.step(h:BJ c H D n s)(X:c.K<=256)(V:∀(i:Nat)(x:WkM),s.wk[i]?=some x->x.done<=(c.scan x.blk.start x.blk.warm x.blk.data x.node x.done).2.1/\(c.scan x.blk.start x.blk.warm x.blk.data x.node x.done).2.1<=D/\(c.scan x.blk.start x.blk.warm x.blk.data x.node x.done).2.2.1.length<=H*((c.scan x.blk.start x.blk.warm x.blk.data x.node x.done).2.1-x.done))(Y:Bj c s k=true):BJ c H D (n+1) (Bi c s k):=by
 unfold Bj at Y;unfold Bi
 split at Y
 ·rw[Lc (by assumption)];exact h.stepR X
 ·rw[Lb (by assumption)]
  split at Y
  ·rw[Lc (by assumption)];obtain⟨x,Z,h4⟩:=JH Y;unfold stepW
   repeat' split
   all_goals first
    |exact(h.stopW Z).up
    |exact(h.takeW Z).up
    |exact h.scanW Z (V _ x Z)
    |exact(h.putWM Z).up
  ·rw[Lb (by assumption)]
   split at Y
   ·rw[Lc (by assumption)];exact h.stepMg
   ·rw[Lb (by assumption)];exact h.stepE
end
def FS(l:List Int):Prop:=∀x∈l,0<=x/\x<=255
theorem alg(m:Int)(rs:La)(h:∀r∈rs,FS r):FS (BR m rs):=by
 cases rs with
 |nil=>intro x Z;cases Z
 |cons r t=>
  have Y:=h r sm;show FS (if m<1 then [] else Dg m r)
  split
  ·intro x Z;cases Z
  ·unfold Dg
   split
   ·exact Y
   ·intro x Z;exact Y x (EG Z)
theorem alu(m:Int)(rs:La)(L:Nat)(h:∀r∈rs,FS r/\r.length<=L):∀r∈EB m rs,FS r/\r.length<=L:=by
 cases rs with
 |nil=>intro x Y;cases Y
 |cons r t=>
  have V:=h r sm;have X:∀q∈t,FS q/\q.length<=L:=λq Z=>h q (by simp[Z]);show ∀q∈(if m<1 then r::t else GX m r t),FS q/\q.length<=L
  split
  ·exact h
  ·unfold GX
   split
   ·exact X
   ·intro q Z
    rcases CR.1 Z with rfl|Z
    ·exact⟨λx Y=>V.1 x (Iq Y),by rw[List.length_drop];omega⟩
    ·exact X q Z
theorem ai1(K own:Nat)(rs:La)(h:own<=K):own+(BR ((K:Int)-own) rs).length<=K:=by
 cases rs with
 |nil=>exact h
 |cons x t=>
  show own+(if(K:Int)-own<1 then [] else Dg ((K:Int)-own) x).length<=K
  by_cases h1:(K:Int)-own<1
  ·rw[Lc h1];exact h
  ·rw[Lb h1];unfold Dg
   by_cases h2:(x.length:Int)<=(K:Int)-own
   ·rw[Lc h2];omega
   ·rw[Lb h2,Ag];omega
structure Aq(c:CfM)(L:Nat)(s:PlM):Prop where
 tal:s.rd.tail.length<=c.wm/\FS s.rd.tail
 rsb:∀r∈s.rs,FS r/\r.length<=L
 buf:(s.rd.ph=2∨s.rd.ph=3)->∃x0,s.ds[s.rd.buf]?=some x0/\x0.length=s.rd.warm+s.rd.own/\s.rd.own<=c.K/\s.rd.warm<=c.wm/\FS x0
 q:∀b∈s.q,b.data.length<=c.K+c.wm
 wd:∀(i:Nat)(x:WkM),s.wk[i]?=some x->x.blk.data.length<=c.K+c.wm
section
variable {c:CfM}{s t:PlM}{i k L:Nat}{x:WkM}
theorem Aq.same(h:Aq c L s)(Z:t.rd=s.rd)(N:t.rs=s.rs)(U:t.ds=s.ds)(V:∀b∈t.q,b∈s.q)(X:t.wk=s.wk):Aq c L t:=⟨by rw[Z];exact h.tal,by rw[N];exact h.rsb,by rw[Z,U];exact h.buf,λb Y=>h.q b (V b Y),by rw[X];exact h.wd⟩
theorem Aq.wk(h:Aq c L s)(Z:t.rd=s.rd)(I:t.rs=s.rs)(J:t.ds=s.ds)(N:∀b∈t.q,b∈s.q){f:WkM->WkM}(U:t.wk=s.wk.modify i f)(Y:s.wk[i]?=some x)(X:(f x).blk.data.length<=c.K+c.wm):Aq c L t:=⟨by rw[Z];exact h.tal,by rw[I];exact h.rsb,by rw[Z,J];exact h.buf,λb V=>h.q b (N b V),by rw[U];exact Ju (p:=λy=>y.blk.data.length<=c.K+c.wm) h.wd Y X⟩
theorem Aq.takeW(h:Aq c L s)(Z:s.wk[i]?=some x):Aq c L (takeW s i):=by
 have V:=h.wd i x Z;unfold Proofs.YtaamacoicojhnaaGreat.takeW
 split
 ·exact h.wk (f:=λw=>{w with ph:=4}) rfl rfl rfl (λb U=>U) rfl Z V
 ·rename_i b q Y
  exact h.wk (f:=λw=>{w with ph:=2,blk:=b}) rfl rfl rfl (λy X=>by rw[Y];exact MT _ X) rfl Z (h.q b (by rw[Y];simp))
theorem Aq.scanW(h:Aq c L s)(Z:s.wk[i]?=some x):Aq c L (scanW c s i):=by have Y:=h.wd i x Z;unfold Proofs.YtaamacoicojhnaaGreat.scanW;exact h.wk (f:=λw=>{w with node:=(c.scan w.blk.start w.blk.warm w.blk.data w.node w.done).1,done:=(c.scan w.blk.start w.blk.warm w.blk.data w.node w.done).2.1,hits:=w.hits++(c.scan w.blk.start w.blk.warm w.blk.data w.node w.done).2.2.1,ph:=if(c.scan w.blk.start w.blk.warm w.blk.data w.node w.done).2.2.2 then 3 else w.ph}) rfl rfl rfl (λb X=>X) rfl Z Y
theorem AW.other(h:AW c s)(U:Az s)(Y:s.wk[i]?=some x)(V:x.ph=2∨x.ph=3)(X:s.rd.ph=2∨s.rd.ph=3):x.blk.buf≠s.rd.buf:=λe=>by
 have h1:hW x=[x.blk]:=by unfold hW;rw[Lc V]
 have Z:=h.cnt x.blk.buf;rw[EQ,KG (U.ho.2 X),KO,Lc e]at Z;have N:0<((s.wk.flatMap hW).map Bc.buf).count x.blk.buf:=Iv.2 (Be.2 ⟨x.blk,Ir.2 ⟨x,AX Y,by rw[h1];simp⟩,rfl⟩)
 split at Z<;>omega
theorem Aq.leaveW(h:Aq c L s)(hB:AW c s)(N:Az s)(Z:s.wk[i]?=some x)(U:x.ph=2∨x.ph=3):Aq c L (leaveW s i):=by
 rw[Ly Z];refine⟨h.tal,h.rsb,λX=>?_,h.q,Ju (p:=λy=>y.blk.data.length<=c.K+c.wm) h.wd Z (AR _)⟩;obtain⟨Y,V,J⟩:=h.buf X;refine⟨Y,?_,J⟩;show(if Cr s.us x.blk.buf then s.ds.set x.blk.buf [] else s.ds)[s.rd.buf]?=some Y
 split
 ·rw[Gr,Lb (hB.other N Z U X)];exact V
 ·exact V
theorem Aq.putWM(h:Aq c L s)(hB:AW c s)(Z:Az s)(Y:s.wk[i]?=some x)(X:x.ph=2∨x.ph=3):Aq c L (putWM s i):=by unfold Proofs.YtaamacoicojhnaaGreat.putWM;rw[Y];exact Aq.leaveW (s:={s with rg:=s.rg.set (x.blk.num-s.next) (some x.hits)}) (h.same rfl rfl rfl (λb V=>V) rfl) (hB.ring _) ⟨Z.ph,Z.ho,Z.wp,Z.mp,Z.ep⟩ Y X
end
section
variable {c:CfM}{s t:PlM}{i k L:Nat}{x:WkM}
theorem Aq.stopW(h:Aq c L s)(hB:AW c s)(V:Az s)(Z:s.wk[i]?=some x)(J:1<=x.ph/\x.ph<=3):Aq c L (stopW s i):=by
 unfold Proofs.YtaamacoicojhnaaGreat.stopW;rw[Fc Z]
 by_cases h1:x.ph=1
 ·dsimp only;rw[Lc h1];have Y:=h.takeW Z;have N:=hB.takeW Z h1;have U:=V.takeW Z
  cases X:s.q with
  |nil=>
   have e:(Proofs.YtaamacoicojhnaaGreat.takeW s i).wk[i]?=some {x with ph:=4}:=by unfold Proofs.YtaamacoicojhnaaGreat.takeW;rw[X];exact KW Z _
   rw[Fc e,Lc rfl];exact Y
  |cons b q=>
   have e:(Proofs.YtaamacoicojhnaaGreat.takeW s i).wk[i]?=some {x with ph:=2,blk:=b}:=by unfold Proofs.YtaamacoicojhnaaGreat.takeW;rw[X];exact KW Z _
   rw[Fc e,Lb (show ¬(2=4) by decide)];exact Y.leaveW N U e (.inl rfl)
 ·dsimp only;rw[Lb h1,Fc Z,Lb om];exact h.leaveW hB V Z om
theorem Aq.stepW(h:Aq c L s)(hB:AW c s)(Y:Az s)(Z:s.wk[i]?=some x)(X:1<=x.ph/\x.ph<=3):Aq c L (stepW c s i):=by
 unfold Proofs.YtaamacoicojhnaaGreat.stepW;rw[Fc Z]
 split
 ·exact h.stopW hB Y Z X
 ·split
  ·exact h.takeW Z
  ·split
   ·exact h.scanW Z
   ·exact h.putWM hB Y Z om
theorem Aq.rdN(h:Aq c L s)(U:t.rd.tail=s.rd.tail)(V:t.rs=s.rs)(X:¬(t.rd.ph=2∨t.rd.ph=3))(Y:t.q=s.q)(Z:t.wk=s.wk):Aq c L t:=⟨by rw[U];exact h.tal,by rw[V];exact h.rsb,λe=>absurd e X,by rw[Y];exact h.q,by rw[Z];exact h.wd⟩
theorem Aq.takeR(h:Aq c L s)(hB:AW c s)(U:s.fr≠[]):Aq c L (takeR s):=by
 obtain⟨n,Y⟩:∃n,s.fr.getLast?=some n:=⟨_,MV U⟩;have V:n∈s.fr:=by obtain⟨l,e⟩:=List.getLast?_eq_some_iff.1 Y;rw[e];simp
 have X:=hB.uf n V;have Z:n<s.ds.length:=by have:=(AP.1 X).1;rw[hB.ul]at this;rw[hB.dl];exact this
 unfold Proofs.YtaamacoicojhnaaGreat.takeR;rw[Y];refine⟨h.tal,h.rsb,λ_=>⟨s.rd.tail,?_,rfl,AR _,h.tal.1,h.tal.2⟩,h.q,h.wd⟩;show((s.ds.set n []).set n s.rd.tail)[n]?=some s.rd.tail;rw[Gr,Lc rfl,Lc (by rw[BG];exact Z)]
theorem Aq.readR(h:Aq c L s)(D:s.rd.ph=2):Aq c L (readR c s):=by
 obtain⟨V,X,B,I,J,N⟩:=h.buf (.inl D);have Y:=(AP.1 X).1;unfold Proofs.YtaamacoicojhnaaGreat.readR;dsimp only
 split
 ·split
  ·exact⟨h.tal,h.rsb,λ_=>⟨V,X,B,I,J,N⟩,h.q,h.wd⟩
  ·exact h.rdN rfl rfl (by show ¬((4:Nat)=2∨(4:Nat)=3);omega) rfl rfl
 ·have U:=alg ((c.K:Int)-s.rd.own) s.rs λr H=>(h.rsb r H).1;have C:=ai1 c.K s.rd.own s.rs I;refine⟨⟨by dsimp only;rw[List.length_drop];omega,λy Z=>?_⟩,alu _ _ _ h.rsb,λ_=>⟨V++BR ((c.K:Int)-s.rd.own) s.rs,?_,?_,?_,J,λy Z=>?_⟩,h.q,h.wd⟩
  ·rcases Bf.1 (Iq Z)with h1|h1
   ·exact h.tal.2 y h1
   ·exact U y h1
  ·dsimp only;rw[Gr,Lc rfl,Lc Y,DZ,X]
   rfl
  ·dsimp only;rw[List.length_append];omega
  ·dsimp only;exact C
  ·rcases Bf.1 Z with h1|h1
   ·exact N y h1
   ·exact U y h1
theorem Aq.putR(h:Aq c L s)(Z:s.rd.ph=3):Aq c L (putR c s):=by
 obtain⟨V,X,I,J,N,U⟩:=h.buf (.inr Z);unfold Proofs.YtaamacoicojhnaaGreat.putR;refine⟨h.tal,h.rsb,λe=>?_,λb Y=>?_,h.wd⟩
 ·have e:(if s.rd.ended then 4 else 1)=2∨(if s.rd.ended then 4 else 1)=3:=e
  split at e<;>omega
 ·rcases Bf.1 Y with h1|h1
  ·exact h.q b h1
  ·rw[Fq.1 h1];dsimp only;rw[DZ,X,CG];omega
theorem Aq.stepR(h:Aq c L s)(hB:AW c s)(V:Az s)(h5:s.rd.ph≠5)(X:s.cancelled=false->s.rd.ph=1->s.fr≠[]):Aq c L (stepR c s):=by
 have Z:¬((5:Nat)=2∨(5:Nat)=3):=by omega
 unfold Proofs.YtaamacoicojhnaaGreat.stepR
 split
 ·unfold stopR shutR backR
  split
  ·exact h.rdN rfl rfl Z rfl rfl
  ·exact h.rdN rfl rfl Z rfl rfl
 ·rename_i Y
  split
  ·exact h.takeR hB (X (by simpa using Y) (by assumption))
  ·split
   ·exact h.readR (by assumption)
   ·split
    ·exact h.putR (by assumption)
    ·exact h.rdN rfl rfl Z rfl rfl
theorem Aq.stepMg(h:Aq c L s):Aq c L (stepMg s):=by
 unfold Proofs.YtaamacoicojhnaaGreat.stepMg takeM flushM Hr
 repeat' split
 all_goals exact h.same rfl rfl rfl (λb Z=>Z) rfl
theorem Aq.stepE(h:Aq c L s):Aq c L (stepE c s):=by
 unfold Proofs.YtaamacoicojhnaaGreat.stepE offerE Fr
 repeat' split
 all_goals exact h.same rfl rfl rfl (λb Z=>Z) rfl
theorem Aq.step(h:Aq c L s)(Y:EE c s)(Z:Bj c s k=true):Aq c L (Bi c s k):=by
 unfold Bj at Z;unfold Bi
 split at Z
 ·rw[Lc (by assumption)];have h5:s.rd.ph≠5:=λe=>by unfold Ck at Z;rw[Lc e]at Z;cases Z
  refine h.stepR Y.b Y.a.r h5 λN X=>Y.b.free (Y.n N) Y.a.r X ?_;have V:¬s.cancelled=true:=by rw[N];decide
  unfold Ck at Z;rw[Lb h5,Lb V,Lc X]at Z;exact Z
 ·rw[Lb (by assumption)]
  split at Z
  ·rw[Lc (by assumption)];obtain⟨x,U,h4⟩:=JH Z;have X:=Y.a.r.wp _ x U;exact h.stepW Y.b Y.a.r U om
  ·rw[Lb (by assumption)]
   split at Z
   ·rw[Lc (by assumption)];exact h.stepMg
   ·rw[Lb (by assumption)];exact h.stepE
end
theorem aos{c:CfM}{s:PlM}{H D n L:Nat}(V:OkC c)(J:EE c s)(Z:BJ c H D n s)(C:Aq c L s)(hn:n<=3900)(a2:H*D<=1000000)(hL:L<=1000000)(hH:∀(i:Nat)(x:WkM),s.wk[i]?=some x->x.done<=(c.scan x.blk.start x.blk.warm x.blk.data x.node x.done).2.1/\(c.scan x.blk.start x.blk.warm x.blk.data x.node x.done).2.1<=D/\(c.scan x.blk.start x.blk.warm x.blk.data x.node x.done).2.2.1.length<=H*((c.scan x.blk.start x.blk.warm x.blk.data x.node x.done).2.1-x.done)):OkM c s:=by
 have U:=J.a.r;have X:=J.a.f;have hB:=J.b;have w1:=V.W;have w2:=V.K;have w3:=V.R;have w4:=V.O;have w5:=V.F;have w6:=V.wm;have g1:=Z.num;have g2:=Z.nxt;have g3:=Z.rea;have g4:=Z.tol;have g5:=Z.off;have g6:=Z.tk;have g7:=Z.took;have g8:=Z.ahe;have N:=hB.perm.length_eq;rw[List.length_append,List.length_range]at N;have a1:=X.ol;refine⟨X.wl,X.gl,by omega,λx Y=>(AP.1 (hB.uf x Y)).1,by rw[hB.dl,hB.ul],by omega,by omega,by omega,by omega,λr hr=>AS (C.rsb r hr).2 hL,C.tal.1,by omega,by omega,by omega,by omega,U.ph,by omega,λh1 h2 h3=>hB.free (J.n h2) U h1 h3,λI=>?_,λh5=>by rw[X.shu,decide_eq_false h5],λi x Y=>?_,λi x Y I B=>?_,U.mp,λh1 _=>X.ml h1,λh3=>by rw[X.en,decide_eq_false h3],U.ep⟩
 ·obtain⟨A,q1,h,j,y,z⟩:=C.buf I;refine⟨A,hB.ut _ ?_,q1,h,j,y,z⟩;unfold Cu;rw[KG (U.ho.2 I)];simp
 ·have h1:=U.wp i x Y;have h2:=C.wd i x Y;have h3:=Z.hit i x Y;have h4:=hH i x Y;have e:H*x.done+H*((c.scan x.blk.start x.blk.warm x.blk.data x.node x.done).2.1-x.done)=H*(c.scan x.blk.start x.blk.warm x.blk.data x.node x.done).2.1:=by rw[<-Nat.mul_add];congr 1;omega
  have e2:=Nat.mul_le_mul_left H h4.2.1;exact⟨h1.1,h1.2,by omega,λ_=>by omega⟩
 ·obtain⟨p1,p2,p3,p4⟩:=(J.n B).place X.gl Y (.inr I);exact⟨p1,p3,p4,by omega⟩
theorem ajM{c:CfM}{H D:Nat}(rs:La):BJ c H D 0 (Bn c rs):=by refine⟨AC _,AC _,AC _,AC _,AC _,AC _,AC _,AC _,λi x Z=>?_⟩;have:=Ho (AX (show(List.replicate c.W (wk0 1))[i]?=some x from Z));rw[this];exact⟨AR _,AR _⟩
theorem ak3{c:CfM}{L:Nat}(rs:La)(h:∀r∈rs,FS r/\r.length<=L):Aq c L (Bn c rs):=by
 refine⟨⟨AR _,λx Z=>by cases Z⟩,h,λe=>?_,λb Y=>(by cases Y),λi x Z=>?_⟩
 ·have e:(1:Nat)=2∨(1:Nat)=3:=e;omega
 ·have:=Ho (AX (show(List.replicate c.W (wk0 1))[i]?=some x from Z));rw[this];exact AR _
def ML(c:CfM)(H D:Nat):Prop:=∀(Y wm:Nat)(Z:List Int)(z d:Nat),Z.length<=c.K+c.wm->d<=D->d<=(c.scan Y wm Z z d).2.1/\(c.scan Y wm Z z d).2.1<=D/\(c.scan Y wm Z z d).2.2.1.length<=H*((c.scan Y wm Z z d).2.1-d)
structure FC(c:CfM)(H D L n:Nat)(s:PlM):Prop where
 p:EE c s
 g:BJ c H D n s
 d:Aq c L s
section
variable {c:CfM}{s:PlM}{H D L n k:Nat}
theorem FC.step(h:FC c H D L n s)(X:c.K<=256)(V:ML c H D)(Z:Bj c s k=true):FC c H D L (n+1) (Bi c s k):=⟨h.p.step Z,h.g.step X (λi x Y=>V _ _ _ _ _ (h.d.wd i x Y) (h.g.hit i x Y).2) Z,h.d.step h.p Z⟩
theorem FC.up(h:FC c H D L n s):FC c H D L (n+1) s:=⟨h.p,h.g.up,h.d⟩
theorem FC.pick(h:FC c H D L n s)(Y:c.K<=256)(X:ML c H D)(m:Int):FC c H D L (n+1) (Fi c s m):=by
 unfold Fi
 cases Z:EZ c s m with
 |none=>exact h.up
 |some k=>exact h.step Y X (aaO Z).2
theorem FC.cancel(h:FC c H D L n s):FC c H D L n (LN s):=by
 refine⟨h.p.cancel,?_,?_⟩
 ·unfold LN
  split
  ·exact h.g
  ·exact⟨h.g.num,h.g.nxt,h.g.rea,h.g.tol,h.g.off,h.g.tk,h.g.took,h.g.ahe,h.g.hit⟩
 ·unfold LN
  split
  ·exact h.d
  ·exact h.d.same rfl rfl rfl (λb Z=>Z) rfl
theorem FC.new(hW:1<=c.W)(rs:La)(h:∀r∈rs,FS r/\r.length<=L):FC c H D L 0 (Bn c rs):=⟨ajp hW rs,ajM rs,ak3 rs h⟩
theorem FC.ok(h:FC c H D L n s)(V:OkC c)(X:n<=3900)(Z:H*D<=1000000)(U:L<=1000000)(N:ML c H D):OkM c s:=aos V h.p h.g h.d X Z U λi x Y=>N _ _ _ _ _ (h.d.wd i x Y) (h.g.hit i x Y).2
end
abbrev blV(Y Z wm:Int)(a:Option Addr)(n c:Nat):Array Value:=#[int i64 Y,int i64 Z,int i64 wm,slice a n c]
def Dh(L Z wm:Int)(n:Nat):Bool:=decide (0<=Z/\Z<=4611686020574871551/\0<=wm/\wm<=L-1/\wm<=Z/\1<=(n:Int)-wm/\(n:Int)-wm<=256)
theorem agK{wss:La}(h:∀x∈wss,x.length<=1000000):0<=Au wss/\Au wss<=1000000:=by obtain⟨N,h1,_,h3⟩:=acs wss;have:=h3 1000000 h;omega
theorem adj{W0:World}{B:Nat}{fold:Bool}{wss:La}(nu U wm:Int)(a:Option Addr)(n c:Nat)(w:World)(h:ET W0 B fold wss w)(hn:n<=1000000) :Calls ZP 268 #[pointer (some ⟨B,0,none⟩),.agg (blV nu U wm a n c)] w λe w'=>e=.returned (bool (Dh (Au wss) U wm n))/\Bt w w':=by
 obtain⟨W,hW⟩:∃W,W=w.alloc (.cells (blV nu U wm a n c) 120):=⟨_,rfl⟩;have hB:Bt w W:=by rw[hW];exact AL _ _
 have hz:W.heap[w.heap.size]?=some (.cells (blV nu U wm a n c) 120 (0,0)):=by rw[hW];exact AT _ _
 have Z:Hid (∀V,Bt W V->V.cell? ⟨w.heap.size,0,none⟩=some (int i64 nu)/\V.cell? ⟨w.heap.size,1,none⟩=some (int i64 U)/\V.cell? ⟨w.heap.size,2,none⟩=some (int i64 wm)/\V.cell? ⟨w.heap.size,3,none⟩=some (slice a n c)/\w.heap.size<V.heap.size):=λV hV=>by have h:=(hV.block _ (AD.1 hz).1).trans hz;exact⟨by simp[cell?,h],by simp[cell?,h],by simp[cell?,h],by simp[cell?,h],(AD.1 h).1⟩
 obtain⟨m0,m1⟩:=agK h.len;obtain⟨L,hL⟩:∃n,Au wss=n:=⟨_,rfl⟩;have HU:=AA (h.below hB);have KS:Hid (∀V,Bt W V->Calls ZP 95 #[pointer (some ⟨B,0,none⟩)] V λe w'=>e=.returned (int i64 L)/\V=w'):=λV hV=>by have h:=(HU.out.below hV).longest;rw[hL]at h;exact h
 rw[hL]at m0 m1⊢;have H:=AA hB;obtain⟨j,s,x,y,z⟩:=Z.out W (AH _ _);clear hz h hB hL HU;go_enter func268,ntmps268;go_upto_region 1 with fail
 rw[<-hW];clear hW
 by_cases h0:U<0
 ·have d0:decide (U<(0:Int))=true:=by simpa using h0
  have e:Dh L U wm n=false:=by unfold Dh;simp;omega
  have I:=AA e;clear e h0;go_wp2;go_ret;exact⟨by rw[I.out];rfl,H.out⟩
 have d0:decide (U<(0:Int))=false:=by simpa using h0
 by_cases h1:4611686020574871551<U
 ·have d1:decide ((4611686020574871551:Int)<U)=true:=by simpa using h1
  have e:Dh L U wm n=false:=by unfold Dh;simp;omega
  have I:=AA e;clear e h0 h1;go_wp2;go_ret;exact⟨by rw[I.out];rfl,H.out⟩
 have d1:decide ((4611686020574871551:Int)<U)=false:=by simpa using h1
 go_upto_region 3 with fail
 clear d0 d1
 by_cases h2:wm<0
 ·have d2:decide (wm<(0:Int))=true:=by simpa using h2
  have e:Dh L U wm n=false:=by unfold Dh;simp;omega
  have I:=AA e;clear e h0 h1 h2;refine Vb ?_;refine Va (S:=Bt W) kr (AN W 1) (λJ=>?_);obtain⟨A,Y⟩:∃X,X=W.drew:=⟨_,rfl⟩;rw[<-Y]at J⊢;clear Y j s x y z;refine tkB 0 Z.out ?_;refine tkB 1 Z.out ?_;refine tkB 2 Z.out ?_;refine tkB 3 Z.out ?_;refine tkN 4 ?_
  try simp only[pq]
  refine tkN 5 ?_
  try simp only[pq]
  refine tkN 6 ?_
  try simp only[pq]
  refine tkN 7 ?_
  try simp only[pq]
  refine tkN 8 ?_
  try simp only[pq]
  refine tkN 9 ?_
  try simp only[pq]
  refine tkA 10 ?_;refine tkA 11 ?_;refine tkN 12 ?_
  try simp only[pq]
  refine tkN 13 ?_
  try simp only[pq]
  refine tkN 14 ?_
  try simp only[pq]
  refine tkN 15 ?_
  try simp only[pq]
  refine tkN 16 ?_
  try simp only[pq]
  refine tkA 17 ?_;refine Vd kr ?_ _;refine At ?_;have C:=AA J;go_wp2;go_ret;exact⟨by rw[I.out];rfl,H.out.trans (C.out.mono H.out.size)⟩
 have d2:decide (wm<(0:Int))=false:=by simpa using h2
 have a1:0<=wm:=by omega
 have kw:IntKind.i64.wrap (L-1)=L-1:=by rw[BK];omega
 by_cases h3:L-1<wm
 ·have d3:decide (L-1<wm)=true:=by simpa using h3
  have e:Dh L U wm n=false:=by unfold Dh;simp;omega
  have I:=AA e;clear e h0 h1 h2 h3;refine Vb ?_;refine Va (S:=Bt W) kr (AN W 1) (λJ=>?_);obtain⟨A,Y⟩:∃X,X=W.drew:=⟨_,rfl⟩;rw[<-Y]at J⊢;clear Y j s x y z;refine tkB 0 Z.out ?_;refine tkB 1 Z.out ?_;refine tkB 2 Z.out ?_;refine tkB 3 Z.out ?_;refine tkB 4 Z.out ?_;refine tkB 5 Z.out ?_;refine tkB 6 Z.out ?_;refine rdy 7 (λK D=>?_);go_simp
  go_at_call 95;refine(KS.out A J).mono ?_;rintro e w2 ⟨rfl,rfl⟩
  refine D.out _ _ (J) (λN=>?_);clear D K
  try simp only[pq]
  refine tkA 8 ?_;refine tkA 9 ?_;refine tkA 10 ?_;refine tkA 11 ?_;refine tkN 12 ?_
  try simp only[pq]
  refine tkN 13 ?_
  try simp only[pq]
  refine tkN 14 ?_
  try simp only[pq]
  refine tkN 15 ?_
  try simp only[pq]
  refine tkN 16 ?_
  try simp only[pq]
  refine tkA 17 ?_;refine Vd kr ?_ _;refine At ?_;have C:=AA N;go_wp2;go_ret;exact⟨by rw[I.out];rfl,H.out.trans (C.out.mono H.out.size)⟩
 have d3:decide (L-1<wm)=false:=by simp;omega
 by_cases h4:U<wm
 ·have d4:decide (U<wm)=true:=by simpa using h4
  have e:Dh L U wm n=false:=by unfold Dh;simp;omega
  have I:=AA e;clear e h0 h1 h2 h3 h4;refine Vb ?_;refine Va (S:=Bt W) kr (AN W 1) (λJ=>?_);obtain⟨A,Y⟩:∃X,X=W.drew:=⟨_,rfl⟩;rw[<-Y]at J⊢;clear Y j s x y z;refine tkB 0 Z.out ?_;refine tkB 1 Z.out ?_;refine tkB 2 Z.out ?_;refine tkB 3 Z.out ?_;refine tkB 4 Z.out ?_;refine tkB 5 Z.out ?_;refine tkB 6 Z.out ?_;refine rdy 7 (λK D=>?_);go_simp
  go_at_call 95;refine(KS.out A J).mono ?_;rintro e w2 ⟨rfl,rfl⟩
  refine D.out _ _ (J) (λN=>?_);clear D K
  try simp only[pq]
  refine tkB 8 Z.out ?_;refine tkB 9 Z.out ?_;refine tkB 10 Z.out ?_;refine tkB 11 Z.out ?_;refine tkB 12 Z.out ?_;refine tkB 13 Z.out ?_;refine tkB 14 Z.out ?_;refine tkB 15 Z.out ?_;refine tkB 16 Z.out ?_;refine tkB 17 Z.out ?_;refine Vd kr ?_ _;refine At ?_;have C:=AA N;go_wp2;go_ret;exact⟨by rw[I.out];rfl,H.out.trans (C.out.mono H.out.size)⟩
 have d4:decide (U<wm)=false:=by simp;omega
 have a2:wm<=1000000:=by omega
 have e:Dh L U wm n=(decide (1<=(n:Int)-wm)&&decide ((n:Int)-wm<=256)):=by unfold Dh;rw[Db];simp;omega
 have I:=AA e;clear e h0 h1 h2 h3 h4;refine Vb ?_;refine Va (S:=Bt W) kr (AN W 1) (λJ=>?_);obtain⟨A,Y⟩:∃X,X=W.drew:=⟨_,rfl⟩;rw[<-Y]at J⊢;clear Y j s x y z;refine tkB 0 Z.out ?_;refine tkB 1 Z.out ?_;refine tkB 2 Z.out ?_;refine tkB 3 Z.out ?_;refine tkB 4 Z.out ?_;refine tkB 5 Z.out ?_;refine tkB 6 Z.out ?_;refine rdy 7 (λK D=>?_);go_simp
 go_at_call 95;refine(KS.out A J).mono ?_;rintro e w2 ⟨rfl,rfl⟩
 refine D.out _ _ (J) (λN=>?_);clear D K
 try simp only[pq]
 refine tkB 8 Z.out ?_;refine tkB 9 Z.out ?_;refine tkB 10 Z.out ?_;refine tkB 11 Z.out ?_;refine tkB 12 Z.out ?_;refine tkB 13 Z.out ?_;refine tkB 14 Z.out ?_;refine tkB 15 Z.out ?_;refine tkB 16 Z.out ?_;refine tkB 17 Z.out ?_;refine Vd kr ?_ _;refine At ?_;have C:=AA N;obtain⟨j,s,x,y,z⟩:=Z.out A N;clear J N d2 d3 d4
 by_cases h5:1<=(n:Int)-wm
 ·have d5:decide (1<=(n:Int)-wm)=true:=by simpa using h5
  rw[d5,FJ]at I;clear h5;go_wp2;go_ret;exact⟨by rw[I.out];rfl,H.out.trans (C.out.mono H.out.size)⟩
 ·have d5:decide (1<=(n:Int)-wm)=false:=by simpa using h5
  rw[d5,Bool.false_and]at I;clear h5;go_wp2;go_ret;exact⟨by rw[I.out];rfl,H.out.trans (C.out.mono H.out.size)⟩
abbrev prV(z d:Int):Value:=.agg #[int i64 z,int i64 d]
def KK(N:Nat)(L Z wm:Int)(n:Nat)(z d:Int):Bool:=Dh L Z wm n&&decide ((0<=z/\z<(N:Int))/\0<=d/\d<=(n:Int))
theorem aao{W0:World}{B:Nat}{fold:Bool}{wss:La}(nu j wm:Int)(a:Option Addr)(n c:Nat)(z d:Int)(w:World)(h:ET W0 B fold wss w)(hn:n<=1000000) :Calls ZP 241 #[pointer (some ⟨B,0,none⟩),.agg (blV nu j wm a n c),prV z d] w λe w'=>e=.returned (bool (KK (AB wss).length (Au wss) j wm n z d))/\Bt w w':=by
 obtain⟨W,hW⟩:∃W,W=(w.alloc (.cells (blV nu j wm a n c) 120)).alloc (.cells #[int i64 z,int i64 d] 247):=⟨_,rfl⟩;have hB:Bt w W:=by rw[hW];exact((AH _ _).alloc (AC _) _).alloc sm _
 have hO:Bx w.heap.size [.cells (blV nu j wm a n c) 120,.cells #[int i64 z,int i64 d] 247] W:=by rw[hW];exact((Bx.nil _ w).snoc _ rfl).snoc _ sm
 have Z:Hid (∀V,Bt W V->V.cell? ⟨w.heap.size,0,none⟩=some (int i64 nu)/\V.cell? ⟨w.heap.size,1,none⟩=some (int i64 j)/\V.cell? ⟨w.heap.size,2,none⟩=some (int i64 wm)/\V.cell? ⟨w.heap.size,3,none⟩=some (slice a n c)/\V.cell? ⟨w.heap.size+1,0,none⟩=some (int i64 z)/\V.cell? ⟨w.heap.size+1,1,none⟩=some (int i64 d)):=λV hV=>by have h:=hO.below hV;exact⟨h.cell (i:=0) rfl rfl,h.cell (i:=0) rfl rfl,h.cell (i:=0) rfl rfl,h.cell (i:=0) rfl rfl,h.cell (i:=1) rfl rfl,h.cell (i:=1) rfl rfl⟩
 have HU:=AA (h.below hB);obtain⟨N,hN⟩:∃k,(AB wss).length=k:=⟨_,rfl⟩;obtain⟨S,a1⟩:∃k,Dh (Au wss) j wm n=k:=⟨_,rfl⟩;have KS:Hid (∀V,Bt W V->Calls ZP 269 #[pointer (some ⟨B,0,none⟩)] V λe w'=>e=.returned (int i64 (N:Int))/\V=w'):=λV hV=>by have h:=(HU.out.below hV).states;rw[hN]at h;exact h
 have KN:Hid (∀V,Bt W V->Calls ZP 268 #[pointer (some ⟨B,0,none⟩),.agg (blV nu j wm a n c)] V λe w'=>e=.returned (bool S)/\Bt V w'):=λV hV=>by have h:=adj nu j wm a n c V (HU.out.below hV) hn;rw[a1]at h;exact h
 unfold KK;rw[hN,a1];have A:=AA hB;clear hO h hB hN a1 HU
 cases S with
 |false=>
  have s:Hid ((false&&decide ((0<=z/\z<(N:Int))/\0<=d/\d<=(n:Int)))=false):=rfl;go_enter func241,ntmps241;go_upto_region 1 with fail
  rw[<-hW];clear hW;refine Vb ?_;refine Va (S:=Bt W) kr (AN W 1) (λJ=>?_);obtain⟨y,Y⟩:∃X,X=W.drew:=⟨_,rfl⟩;rw[<-Y]at J⊢;clear Y;refine tkB 0 Z.out ?_;refine tkB 1 Z.out ?_;refine rdy 2 (λK I=>?_);go_simp
  go_at_call 268;refine(KN.out y J).mono ?_;rintro e w2 ⟨rfl,H⟩
  refine I.out _ _ (J.trans (H.mono J.size)) (λU=>?_);clear I K
  try simp only[pq]
  refine tkA 3 ?_;refine tkN 4 ?_
  try simp only[pq]
  refine tkN 5 ?_
  try simp only[pq]
  refine tkN 6 ?_
  try simp only[pq]
  refine tkA 7 ?_;refine tkA 8 ?_;refine tkN 9 ?_
  try simp only[pq]
  refine tkN 10 ?_
  try simp only[pq]
  refine tkN 11 ?_
  try simp only[pq]
  refine tkN 12 ?_
  try simp only[pq]
  refine tkN 13 ?_
  try simp only[pq]
  refine tkA 14 ?_;refine tkA 15 ?_;refine tkN 16 ?_
  try simp only[pq]
  refine tkN 17 ?_
  try simp only[pq]
  refine tkN 18 ?_
  try simp only[pq]
  refine tkA 19 ?_;refine tkA 20 ?_;refine tkN 21 ?_
  try simp only[pq]
  refine tkN 22 ?_
  try simp only[pq]
  refine tkN 23 ?_
  try simp only[pq]
  refine tkN 24 ?_
  try simp only[pq]
  refine tkN 25 ?_
  try simp only[pq]
  refine tkN 26 ?_
  try simp only[pq]
  refine tkA 27 ?_;refine tkA 28 ?_;refine Vd kr ?_ _;refine At ?_;have x:=AA U;go_wp2;go_ret;exact⟨by rw[s.out];rfl,A.out.trans (x.out.mono A.out.size)⟩
 |true=>
  by_cases h0:0<=z
  case neg=>
   have d0:decide ((0:Int)<=z)=false:=by simpa using h0
   have e:(true&&decide ((0<=z/\z<(N:Int))/\0<=d/\d<=(n:Int)))=false:=by
    rw[FJ]
    first|exact decide_eq_false om|exact Lz om
   have s:=AA e;clear e h0;go_enter func241,ntmps241;go_upto_region 1 with fail
   rw[<-hW];clear hW;refine Vb ?_;refine Va (S:=Bt W) kr (AN W 1) (λJ=>?_);obtain⟨y,Y⟩:∃X,X=W.drew:=⟨_,rfl⟩;rw[<-Y]at J⊢;clear Y;refine tkB 0 Z.out ?_;refine tkB 1 Z.out ?_;refine rdy 2 (λK I=>?_);go_simp
   go_at_call 268;refine(KN.out y J).mono ?_;rintro e w2 ⟨rfl,H⟩
   refine I.out _ _ (J.trans (H.mono J.size)) (λU=>?_);clear I K
   try simp only[pq]
   refine tkB 3 Z.out ?_;refine tkB 4 Z.out ?_;refine tkB 5 Z.out ?_;refine tkB 6 Z.out ?_;refine tkB 7 Z.out ?_;refine tkB 8 Z.out ?_;refine tkN 9 ?_
   try simp only[pq]
   refine tkN 10 ?_
   try simp only[pq]
   refine tkN 11 ?_
   try simp only[pq]
   refine tkN 12 ?_
   try simp only[pq]
   refine tkN 13 ?_
   try simp only[pq]
   refine tkA 14 ?_;refine tkA 15 ?_;refine tkN 16 ?_
   try simp only[pq]
   refine tkN 17 ?_
   try simp only[pq]
   refine tkN 18 ?_
   try simp only[pq]
   refine tkA 19 ?_;refine tkA 20 ?_;refine tkN 21 ?_
   try simp only[pq]
   refine tkN 22 ?_
   try simp only[pq]
   refine tkN 23 ?_
   try simp only[pq]
   refine tkN 24 ?_
   try simp only[pq]
   refine tkN 25 ?_
   try simp only[pq]
   refine tkN 26 ?_
   try simp only[pq]
   refine tkA 27 ?_;refine tkA 28 ?_;refine Vd kr ?_ _;refine At ?_;have x:=AA U;go_wp2;go_ret;exact⟨by rw[s.out];rfl,A.out.trans (x.out.mono A.out.size)⟩
  have d0:decide ((0:Int)<=z)=true:=by simpa using h0
  by_cases h1:z<(N:Int)
  case neg=>
   have d1:decide (z<(N:Int))=false:=by simpa using h1
   have e:(true&&decide ((0<=z/\z<(N:Int))/\0<=d/\d<=(n:Int)))=false:=by
    rw[FJ]
    first|exact decide_eq_false om|exact Lz om
   have s:=AA e;clear e h0 h1;go_enter func241,ntmps241;go_upto_region 1 with fail
   rw[<-hW];clear hW;refine Vb ?_;refine Va (S:=Bt W) kr (AN W 1) (λJ=>?_);obtain⟨y,Y⟩:∃X,X=W.drew:=⟨_,rfl⟩;rw[<-Y]at J⊢;clear Y;refine tkB 0 Z.out ?_;refine tkB 1 Z.out ?_;refine rdy 2 (λK I=>?_);go_simp
   go_at_call 268;refine(KN.out y J).mono ?_;rintro e w2 ⟨rfl,H⟩
   refine I.out _ _ (J.trans (H.mono J.size)) (λU=>?_);clear I K
   try simp only[pq]
   refine tkB 3 Z.out ?_;refine tkB 4 Z.out ?_;refine tkB 5 Z.out ?_;refine tkB 6 Z.out ?_;refine tkB 7 Z.out ?_;refine tkB 8 Z.out ?_;refine tkB 9 Z.out ?_;refine tkB 10 Z.out ?_;refine tkB 11 Z.out ?_;refine rdy 12 (λK I=>?_);go_simp
   go_at_call 269;refine(KS.out w2 U).mono ?_;rintro e w3 ⟨rfl,rfl⟩
   refine I.out _ _ (U) (λC=>?_);clear I K
   try simp only[pq]
   refine tkA 13 ?_;refine tkA 14 ?_;refine tkA 15 ?_;refine tkN 16 ?_
   try simp only[pq]
   refine tkN 17 ?_
   try simp only[pq]
   refine tkN 18 ?_
   try simp only[pq]
   refine tkA 19 ?_;refine tkA 20 ?_;refine tkN 21 ?_
   try simp only[pq]
   refine tkN 22 ?_
   try simp only[pq]
   refine tkN 23 ?_
   try simp only[pq]
   refine tkN 24 ?_
   try simp only[pq]
   refine tkN 25 ?_
   try simp only[pq]
   refine tkN 26 ?_
   try simp only[pq]
   refine tkA 27 ?_;refine tkA 28 ?_;refine Vd kr ?_ _;refine At ?_;have x:=AA C;go_wp2;go_ret;exact⟨by rw[s.out];rfl,A.out.trans (x.out.mono A.out.size)⟩
  have d1:decide (z<(N:Int))=true:=by simpa using h1
  by_cases h2:0<=d
  case neg=>
   have d2:decide ((0:Int)<=d)=false:=by simpa using h2
   have e:(true&&decide ((0<=z/\z<(N:Int))/\0<=d/\d<=(n:Int)))=false:=by
    rw[FJ]
    first|exact decide_eq_false om|exact Lz om
   have s:=AA e;clear e h0 h1 h2;go_enter func241,ntmps241;go_upto_region 1 with fail
   rw[<-hW];clear hW;refine Vb ?_;refine Va (S:=Bt W) kr (AN W 1) (λJ=>?_);obtain⟨y,Y⟩:∃X,X=W.drew:=⟨_,rfl⟩;rw[<-Y]at J⊢;clear Y;refine tkB 0 Z.out ?_;refine tkB 1 Z.out ?_;refine rdy 2 (λK I=>?_);go_simp
   go_at_call 268;refine(KN.out y J).mono ?_;rintro e w2 ⟨rfl,H⟩
   refine I.out _ _ (J.trans (H.mono J.size)) (λU=>?_);clear I K
   try simp only[pq]
   refine tkB 3 Z.out ?_;refine tkB 4 Z.out ?_;refine tkB 5 Z.out ?_;refine tkB 6 Z.out ?_;refine tkB 7 Z.out ?_;refine tkB 8 Z.out ?_;refine tkB 9 Z.out ?_;refine tkB 10 Z.out ?_;refine tkB 11 Z.out ?_;refine rdy 12 (λK I=>?_);go_simp
   go_at_call 269;refine(KS.out w2 U).mono ?_;rintro e w3 ⟨rfl,rfl⟩
   refine I.out _ _ (U) (λC=>?_);clear I K
   try simp only[pq]
   refine tkB 13 Z.out ?_;refine tkB 14 Z.out ?_;refine tkB 15 Z.out ?_;refine tkB 16 Z.out ?_;refine tkB 17 Z.out ?_;refine tkB 18 Z.out ?_;refine tkB 19 Z.out ?_;refine tkB 20 Z.out ?_;refine tkN 21 ?_
   try simp only[pq]
   refine tkN 22 ?_
   try simp only[pq]
   refine tkN 23 ?_
   try simp only[pq]
   refine tkN 24 ?_
   try simp only[pq]
   refine tkN 25 ?_
   try simp only[pq]
   refine tkN 26 ?_
   try simp only[pq]
   refine tkA 27 ?_;refine tkA 28 ?_;refine Vd kr ?_ _;refine At ?_;have x:=AA C;go_wp2;go_ret;exact⟨by rw[s.out];rfl,A.out.trans (x.out.mono A.out.size)⟩
  have d2:decide ((0:Int)<=d)=true:=by simpa using h2
  obtain⟨D,hD⟩:∃D,decide (d<=(n:Int))=D:=⟨_,rfl⟩;have e:(true&&decide ((0<=z/\z<(N:Int))/\0<=d/\d<=(n:Int)))=D:=by rw[FJ,<-hD];simp[h0,h1,h2]
  have s:=AA e;clear e h0 h1 h2;go_enter func241,ntmps241;go_upto_region 1 with fail
  rw[<-hW];clear hW;refine Vb ?_;refine Va (S:=Bt W) kr (AN W 1) (λJ=>?_);obtain⟨y,Y⟩:∃X,X=W.drew:=⟨_,rfl⟩;rw[<-Y]at J⊢;clear Y;refine tkB 0 Z.out ?_;refine tkB 1 Z.out ?_;refine rdy 2 (λK I=>?_);go_simp
  go_at_call 268;refine(KN.out y J).mono ?_;rintro e w2 ⟨rfl,H⟩
  refine I.out _ _ (J.trans (H.mono J.size)) (λU=>?_);clear I K
  try simp only[pq]
  refine tkB 3 Z.out ?_;refine tkB 4 Z.out ?_;refine tkB 5 Z.out ?_;refine tkB 6 Z.out ?_;refine tkB 7 Z.out ?_;refine tkB 8 Z.out ?_;refine tkB 9 Z.out ?_;refine tkB 10 Z.out ?_;refine tkB 11 Z.out ?_;refine rdy 12 (λK I=>?_);go_simp
  go_at_call 269;refine(KS.out w2 U).mono ?_;rintro e w3 ⟨rfl,rfl⟩
  refine I.out _ _ (U) (λC=>?_);clear I K
  try simp only[pq]
  refine tkB 13 Z.out ?_;refine tkB 14 Z.out ?_;refine tkB 15 Z.out ?_;refine tkB 16 Z.out ?_;refine tkB 17 Z.out ?_;refine tkB 18 Z.out ?_;refine tkB 19 Z.out ?_;refine tkB 20 Z.out ?_;refine tkB 21 Z.out ?_;refine tkB 22 Z.out ?_;refine tkB 23 Z.out ?_;refine tkB 24 Z.out ?_;refine tkB 25 Z.out ?_;refine tkB 26 Z.out ?_;refine tkB 27 Z.out ?_;refine tkB 28 Z.out ?_;refine Vd kr ?_ _;refine At ?_;have x:=AA C;go_wp2;go_ret;exact⟨by rw[s.out];rfl,A.out.trans (x.out.mono A.out.size)⟩
def DI(fold:Bool)(wss:La)(Z wm:Int)(n:Nat)(z d:Int):Bool:=(An fold wss&&KA (AB wss).length z 0)&&Dh (Au wss) Z wm n&&decide (0<=d/\d<=(n:Int))
def Dj(Z:Int)(l:List AF):List AF:=l.filter λh=>decide (Z<h.1)
theorem aa5(Z:Int)(l m:List AF):Dj Z (l++m)=Dj Z l++Dj Z m:=by unfold Dj;rw[List.filter_append]
def Am(n:Nat)(d m:Int):Nat:=(min (max m 0) ((n:Int)-d)).toNat
theorem Jw{n:Nat}{d m:Int}(h0:0<=d)(h1:d<=(n:Int)):d.toNat+Am n d m<=n:=by unfold Am;omega
def CU(Z:List Int)(d m:Int):List Int:=(Z.drop d.toNat).take (Am Z.length d m)
def Fs(fold:Bool)(ws:La)(Z wm:Int)(Y:List Int)(z d m:Int):List AF:=Dj Z (BQ fold ws z.toNat (Z-wm+d) (CU Y d m))
def byN(F:List Int)(j:Nat):Int:=(F[j]?).getD 0
def enN(p:Int)(F:List Int)(j:Nat):Int:=p+((min j F.length:Nat):Int)+1
def ndN(fold:Bool)(ws:La)(z:Nat)(F:List Int)(Z:List Nat):Nat:=Bp fold ws z (Z.map (byN F))
def hsN(fold:Bool)(ws:La)(Z p:Int)(F:List Int):Nat->List Nat->List AF
 |_,[]=>[]
 |z,j::r=>(if Z<enN p F j then(CA ws (EN fold ws z (byN F j))).map (λv=>((enN p F j,v):AF)) else [])++hsN fold ws Z p F (EN fold ws z (byN F j)) r
section
variable {fold:Bool}{ws:La}{F:List Int}
theorem alM(Z:∀x∈F,0<=x/\x<256)(j:Nat):0<=byN F j/\byN F j<256:=by
 unfold byN
 cases h:F[j]? with
 |none=>simp
 |some x=>exact Z x (AX h)
theorem aor(p:Int)(j:Nat):p+1<=enN p F j/\enN p F j<=p+F.length+1:=by unfold enN;omega
theorem agY(z j:Nat)(Z:List Nat):ndN fold ws z F (Z++[j])=EN fold ws (ndN fold ws z F Z) (byN F j):=by
 unfold ndN;rw[Aj,No]
 rfl
theorem aoR{z:Nat}(Y:z<(AB ws).length)(Z:List Nat):ndN fold ws z F Z<(AB ws).length:=JY Y _
theorem acW(Y p:Int)(j:Nat):∀(Z:List Nat)(z:Nat),hsN fold ws Y p F z (Z++[j])=hsN fold ws Y p F z Z++(if Y<enN p F j then(CA ws (EN fold ws (ndN fold ws z F Z) (byN F j))).map (λv=>((enN p F j,v):AF)) else [])
 |[],z=>by simp[hsN,ndN,Bp]
 |i::Z,z=>by
  rw[CT];simp only[hsN];rw[acW Y p j Z,CE]
  rfl
theorem aj7(Y p:Int):∀(Z:List Nat)(z:Nat),z<(AB ws).length->(hsN fold ws Y p F z Z).length<=(AB ws).length*Z.length
 |[],z,_=>by simp[hsN]
 |j::Z,z,hz=>by
  have X:(AB ws)[z]?=some (AB ws)[z]:=Ar hz;have V:=(AP.1 (KU (fold:=fold) X (byN F j)).1).1;have U:=aj7 Y p Z (EN fold ws z (byN F j)) V;have h9:=LL ws (EN fold ws z (byN F j));simp only[hsN,List.length_append,Ao];rw[Nat.mul_succ]
  split
  ·rw[BP];omega
  ·simp;omega
theorem abB(z:Nat):∀k,k<=F.length->ndN fold ws z F (List.range k)=Bp fold ws z (F.take k)
 |0,_=>by simp[ndN]
 |k+1,h=>by
  have hk:F[k]?=some F[k]:=Ar om;rw[El,agY,abB z k om,LH,hk,No];unfold byN;rw[hk]
  rfl
theorem aeT(Z p:Int)(z:Nat):∀k,k<=F.length->hsN fold ws Z p F z (List.range k)=Dj Z (BQ fold ws z p (F.take k))
 |0,_=>by simp[hsN,BQ,Dj]
 |k+1,h=>by
  have hk:F[k]?=some F[k]:=Ar om;rw[El,acW,aeT Z p z k om,abB z k om,LH,hk,JE,aa5];congr 1;have V:byN F k=F[k]:=by unfold byN;rw[hk];rfl
  have X:enN p F k=p+((F.take k).length:Int)+1:=by unfold enN;rw[Ag]
  rw[V,X];show _=Dj Z ((CA ws (EN fold ws (Bp fold ws z (F.take k)) F[k])).map (λv=>((p+((F.take k).length:Int)+1,v):AF))++[]);rw[Cx];unfold Dj
  split
  ·rename_i h1
   rw[List.filter_eq_self.2];intro x Y;obtain⟨v,_,rfl⟩:=Be.1 Y;exact Lz h1
  ·rename_i h1
   rw[List.filter_eq_nil_iff.2];intro x Y;obtain⟨v,_,rfl⟩:=Be.1 Y
   simpa using h1
end
theorem ahZ{n:Nat}{d k:Int}{j:Nat}(Y:d<=(n:Int))(Z:j<Am n d k):0<k-(j:Int)/\d+(j:Int)<(n:Int):=by unfold Am at Z;omega
theorem ai4{n:Nat}{d k:Int}(Z:d<=(n:Int)):¬0<k-(Am n d k:Int)∨¬d+(Am n d k:Int)<(n:Int):=by unfold Am;omega
theorem agu(Z:List Int)(d:Nat)(k:Int)(Y:d<=Z.length):(CU Z (d:Int) k).length=Am Z.length d k:=by unfold CU;rw[Ag,List.length_drop,Aa];have:=Jw (n:=Z.length) (d:=(d:Int)) (m:=k) om om;rw[Aa]at this;omega
theorem anR{Z:List Int}{d j:Nat}{k:Int}(X:j<(CU Z (d:Int) k).length):Z[d+j]?=some (byN (CU Z (d:Int) k) j):=by
 unfold byN;have h:(CU Z (d:Int) k)[j]?=some (CU Z (d:Int) k)[j]:=Ar X;obtain⟨y,Y⟩:∃y,(CU Z (d:Int) k)[j]=y:=⟨_,rfl⟩;rw[Y]at h;rw[h];unfold CU at h;rw[FT,Aa]at h
 split at h
 ·rw[Hm]at h;exact h
 ·cases h
section
variable {V0:World}{fold:Bool}{wss:La}{z:Nat}{at0:Int}{x12 x13 base:Nat}{V V':World}{p q v':Value}{F G F':List Int}{P Q:List AF}
theorem apy{x:Nat}{c0 c1 u0 u1:Value}{t:TypeId}(h:V.heap[x]?=some (.cells #[c0,c1] t (0,0))):((V.setCell ⟨x,0,none⟩ u0).setCell ⟨x,1,none⟩ u1).heap[x]?=some (.cells #[u0,u1] t (0,0))/\
  V.grownBy ((V.setCell ⟨x,0,none⟩ u0).setCell ⟨x,1,none⟩ u1) (some x):=by
 have g:∀(W:World)(o:Nat)(u:Value),W.grownBy (W.setCell ⟨x,o,none⟩ u) (some x):=λW o u=>⟨rfl,rfl,rfl,(KeepsWalks.setCell W _ u).size,λk _ hk=>AQ _ _ _ k (λe=>hk (by rw[e]))⟩;have Y:=g V 0 u0;have X:=g (V.setCell ⟨x,0,none⟩ u0) 1 u1;refine⟨?_,⟨rfl,rfl,rfl,AS Y.size X.size,λk hk Z=>(X.block k (Af hk Y.size) Z).trans (Y.block k hk Z)⟩⟩;have h:=AJ (i:=1) (AJ (i:=0) h u0) u1
 simpa using h
end
theorem aid(g:Nat)(n:Int)(w:World) :Calls ZP 242 #[.pointer (some ⟨g,0,none⟩),.int .i64 n] w λe w'=>e=.returned (.func (.func 270) #[] #[.pointer (some ⟨w.heap.size+1,0,none⟩),.pointer (some ⟨w.heap.size,0,none⟩)])/\
   w'=(w.alloc (.cells #[pointer (some ⟨g,0,none⟩)] 368)).alloc (.cells #[int i64 n] 3):=by
 go_enter func242,ntmps242;go_wp2;go_ret;exact⟨rfl,rfl⟩
section
attribute[local go_sem] Oper.semAt_some
attribute[local simp] Ak Al
attribute[local go_sem] Ak Al
abbrev sbQ(nu st wm:Int)(b:Option Addr)(n c:Nat)(z d:Int):Array Value:=#[int i64 nu,int i64 st,int i64 wm,slice b n c,int i64 z,int i64 d]
def SbX(g:Nat)(nu st wm:Int)(b:Option Addr)(n c:Nat)(z d:Int)(W:World):Prop:=W.heap[g]?=some (.cells (sbQ nu st wm b n c z d) 329 (0,0))
section
variable {g:Nat}{nu st wm:Int}{b:Option Addr}{n c:Nat}{z d:Int}{W V:World}
theorem SbX.lt(h:SbX g nu st wm b n c z d W):g<W.heap.size:=(AD.1 h).1
theorem SbX.cells(h:SbX g nu st wm b n c z d W):(W.cell? ⟨g,0,none⟩=some (int i64 nu)/\W.cell? ⟨g,1,none⟩=some (int i64 st)/\W.cell? ⟨g,2,none⟩=some (int i64 wm)/\W.cell? ⟨g,3,none⟩=some (slice b n c)/\W.cell? ⟨g,4,none⟩=some (int i64 z)/\W.cell? ⟨g,5,none⟩=some (int i64 d))/\W.frozen? ⟨g,4,none⟩=false/\W.frozen? ⟨g,5,none⟩=false:=by unfold SbX at h;exact⟨⟨by simp[cell?,h],by simp[cell?,h],by simp[cell?,h],by simp[cell?,h],by simp[cell?,h],by simp[cell?,h]⟩,by simp[frozen?,h],by simp[frozen?,h]⟩
theorem SbX.node(h:SbX g nu st wm b n c z d W)(y:Int):SbX g nu st wm b n c y d (W.setCell ⟨g,4,none⟩ (int i64 y)):=by
 unfold SbX at h⊢;have:=AJ (i:=4) h (int i64 y)
 simpa using this
theorem SbX.done(h:SbX g nu st wm b n c z d W)(y:Int):SbX g nu st wm b n c z y (W.setCell ⟨g,5,none⟩ (int i64 y)):=by
 unfold SbX at h⊢;have:=AJ (i:=5) h (int i64 y)
 simpa using this
theorem SbX.below(h:SbX g nu st wm b n c z d W)(Z:Bt W V):SbX g nu st wm b n c z d V:=(Z.block g h.lt).trans h
theorem SbX.same{Y X:Int}(h:SbX g nu st wm b n c z d W)(U:SbX g nu st wm b n c Y X W):z=Y/\d=X:=by have a:=h.cells.1;have Z:=U.cells.1;rw[a.2.2.2.2.1,DC,Value.int.injEq]at Z;rw[a.2.2.2.2.2,DC,Value.int.injEq]at Z;exact⟨Z.2.2.2.2.1.2,Z.2.2.2.2.2.2⟩
end
def KpN(bl g:Nat)(W Z:World):Prop:=
 W.heap.size<=Z.heap.size/\(∀k cs t f,W.heap[k]?=some (.cells cs t f)->k≠bl->k≠g->Cb bl W≠some k->Z.heap[k]?=some (.cells cs t f))/\(Cb bl Z=Cb bl W∨∃r,Cb bl Z=some r/\W.heap.size<=r/\r<Z.heap.size)/\
  (∀nu st wm b n c z d,SbX g nu st wm b n c z d W->∃Y,SbX g nu st wm b n c Y d Z)
theorem KpN.t{bl g:Nat}{A B C:World}(h:KpN bl g A B)(k:KpN bl g B C):KpN bl g A C:=by
 obtain⟨h1,h2,h3,h4⟩:=h;obtain⟨j,s,x,y⟩:=k;refine⟨AS h1 j,λi cs t f J H I N=>?_,?_,λnu st wm b n c z d hs=>?_⟩
 ·refine s i cs t f (h2 i cs t f J H I N) H I ?_
  rcases h3 with e|⟨r,e,Z,_⟩
  ·rw[e];exact N
  ·rw[e];intro e2;have:=KpL.lt (bl:=bl) J
   cases e2
   omega
 ·rcases x with e|⟨r,e,Z,Y⟩
  ·rw[e]
   rcases h3 with U|⟨r,U,Z,Y⟩
   ·exact .inl U
   ·exact .inr ⟨r,U,Z,by omega⟩
  ·exact .inr ⟨r,e,by omega,Y⟩
 ·obtain⟨D,X⟩:=h4 nu st wm b n c z d hs;exact y nu st wm b n c D d X
theorem KpN.b{bl g:Nat}{w:World}(Z:bl<w.heap.size)(I:g<w.heap.size)(W:World)(l:Nat)(o o':Obj)(N:w.heap.size<=l)(h:W.heap[l]?=some o)(J:o.isCells=false)(X:o.isWalk=false):KpN bl g W (W.putObj l o'):=by obtain⟨h1,h2,h3⟩:=KpL.b (bl:=bl) Z W l o o' N h J X;refine⟨h1,λk cs t f hk Z _ U=>h2 k cs t f hk Z U,h3,λnu st wm b n c z d Y=>⟨z,?_⟩⟩;unfold SbX at Y⊢;rw[Cm om];exact Y
theorem KpN.of_below{bl g:Nat}{W V:World}(Z:Bt W V)(U:bl<W.heap.size):KpN bl g W V:=by obtain⟨h1,h2,h3⟩:=KpL.of_below (bl:=bl) Z U;exact⟨h1,λk cs t f hk Z _ X=>h2 k cs t f hk Z X,h3,λnu st wm b n c z d Y=>⟨z,Y.below Z⟩⟩
def PbN(g q:Nat)(r:Nat)(W Y:World):Prop:=r=q∨r=g/\∀nu st wm b n c z d,SbX g nu st wm b n c z d W->∃Z,SbX g nu st wm b n c z Z Y
structure EU(bl g q:Nat)(w W:World):Prop where
 size:w.heap.size<=W.heap.size
 cells:∀k cs t f,w.heap[k]?=some (.cells cs t f)->k≠bl->k≠g->k≠q->W.heap[k]?=some (.cells cs t f)
 row:∀r,Cb bl W=some r->w.heap.size<=r/\r<W.heap.size
section
variable {bl g q:Nat}{w W V:World}
theorem EU.body(h:EU bl g q w W)(hk:KpN bl g W V):EU bl g q w V:=by
 obtain⟨I,J,N,_⟩:=hk;refine⟨AS h.size I,λk cs t f X U Y H=>J k cs t f (h.cells k cs t f X U Y H) U Y (λe=>?_),λr Z=>?_⟩
 ·have h1:=KpL.lt (bl:=bl) X;have h2:=(h.row k e).1;omega
 ·rcases N with e|⟨D,e,h1,h2⟩
  ·rw[e]at Z;have:=h.row r Z;omega
  ·rw[e]at Z
   cases Z
   have:=h.size;omega
theorem EU.own{p:Nat}(h:EU bl g q w W)(hk:W.grownBy V (some p))(H:p=g∨p=q)(Z:bl≠p)(Y:bl<W.heap.size):EU bl g q w V:=by
 have e:Cb bl V=Cb bl W:=by unfold Cb;rw[BC (a:=⟨bl,0,none⟩) (hk.block bl Y (λe=>Z (AK e)))]
 refine⟨AS h.size hk.size,λk cs t f J I N U=>?_,λr X=>?_⟩
 ·have h1:=h.cells k cs t f J I N U;exact(hk.block k (KpL.lt (bl:=bl) h1) (λe=>by have:=AK e;omega)).trans h1
 ·rw[e]at X;have:=h.row r X;have:=hk.size;omega
theorem KpN.box{b:Nat}{t:TypeId}{v:Value}(h:KpN bl g W V)(Z:Boxed W b t v)(h1:b≠bl)(h2:b≠g)(h3:Cb bl W≠some b):Boxed V b t v:=h.2.1 b _ _ _ Z h1 h2 h3
end
def an4(p:Int)(F:List Int)(j:Nat):Array Value:=#[int i64 (enN p F j),.int .u8 (byN F j)]
theorem PbN.lt{g q k:Nat}(X:g<k)(Y:q<k):∀r W Z,PbN g q r W Z->r<k:=λr W Z h=>by rcases h with rfl|⟨rfl,_⟩<;>assumption
theorem aew{g q p2 bl:Nat}(nu st wm z0:Int)(b:Option Addr)(n c:Nat)(d:Nat)(k:Int)(B:List Int)(mm:Nat)(w0 w:World)(hD:Bys w0 b n B)(aw:Jh w0 w)
  (bu:w0.heap.size<=g) (bo:w0.heap.size<=q) (bz:w0.heap.size<=bl) (b6:(bl≠g/\bl≠q/\g≠q)/\p2≠g/\p2≠q/\p2≠bl) (aL:bl<w.heap.size)
  (h3:Boxed w q 3 (int i64 k)) (h2:Boxed w p2 368 (pointer (some ⟨g,0,none⟩))) (hg:SbX g nu st wm b n c z0 d w)
  (ag:∀r,Cb bl w≠some r) (hd:d<=n) (hn:n<=1000000) (bm:0<=st/\st<=4611686020574871551) (bk:0<=wm/\wm<=1000000) (hk:-9223372036854775808<=k/\k<=9223372036854775807) :
  Hi Fence.wide mm ZP 270 #[pointer (some ⟨q,0,none⟩),pointer (some ⟨p2,0,none⟩)] (an4 (st-wm+d) (CU B d k)) (KpN bl g) (PbN g q) (λjs W=>js=List.range (CU B d k).length/\∃z',SbX g nu st wm b n c z' (d+((CU B d k).length:Nat)) W) (λ_=>True) ((CU B d k).length+1) w:=by
 intro l J Jx W D hJ bA hY h0;have aY:B.length=n:=hD.len;have aa:(CU B (d:Int) k).length=Am n d k:=by rw[agu B d k om,aY]
 obtain⟨⟨n1,n2,n3⟩,n4,n5,n6⟩:=b6;have au:EU bl g q w W:=⟨D.size,λk cs t f hc _ _ _=>(D.block k (KpL.lt (bl:=bl) hc)).trans hc,λr hr=>absurd hr (by unfold Cb;rw[BC (a:=⟨bl,0,none⟩) (D.block bl aL)];exact ag r)⟩
 have am:=hg.lt;have ac:=h3.lt;have bf:=AA ac;have bd:Hid (∀V,EU bl g q w V->Jh w0 V):=λV hV=>⟨AS aw.1 hV.size,λk cs t f hc=>hV.cells k cs t f (aw.2 k cs t f hc) (by have:=KpL.lt (bl:=bl) hc;omega) (by have:=KpL.lt (bl:=bl) hc;omega) (by have:=KpL.lt (bl:=bl) hc;omega)⟩;have HP:Hid (∀V,EU bl g q w V->V.cell? ⟨p2,0,none⟩=some (pointer (some ⟨g,0,none⟩))/\bl<V.heap.size/\g<V.heap.size/\q<V.heap.size):=λV hV=>by have e2:=hV.cells p2 _ _ _ h2 n6 n4 n5;exact⟨by simp[cell?,e2],Af aL hV.size,Af am hV.size,Af ac hV.size⟩
 have HD:Hid (∀V,EU bl g q w V->Bys V b n B):=λV hV=>⟨(bd.out V hV).sl1 hD.1,hD.2⟩;have b5:Hid (SbX g nu st wm b n c z0 d W):=(D.block g am).trans hg;have b0:Hid (Boxed W q 3 (int i64 k)):=(D.block q ac).trans h3;have ax:Hid (∀j,j<Am n d k->B[d+j]?=some (byN (CU B (d:Int) k) j)):=λj hj=>anR (by rw[aa];exact hj);have ay:Hid (∀j,j<Am n d k->enN (st-wm+d) (CU B (d:Int) k) j=st-wm+((d:Int)+(j:Int)+1)):=λj hj=>by unfold enN;rw[aa];omega
 have ab:Hid (¬0<k-(Am n d k:Int)∨¬(d:Int)+(Am n d k:Int)<(n:Int)):=ai4 om;have aZ:Hid (∀j:Nat,j<Am n d k->0<k-(j:Int)/\(d:Int)+(j:Int)<(n:Int)):=λj hj=>ahZ om hj;have b8:d+Am n d k<=n:=by have:=Jw (n:=n) (d:=(d:Int)) (m:=k) om om;rwa[Aa]at this
 have be:Hid ((Am n d k:Int)<=max k 0):=by rw[Hid];unfold Am;omega
 rw[aa]at hY;rw[aa];obtain⟨F,hF⟩:∃F,CU B (d:Int) k=F:=⟨_,rfl⟩;obtain⟨T,hT⟩:∃T,Am n (d:Int) k=T:=⟨_,rfl⟩;rw[hF,hT]at hY;rw[hF]at ax ay;rw[hT]at ax ay ab aZ be b8;rw[hT];have HN:=AA (Lq n1 (Lq n2 n3));clear hD aw h3 h2 hg ag D aa aY hF hT n1 n2 n3 n4 n5 n6 am ac;obtain⟨c2,_⟩:=HP.out W au;refine callsIn_of_wp func270 rfl trivial ?_ rfl;simp only[ntmps270,Cw,Ao,Bw,Nat.reduceAdd,Nat.reduceSub,Dd,Dc,DX,Da,Av,CT]
 gi_wp2
 clear c2
 gi_loopw[4] (λs4 wr=>∃j:Nat,j<=T/\J (List.range j) wr/\Hid (Boxed wr q 3 (int i64 (k-(j:Int))))/\Hid (∃z',SbX g nu st wm b n c z' ((d:Int)+(j:Int)) wr)/\Hid (EU bl g q w wr)) (λ_ wr=>Ic q wr)
 case atStart=>exact⟨0,AR _,h0,by simpa[Hid]using b0.out,⟨z0,by simpa using b5.out⟩,au⟩
 case round=>
  clear b5 b0 au h0;obtain⟨j,bt,hj,A,HG,y⟩:=hrel;obtain⟨n1,n2,n3⟩:=HN.out;obtain⟨c2,cb,cg,cq⟩:=HP.out wr y.out;obtain⟨z,hz⟩:=HG.out;obtain⟨Y,ae⟩:∃x:Int,k-(j:Int)=x:=⟨_,rfl⟩;obtain⟨dj,a6⟩:∃x:Int,(d:Int)+(j:Int)=x:=⟨_,rfl⟩
  by_cases al:j<T
  ·obtain⟨a1,a2⟩:=aZ.out j al;have av:=ay.out j al;obtain⟨b3,o3,cI,e3,bp,cc,af⟩:=DG (HD.out wr y.out).1 (show d+j<n by omega);subst e3;have bx:=(HD.out wr y.out).2 cI (AX af);have aJ:byN F j=cI:=by have h:=ax.out j al;rw[af]at h;exact(AK h).symm
   rw[ae]at A a1;rw[a6]at hz a2 av;have e1:Hid (k-((j+1:Nat):Int)=Y-1):=by rw[Hid];omega
   have e2:Hid ((d:Int)+((j+1:Nat):Int)=dj+1):=by rw[Hid];omega
   have bw:0<=dj:=by omega
   have bv:dj<=1000000:=by omega
   have bq:Y<=9223372036854775807:=by omega
   have bg:Hid (Ic q wr=Y.toNat):=by rw[Hid];unfold Ic;rw[A.out.cell];rfl
   have ad:o3+(d+j)=o3+dj.toNat:=by omega
   rw[ad]at cc;obtain⟨⟨g0,g1,g2,g3,g4,g5⟩,f4,f5⟩:=hz.cells;have q0:=A.out.cell;have d1:decide (0<Y)=true:=by simpa using a1
   have d2:decide (dj<(n:Int))=true:=by simpa using a2
   have s:=AA hz;have HJ:=AA hj;have HC:=AA (Lq aJ (Lq av af));have ad:=AA ad;have bj:=AA a1;clear hz hj ae a6 af aJ av HG
   gi_wp2
   refine KF (FL _ _) mixed kr kr ?_
   repeat (go_big_quiet_step (fail))
   refine wpQuiet_nil ?_;rintro _ ⟨nq,rfl⟩;have Z:Bt wr (wr.drewN nq):=⟨rfl,rfl,rfl,AC _,λ_ _=>rfl⟩;obtain⟨W1,aO⟩:∃X,X=wr.drewN nq:=⟨_,rfl⟩;rw[<-aO]at Z⊢;clear aO;have N:=Jf hJ HJ.out Z;have ar:EU bl g q w W1:=y.out.body (KpN.of_below Z cb);have aU:Boxed W1 q 3 (int i64 Y):=(Z.block q cq).trans A.out;have U:=s.out.below Z;clear c2 cb cg cq g0 g1 g2 g3 g4 g5 f4 f5 q0 d1 d2 cc Z HJ y A s;obtain⟨c2,cb,cg,cq⟩:=HP.out W1 ar;obtain⟨⟨g0,g1,g2,g3,g4,g5⟩,f4,f5⟩:=U.cells;have HJ:=AA N;have y:=AA ar;have A:=AA aU;have s:=AA U;obtain⟨b4,o4,b9,e4,_,cc,ah⟩:=DG (HD.out W1 y.out).1 (show d+j<n by omega)
   cases e4
   have b7:b9=cI:=by have h:=HC.out.2.2;rw[ah]at h;exact AK h
   subst b7;rw[ad.out]at cc;clear N ar aU U ah
   gi_wp2
   refine KF (FL _ _) mixed kr kr ?_
   repeat (go_big_quiet_step (fail))
   refine wpQuiet_nil ?_;rintro _ ⟨aA,rfl⟩;have H:Bt W1 (W1.drewN aA):=⟨rfl,rfl,rfl,AC _,λ_ _=>rfl⟩;obtain⟨W2,aN⟩:∃X,X=W1.drewN aA:=⟨_,rfl⟩;rw[<-aN]at H⊢;clear aN;have aI:=Jf hJ HJ.out H;have aq:EU bl g q w W2:=y.out.body (KpN.of_below H cb);have aT:Boxed W2 q 3 (int i64 Y):=(H.block q cq).trans A.out;have ai:=s.out.below H;clear c2 cb cg cq g0 g1 g2 g3 g4 g5 f4 f5 cc H HJ y A s;obtain⟨c2,cb,cg,cq⟩:=HP.out W2 aq;obtain⟨⟨g0,g1,g2,g3,g4,g5⟩,f4,f5⟩:=ai.cells;have A:=AA aT;obtain⟨W3,C⟩:∃X,X=W2.setCell ⟨g,5,none⟩ (int i64 (dj+1)):=⟨_,rfl⟩;have aH:J (List.range j) W3:=by rw[C];exact aet hJ aI 5 _ (.inr ⟨rfl,λnu st wm b n c z d h=>⟨_,h.done _⟩⟩)
   have aW:EU bl g q w W3:=by rw[C];exact aq.own (BH W2 g 5 _) (.inl rfl) n1 cb
   have aS:Boxed W3 q 3 (int i64 Y):=by rw[C];exact(AQ W2 ⟨g,5,none⟩ _ q (Ne.symm n3)).trans A.out
   have aE:SbX g nu st wm (some ⟨b3,o3,none⟩) n c z (dj+1) W3:=by rw[C];exact ai.done _
   have HJ:=AA aH;have y:=AA aW;have s:=AA aE;have b2:=AA aS;clear aI aq aT ai aH aW aS aE
   gi_wp2
   rw[<-C];clear c2 cb cg cq g0 g1 g2 g3 g4 g5 f4 f5 C A;obtain⟨c2,cb,cg,cq⟩:=HP.out W3 y.out;obtain⟨⟨g0,g1,g2,g3,g4,g5⟩,f4,f5⟩:=s.out.cells;refine Ld (FL _ _) 19 mixed kr kr ?_;dsimp only[List.take_succ_cons,List.take_zero,List.drop_succ_cons,List.drop_zero]
   repeat (go_big_quiet_step (fail))
   refine wpQuiet_nil ?_;rintro _ ⟨az,rfl⟩;have I:Bt W3 (W3.drewN az):=⟨rfl,rfl,rfl,AC _,λ_ _=>rfl⟩;obtain⟨W4,aM⟩:∃X,X=W3.drewN az:=⟨_,rfl⟩;rw[<-aM]at I⊢;clear aM;have aG:=Jf hJ HJ.out I;have ap:Hid (EU bl g q w W4):=y.out.body (KpN.of_below I cb);have aR:Hid (Boxed W4 q 3 (int i64 Y)):=(I.block q cq).trans b2.out;have aD:Hid (SbX g nu st wm (some ⟨b3,o3,none⟩) n c z (dj+1) W4):=s.out.below I;obtain⟨fn,tmps,assign,body,aj,aP⟩:=hY (List.range j) j W4 aG (by rw[List.length_range];omega);dsimp only[an4]at aj;rw[HC.out.1,HC.out.2.1]at aj;clear c2 cb cg cq g0 g1 g2 g3 g4 g5 f4 f5 I HJ y b2 s aG
   gi_wp2
   refine aP.mono ?_;rintro e W5 (⟨rfl,hJ5,hk5⟩|⟨rfl,hJx5⟩)
   ·have ak:Cb bl W4≠some q:=λe=>by
     have h1:=(ap.out.row q e).1;have h2:=bf.out;omega
    have a8:Boxed W5 q 3 (int i64 Y):=hk5.box aR.out (Ne.symm n2) (Ne.symm n3) ak;obtain⟨z5,aC⟩:=hk5.2.2.2 _ _ _ _ _ _ _ _ aD.out;have ao:EU bl g q w W5:=ap.out.body hk5;have aK:=(HP.out W5 ao).2.1;rw[<-El]at hJ5;have q0:=a8.cell;have q1:=a8.frozen;have q2:=a8.lt;obtain⟨W6,a7⟩:∃X,X=W5.setCell ⟨q,0,none⟩ (int i64 (Y-1)):=⟨_,rfl⟩;have aX:J (List.range (j+1)) W6:=by rw[a7];exact aet hJ hJ5 0 _ (.inl rfl)
    have aV:EU bl g q w W6:=by rw[a7];exact ao.own (BH W5 q 0 _) (.inr rfl) n2 aK
    have aQ:Boxed W6 q 3 (int i64 (Y-1)):=by rw[a7];exact a8.set _
    have aB:SbX g nu st wm (some ⟨b3,o3,none⟩) n c z5 (dj+1) W6:=by rw[a7];exact(AQ W5 ⟨q,0,none⟩ _ g n3).trans aC
    have bh:=AA aV;have b1:=AA aQ;have bb:=AA aB;have bi:=AA aX;clear ap aR aD aP aj a8 aC ao hJ5 hk5 aV aQ aB aX
    gi_wp2
    rw[<-a7]
    go_roundw
    case rel=>exact⟨j+1,by omega,bi.out,by rw[Hid,e1.out];exact b1.out,⟨z5,by rw[e2.out];exact bb.out⟩,bh⟩
    case measure=>
     rw[bg.out];unfold Ic;rw[b1.out.cell];show(Y-1).toNat<Y.toNat;have h1:=bj.out;omega
   ·gi_wp2
    refine Vf (results_none rfl _ _ _) rfl ?_;exact⟨⟨_,rfl⟩,.inr ⟨_,trivial,hJx5⟩⟩
  ·obtain rfl:T=j:=by omega
   rw[ae]at A ab;rw[a6]at hz ab;have e2:Hid ((d:Int)+(T:Int)=dj):=a6;have q0:=A.out.cell;obtain⟨⟨g0,g1,g2,g3,g4,g5⟩,f4,f5⟩:=hz.cells;have s:=AA hz;have HJ:=AA hj;have aF:=ab.out;clear hz hj ae a6 HG ab
   by_cases a1:0<Y
   ·have a2:¬dj<(n:Int):=by omega
    have d1:decide (0<Y)=true:=by simpa using a1
    have d2:decide (dj<(n:Int))=false:=by simpa using a2
    clear aF a1 a2
    gi_wp2
    refine KF (FL _ _) mixed kr kr ?_
    repeat (go_big_quiet_step (fail))
    refine wpQuiet_nil ?_;rintro _ ⟨nq,rfl⟩;have Z:Bt wr (wr.drewN nq):=⟨rfl,rfl,rfl,AC _,λ_ _=>rfl⟩;have N:=Jf hJ HJ.out Z;have U:=s.out.below Z
    gi_wp2
    go_end0
    exact⟨⟨_,rfl⟩,.inl ⟨_,⟨rfl,z,by rw[e2.out];exact U⟩,N⟩⟩
   ·have d1:decide (0<Y)=false:=by simpa using a1
    clear aF a1
    gi_wp2
    refine KF (FL _ _) mixed kr kr ?_
    repeat (go_big_quiet_step (fail))
    refine wpQuiet_nil ?_;rintro _ ⟨nq,rfl⟩;have Z:Bt wr (wr.drewN nq):=⟨rfl,rfl,rfl,AC _,λ_ _=>rfl⟩;have N:=Jf hJ HJ.out Z;have U:=s.out.below Z
    gi_wp2
    go_end0
    exact⟨⟨_,rfl⟩,.inl ⟨_,⟨rfl,z,by rw[e2.out];exact U⟩,N⟩⟩
end
theorem aah{fn:Func}{p u v:Tmp}{tmps:Array Value}{W:World}{B C:Nat}{x y l:Value}(h:fn.results=#[.cell p 247,.cell u 69,.tmp v])(V:tmps.getD p undef=pointer (some ⟨B,0,none⟩))(X:tmps.getD u undef=pointer (some ⟨C,0,none⟩))(hB:W.heap[B]?=some (.cells #[x,y] 247 (0,0)))(J:W.cell? ⟨C,0,none⟩=some l) :(results fn tmps).run ZP W=.ok (.tuple #[.agg #[x,y],l,tmps.getD v undef]) W:=by
 have N:(loadVar 247 ⟨B,0,none⟩).run ZP W=.ok (.agg #[x,y]) W:=run_loadVar_row W B 247 247 #[x,y] (0,0) _ hB underlying247 rfl kr;have U:(loadVar 69 ⟨C,0,none⟩).run ZP W=.ok l W:=by go_simp
 have Y:tmps[p]?.getD undef=pointer (some ⟨B,0,none⟩):=by simpa using V
 have Z:tmps[u]?.getD undef=pointer (some ⟨C,0,none⟩):=by simpa using X
 simp[results,h,Y,Z,asAddr,N,U,Result.andThen]
theorem aio(p:Option Addr)(N X wm:Int)(b:Option Addr)(n c:Nat)(z d m:Int)(w:World)
  (hR:∀V,Bt w V->Calls ZP 241 #[pointer p,.agg (blV N X wm b n c),prV z d] V λe w'=>e=.returned (bool false)/\Bt V w') :
  Calls ZP 200 #[pointer p,.agg (blV N X wm b n c),prV z d,int i64 m] w λe w'=>e=.returned (.tuple #[prV z d,slice none 0 0,bool false])/\Bt w w':=by
 obtain⟨W,hW⟩:∃W,W=((((w.alloc (.cells #[pointer p] 88)).alloc (.cells (blV N X wm b n c) 120)).alloc (.cells #[int i64 z,int i64 d] 247)).alloc (.cells #[int i64 0,int i64 0] 247)).alloc (.cells #[slice none 0 0] 69):=⟨_,rfl⟩;have hB:Bt w W:=by rw[hW];exact(((((AH _ _).alloc (AC _) _).alloc sm _).alloc (by simp;omega) _).alloc (by simp;omega) _).alloc (by simp;omega) _
 have hO:Bx w.heap.size [.cells #[pointer p] 88,.cells (blV N X wm b n c) 120,.cells #[int i64 z,int i64 d] 247,.cells #[int i64 0,int i64 0] 247,.cells #[slice none 0 0] 69] W:=by rw[hW];exact(((((Bx.nil _ w).snoc _ rfl).snoc _ sm).snoc _ sm).snoc _ sm).snoc _ sm
 have HC:Hid (∀V,RowKit.Below W.heap.size W V->V.cell? ⟨w.heap.size,0,none⟩=some (.pointer p)/\(V.cell? ⟨w.heap.size+1,0,none⟩=some (.int .i64 N)/\V.cell? ⟨w.heap.size+1,1,none⟩=some (.int .i64 X)/\V.cell? ⟨w.heap.size+1,2,none⟩=some (.int .i64 wm)/\V.cell? ⟨w.heap.size+1,3,none⟩=some (.slice b n c))/\(V.cell? ⟨w.heap.size+1+1,0,none⟩=some (.int .i64 z)/\V.cell? ⟨w.heap.size+1+1,1,none⟩=some (.int .i64 d))/\
   V.heap[w.heap.size+1+1+1]?=some (.cells #[int i64 0,int i64 0] 247 (0,0))/\V.heap[w.heap.size+1+1+1+1]?=some (.cells #[slice none 0 0] 69 (0,0))/\Bt w V):=λV hV=>by
  have h:=hO.below hV;exact⟨h.cell (i:=0) rfl rfl,⟨h.cell (i:=1) rfl rfl,h.cell (i:=1) rfl rfl,h.cell (i:=1) rfl rfl,h.cell (i:=1) rfl rfl⟩,⟨h.cell (i:=2) rfl rfl,h.cell (i:=2) rfl rfl⟩,h 3 _ rfl,h 4 _ rfl,hB.trans (hV.mono hB.size)⟩
 have HR:=AA (hR W hB);obtain⟨q1,⟨q2,j,s,x⟩,⟨y,A⟩,_⟩:=HC.out W (AH _ _);clear hB hO hR;go_enter func200,ntmps200;go_upto_region 1 with fail
 rw[<-hW];clear hW;go_upto_region 2 with(go_at_call 241;refine HR.out.mono ?_;rintro e Z ⟨rfl,C⟩)
 clear q1 q2 j s x y A HR;obtain⟨q1,⟨q2,j,s,x⟩,⟨y,A⟩,Y,I,U⟩:=HC.out Z C;obtain⟨z0,z1,z2,z3⟩:Z.cell? ⟨w.heap.size+1+1+1,0,none⟩=some (int i64 0)/\Z.cell? ⟨w.heap.size+1+1+1,1,none⟩=some (int i64 0)/\Z.frozen? ⟨w.heap.size+1+1+1,0,none⟩=false/\Z.frozen? ⟨w.heap.size+1+1+1,1,none⟩=false:=⟨by simp[cell?,Y],by simp[cell?,Y],by simp[frozen?,Y],by simp[frozen?,Y]⟩;obtain⟨y0,y1⟩:Z.cell? ⟨w.heap.size+1+1+1+1,0,none⟩=some (slice none 0 0)/\Z.frozen? ⟨w.heap.size+1+1+1+1,0,none⟩=false:=⟨by simp[cell?,I],by simp[frozen?,I]⟩;have H:=AA I;have D:=AA Y;have J:=AA U;clear Y I U;go_wp2;have h1:=AJ (i:=1) (AJ (i:=0) D.out (int i64 z)) (int i64 d);have B:((Z.setCell ⟨w.heap.size+1+1+1,0,none⟩ (int i64 z)).setCell ⟨w.heap.size+1+1+1,1,none⟩ (int i64 d)).heap[w.heap.size+1+1+1]?=some (.cells #[int i64 z,int i64 d] 247 (0,0)):=by simpa using h1
 have h2:((Z.setCell ⟨w.heap.size+1+1+1,0,none⟩ (int i64 z)).setCell ⟨w.heap.size+1+1+1,1,none⟩ (int i64 d)).heap[w.heap.size+1+1+1+1]?=some (.cells #[slice none 0 0] 69 (0,0)):=
  (AQ _ _ _ _ (by show w.heap.size+1+1+1+1≠w.heap.size+1+1+1;omega)).trans ((AQ _ _ _ _ (by show w.heap.size+1+1+1+1≠w.heap.size+1+1+1;omega)).trans H.out)
 have h3:=AJ (i:=0) h2 (slice none 0 0);have h4:=(AQ _ ⟨w.heap.size+1+1+1+1,0,none⟩ (slice none 0 0) (w.heap.size+1+1+1) (by show w.heap.size+1+1+1≠w.heap.size+1+1+1+1;omega)).trans B;refine Vf (aah (l:=slice none 0 0) rfl rfl rfl h4 (by simp[cell?,h3])) rfl ?_;exact⟨rfl,((J.out.setCell (by show w.heap.size<=w.heap.size+1+1+1;omega) _).setCell (by show w.heap.size<=w.heap.size+1+1+1;omega) _).setCell (by show w.heap.size<=w.heap.size+1+1+1+1;omega) _⟩
end Go.Proofs.YtaamacoicojhnaaGreat
