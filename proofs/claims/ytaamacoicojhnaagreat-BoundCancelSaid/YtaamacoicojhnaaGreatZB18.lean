/- Proofs over the given program, part 18. -/
import Derived.Test.YtaamacoicojhnaaGreatZB17
set_option linter.unusedVariables false
set_option linter.unusedSimpArgs false
set_option maxRecDepth 100000
set_option maxHeartbeats 16000000
open Go.Proofs.Tryz
open Go.Proofs.Tryz renaming prog→ZP
namespace Go.Proofs.YtaamacoicojhnaaGreat
open Go.RowKit Go.Sort
section
variable {c:CfM}{s t:PlM}{i k:Nat}{x:WkM}
theorem abh {s t:PlM}(h1:t.q=s.q)(h2:t.wk=s.wk)(h3:t.next=s.next)(h4:t.rg=s.rg)(y:Nat):(ag1 t).count y=(ag1 s).count y:=by rw [aaV,aaV,h1,h2,h3,h4]
theorem adX.stepR (h:adX c s)(J:s.cancelled=false)(Z:abt c s=true):adX c (stepR c s):=by
 have h5:s.rd.ph≠5:=fun e=>by unfold abt at Z;rw [if_pos e] at Z;cases Z
 have Y:¬s.cancelled=true:=by rw [J];decide
 unfold Proofs.YtaamacoicojhnaaGreat.stepR;rw [if_neg Y]
 split
 ·
  rename_i h1
  have ha:al8 s.next c.R s.number=true:=by
   unfold abt at Z;rw [if_neg h5,if_neg Y,if_pos h1] at Z;exact Z
  unfold al8 at ha;have I:=of_decide_eq_true (Bool.and_eq_true_iff.1 ha).2;exact h.same rfl rfl (abh rfl rfl rfl rfl) fun _=>I
 ·
  split
  ·
   rename_i N h2
   have V:=h.slot (.inl h2);unfold readR;dsimp only
   split
   ·
    split
    · exact h.same rfl rfl (abh rfl rfl rfl rfl) fun _=>V
    · exact h.same rfl rfl (abh rfl rfl rfl rfl) fun _=>V
   · exact h.same rfl rfl (abh rfl rfl rfl rfl) fun _=>V
  ·
   split
   ·
    rename_i N H h3
    have V:=h.slot (.inr h3);have D:=h.le;unfold putR;refine⟨⟨by show s.next<=s.number+1;omega,by show s.number+1-s.next<=c.R;omega⟩,fun y=>?_,fun e=>?_⟩
    ·
     have X:=h.cnt y;rw [aaV] at X ⊢;simp only [ay7,ax0,ax1,ayu,afA]
     by_cases e:y=s.number
     · subst e;rw [if_neg (by omega)] at X;rw [if_pos rfl,if_pos (by omega)];omega
     ·
      rw [if_neg e]
      by_cases U:s.next<=y/\y<s.number
      · rw [if_pos U] at X;rw [if_pos (by omega)];omega
      · rw [if_neg U] at X;rw [if_neg (by omega)];omega
    ·
     have e:(if s.rd.ended then 4 else 1)=2∨(if s.rd.ended then 4 else 1)=3:=e
     split at e<;>omega
   ·
    exact h.same rfl rfl (abh rfl rfl rfl rfl) fun e=>by
     have e:(5:Nat)=2∨(5:Nat)=3:=e;omega
theorem adX.takeM (h:adX c s):adX c (takeM s):=by
 unfold Proofs.YtaamacoicojhnaaGreat.takeM
 split
 ·
  rename_i V r I
  have J:=h.cnt s.next;have h0:0<(acz s.next s.rg).count s.next:=by rw [I];exact aeV s.next 0 (some V :: r) V rfl
  rw [aaV] at J;have D:s.next<s.number:=ayv fun H=>by rw [if_neg (by omega)] at J;omega
  have v:=h.le;have Y:∀t:PlM,t.q=s.q->t.wk=s.wk->t.next=s.next+1->t.rg=r++[none]->t.number=s.number->t.rd=s.rd->adX c t:=fun t z X N A U B=>by
   refine⟨by rw [N,U];omega,fun y=>?_,fun e=>?_⟩
   ·
    have Z:=h.cnt y;rw [aaV,I] at Z;rw [aaV,z,X,N,A,U,aho];have C:(acz s.next (some V :: r)).count y=(acz (s.next+1) r).count y+if y=s.next then 1 else 0:=adb _ _ _
    rw [C] at Z
    by_cases e:y=s.next
    · subst e;rw [if_pos rfl,if_pos (by omega)] at Z;rw [if_neg (by omega)];omega
    ·
     rw [if_neg e] at Z
     by_cases X:s.next<=y/\y<s.number
     · rw [if_pos X] at Z;rw [if_pos (by omega)];omega
     · rw [if_neg X] at Z;rw [if_neg (by omega)];omega
   · rw [B] at e;have:=h.slot e;rw [N,U];omega
  split
  · exact Y _ rfl rfl rfl rfl rfl rfl
  · exact Y _ rfl rfl rfl rfl rfl rfl
 · exact h.same rfl rfl (abh rfl rfl rfl rfl) h.slot
theorem adX.flushM (h:adX c s):adX c (flushM s):=by
 unfold Proofs.YtaamacoicojhnaaGreat.flushM
 split
 · exact h
 · exact h.same rfl rfl (abh rfl rfl rfl rfl) h.slot
theorem adX.offerE (h:adX c s):adX c (offerE c s):=by
 unfold Proofs.YtaamacoicojhnaaGreat.offerE
 split
 · exact h.same rfl rfl (abh rfl rfl rfl rfl) h.slot
 ·
  split
  · exact h.same rfl rfl (abh rfl rfl rfl rfl) h.slot
  · exact h.same rfl rfl (abh rfl rfl rfl rfl) h.slot
theorem adX.step (h:adX c s)(N:ae9 c s)(U:acA s)(V:s.cancelled=false)(Y:aaB c s k=true):adX c (abi c s k):=by
 have Z:¬s.cancelled=true:=by rw [V];decide
 unfold aaB at Y;unfold abi
 split at Y
 · rw [if_pos (by assumption)];exact h.stepR V Y
 ·
  rw [if_neg (by assumption)]
  split at Y
  ·
   rw [if_pos (by assumption)];obtain⟨x,X,h4⟩:=aeJ Y;have J:=U.wp _ x X;unfold stepW;rw [if_neg Z,ac9 X]
   split
   · exact h.takeW X (by assumption)
   ·
    split
    · exact h.scanW X (by assumption)
    · exact h.putWM N.gl X (by omega)
  ·
   rw [if_neg (by assumption)]
   split at Y
   ·
    rw [if_pos (by assumption)];unfold stepMg;rw [if_neg Z]
    split
    · exact h.takeM
    · exact h.flushM
   · rw [if_neg (by assumption)];unfold stepE;rw [if_neg Z];exact h.offerE
end
theorem aeY:∀(k n y:Nat),(List.range' n k).count y=if n<=y/\y<n+k then 1 else 0
 | 0,n,y=>by rw [if_neg (by omega)];rfl
 | k+1,n,y=>by
  rw [List.range'_succ,adb,aeY k (n+1) y]
  by_cases e:y=n
  · rw [if_pos e,if_neg (by omega),if_pos (by omega)]
  ·
   rw [if_neg e]
   by_cases Z:n+1<=y/\y<n+1+k
   · rw [if_pos Z,if_pos (by omega)]
   · rw [if_neg Z,if_neg (by omega)]
theorem aim:∀(n k:Nat),acz n (List.replicate k none)=[]
 | n,0=>rfl
 | n,k+1=>by rw [ayf];exact aim (n+1) k
section
variable {c:CfM}{s t:PlM}{i k:Nat}{x:WkM}
theorem adX.len (h:adX c s):(ag1 s).length=s.number-s.next:=by
 have Y:=h.le;have Z:(ag1 s).Perm (List.range' s.next (s.number-s.next)):=azf.2 fun y=>by
  rw [h.cnt y,aeY,show s.next+(s.number-s.next)=s.number by omega]
 rw [Z.length_eq,List.length_range']
theorem ab5.free (U:ab5 c s)(V:adX c s)(X:acA s)(N:s.rd.ph=1)(ha:al8 s.next c.R s.number=true):s.fr≠[]:=fun Y=>by
 have h1:=U.perm.length_eq;rw [Y,ay0,List.length_range] at h1;have h2:rdB s.rd=[]:=anb (by cases Z:s.rd.holds with | false=>rfl | true=>have:=X.ho.1 Z;omega);have h3:=V.len;unfold acn at h1;unfold ag1 at h3;rw [h2,ay0,ayq] at h1;rw [List.length_append,ayq] at h3;unfold al8 at ha;have Z:=of_decide_eq_true (Bool.and_eq_true_iff.1 ha).2;omega
structure aru (c:CfM)(s:PlM):Prop where
 a:ap8 c s
 b:ab5 c s
 n:s.cancelled=false->adX c s
theorem aru.step (h:aru c s)(Z:aaB c s k=true):aru c (abi c s k):=by
 refine⟨h.a.step Z,?_,fun Y=>?_⟩
 ·
  have N:=Z;unfold aaB at Z;unfold abi
  split at Z
  ·
   rw [if_pos (by assumption)];have h5:s.rd.ph≠5:=fun e=>by unfold abt at Z;rw [if_pos e] at Z;cases Z
   refine h.b.stepR h.a.r h5 fun Y X=>h.b.free (h.n Y) h.a.r X ?_;have V:¬s.cancelled=true:=by rw [Y];decide
   unfold abt at Z;rw [if_neg h5,if_neg V,if_pos X] at Z;exact Z
  ·
   rw [if_neg (by assumption)]
   split at Z
   · rw [if_pos (by assumption)];obtain⟨x,U,h4⟩:=aeJ Z;have X:=h.a.r.wp _ x U;exact h.b.stepW U (by omega)
   ·
    rw [if_neg (by assumption)]
    split at Z
    · rw [if_pos (by assumption)];exact h.b.stepMg
    · rw [if_neg (by assumption)];exact h.b.stepE
 · rw [al0] at Y;exact (h.n Y).step h.a.f h.a.r Y Z
theorem aru.cancel (h:aru c s):aru c (aaE s):=by
 refine⟨h.a.cancel,?_,?_⟩
 ·
  unfold aaE
  split
  · exact h.b
  · exact h.b.rdO rfl rfl rfl rfl rfl rfl rfl
 ·
  unfold aaE
  split
  · exact h.n
  · intro e;cases e
theorem apV (Y:1<=c.W)(rs:List (List Int)):aru c (ajI c rs):=by
 have U:(List.replicate c.W (wk0 1)).flatMap Proofs.YtaamacoicojhnaaGreat.hW=[]:=by
  rw [List.flatMap_eq_nil_iff];intro x Z;rw [ay8 Z]
  rfl
 have X:aoG (ajI c rs)=[]:=by show []++(List.replicate c.W (wk0 1)).flatMap Proofs.YtaamacoicojhnaaGreat.hW=[];rw [U];rfl
 have V:acn (ajI c rs)=[]:=by unfold acn;rw [X];rfl
 refine⟨aro Y rs,⟨?_,axC,axC,fun x Z=>?_,fun x Z=>?_⟩,fun _=>⟨⟨axe _,axh _⟩,fun y=>?_,fun e=>?_⟩⟩
 · rw [V,ayj];exact List.reverse_perm _
 · have Z:x∈(List.range c.R).reverse:=Z;rw [List.mem_reverse,List.mem_range] at Z;exact List.getElem?_replicate_of_lt Z
 · rw [V] at Z;cases Z
 ·
  have e:ag1 (ajI c rs)=[]:=by unfold ag1;rw [X];exact aim 0 c.R
  rw [e,if_neg (by show ¬(0<=y/\y<0);omega)]
  rfl
 · have e:(1:Nat)=2∨(1:Nat)=3:=e;omega
end
theorem ao6 (K own:Nat)(rs:List (List Int)):(abw ((K:Int)-own) rs).length<=K:=by
 cases rs with
 | nil=>exact axh _
 | cons x t=>
  show (if (K:Int)-own<1 then [] else ads ((K:Int)-own) x).length<=K
  by_cases h:(K:Int)-own<1
  · rw [if_pos h];exact axh _
  ·
   rw [if_neg h];unfold ads
   by_cases h2:(x.length:Int)<=(K:Int)-own
   · rw [if_pos h2];omega
   · rw [if_neg h2,ay6];omega
structure adp (c:CfM)(H D n:Nat)(s:PlM):Prop where
 num:s.number<=n
 nxt:s.next<=n
 rea:s.read<=256*n
 tol:s.told<=256*n
 off:s.off<=n
 tk:s.tk.length<=n
 took:s.took.length<=n
 ahe:s.rd.ahead<=256*n
 hit:∀(i:Nat) (x:WkM),s.wk[i]?=some x->x.hits.length<=H*x.done/\x.done<=D
section
variable {c:CfM}{s t:PlM}{i k H D n:Nat}{x:WkM}
theorem adp.up (h:adp c H D n s):adp c H D (n+1) s:=by
 obtain⟨V,a2,a3,a4,a5,X,Y,Z,a9⟩:=h;exact⟨by omega,by omega,by omega,by omega,by omega,by omega,by omega,by omega,a9⟩
theorem adp.wk (h:adp c H D n s)(A:t.number=s.number)(B:t.next=s.next)(C:t.read=s.read)(I:t.told=s.told)(J:t.off=s.off)(N:t.tk=s.tk)(U:t.took=s.took)(V:t.rd.ahead=s.rd.ahead){f:WkM->WkM}(X:t.wk=s.wk.modify i f)(Z:s.wk[i]?=some x)(Y:(f x).hits.length<=H*(f x).done/\(f x).done<=D):adp c H D n t:=by
 obtain⟨j,a2,a3,a4,a5,o,v,z,a9⟩:=h;exact⟨by rw [A];exact j,by rw [B];exact a2,by rw [C];exact a3,by rw [I];exact a4,by rw [J];exact a5,by rw [N];exact o,by rw [U];exact v,by rw [V];exact z,by rw [X];exact adU (p:=fun y=>y.hits.length<=H*y.done/\y.done<=D) a9 Z Y⟩
theorem adp.takeW (h:adp c H D n s)(Z:s.wk[i]?=some x):adp c H D n (takeW s i):=by
 have Y:=h.hit i x Z;unfold Proofs.YtaamacoicojhnaaGreat.takeW
 split
 · exact h.wk (f:=fun w=>{ w with ph:=4 }) rfl rfl rfl rfl rfl rfl rfl rfl rfl Z Y
 · exact h.wk (f:=fun w=>{ w with ph:=2,blk:=_ }) rfl rfl rfl rfl rfl rfl rfl rfl rfl Z Y
theorem adp.leaveW (h:adp c H D n s)(Z:s.wk[i]?=some x):adp c H D n (leaveW s i):=by
 rw [aeO Z];exact h.wk (f:=fun _=>wk0 1) rfl rfl rfl rfl rfl rfl rfl rfl rfl Z ⟨axh _,axh _⟩
theorem adp.putWM (h:adp c H D n s)(Z:s.wk[i]?=some x):adp c H D n (putWM s i):=by
 unfold Proofs.YtaamacoicojhnaaGreat.putWM;rw [Z];exact adp.leaveW (s:={ s with rg:=s.rg.set (x.blk.num-s.next) (some x.hits) }) ⟨h.num,h.nxt,h.rea,h.tol,h.off,h.tk,h.took,h.ahe,h.hit⟩ Z
theorem adp.scanW (h:adp c H D n s)(Z:s.wk[i]?=some x)(Y:x.done<=(c.scan x.blk.start x.blk.warm x.blk.data x.node x.done).2.1/\(c.scan x.blk.start x.blk.warm x.blk.data x.node x.done).2.1<=D/\(c.scan x.blk.start x.blk.warm x.blk.data x.node x.done).2.2.1.length<=H*((c.scan x.blk.start x.blk.warm x.blk.data x.node x.done).2.1-x.done)):adp c H D (n+1) (scanW c s i):=by
 have X:=h.hit i x Z;unfold Proofs.YtaamacoicojhnaaGreat.scanW;refine h.up.wk (f:=fun w=>{ w with node:=(c.scan w.blk.start w.blk.warm w.blk.data w.node w.done).1,done:=(c.scan w.blk.start w.blk.warm w.blk.data w.node w.done).2.1,hits:=w.hits++(c.scan w.blk.start w.blk.warm w.blk.data w.node w.done).2.2.1,ph:=if (c.scan w.blk.start w.blk.warm w.blk.data w.node w.done).2.2.2 then 3 else w.ph }) rfl rfl rfl rfl rfl rfl rfl rfl rfl Z ?_;dsimp only;refine⟨?_,Y.2.1⟩;rw [List.length_append];have e:H*x.done+H*((c.scan x.blk.start x.blk.warm x.blk.data x.node x.done).2.1-x.done)=H*(c.scan x.blk.start x.blk.warm x.blk.data x.node x.done).2.1:=by rw [<-Nat.mul_add];congr 1;omega
 omega
theorem adp.stopW (h:adp c H D n s)(Z:s.wk[i]?=some x):adp c H D n (stopW s i):=by
 unfold Proofs.YtaamacoicojhnaaGreat.stopW;dsimp only;have Y:=h.takeW Z;obtain⟨y,X⟩:=amI Z
 repeat' split
 all_goals first | exact Y | exact h | exact Y.leaveW X | exact h.leaveW Z
theorem adp.stepR (h:adp c H D n s)(X:c.K<=256):adp c H D (n+1) (stepR c s):=by
 have Z:=h.up;have h3:=h.rea;have h4:=h.tol;have h1:=h.num;unfold Proofs.YtaamacoicojhnaaGreat.stepR
 split
 ·
  unfold stopR shutR backR
  split
  · exact⟨Z.num,Z.nxt,Z.rea,Z.tol,Z.off,Z.tk,Z.took,Z.ahe,Z.hit⟩
  · exact⟨Z.num,Z.nxt,Z.rea,Z.tol,Z.off,Z.tk,Z.took,Z.ahe,Z.hit⟩
 ·
  split
  · exact⟨Z.num,Z.nxt,Z.rea,Z.tol,Z.off,Z.tk,Z.took,by show s.read<=_;exact Z.rea,Z.hit⟩
  ·
   split
   ·
    have Y:=ao6 c.K s.rd.own s.rs;unfold readR;dsimp only
    split
    ·
     split
     · exact⟨Z.num,Z.nxt,Z.rea,Z.tol,Z.off,Z.tk,Z.took,Z.ahe,Z.hit⟩
     · exact⟨Z.num,Z.nxt,Z.rea,Z.tol,Z.off,Z.tk,Z.took,Z.ahe,Z.hit⟩
    · exact⟨Z.num,Z.nxt,by dsimp only;omega,by dsimp only;omega,Z.off,Z.tk,Z.took,Z.ahe,Z.hit⟩
   ·
    split
    · exact⟨by show s.number+1<=n+1;omega,Z.nxt,Z.rea,Z.tol,Z.off,Z.tk,Z.took,Z.ahe,Z.hit⟩
    · exact⟨Z.num,Z.nxt,Z.rea,Z.tol,Z.off,Z.tk,Z.took,Z.ahe,Z.hit⟩
theorem adp.stepMg (h:adp c H D n s):adp c H D (n+1) (stepMg s):=by
 have Z:=h.up;have h2:=h.nxt;unfold Proofs.YtaamacoicojhnaaGreat.stepMg takeM flushM ahW
 repeat' split
 all_goals first
  | exact⟨Z.num,Z.nxt,Z.rea,Z.tol,Z.off,Z.tk,Z.took,Z.ahe,Z.hit⟩
  | exact⟨Z.num,by show s.next+1<=n+1;omega,Z.rea,Z.tol,Z.off,Z.tk,Z.took,Z.ahe,Z.hit⟩
theorem adp.stepE (h:adp c H D n s):adp c H D (n+1) (stepE c s):=by
 have Z:=h.up;have h5:=h.off;have h6:=h.tk;have h7:=h.took;unfold Proofs.YtaamacoicojhnaaGreat.stepE offerE aeW
 repeat' split
 all_goals first
  | exact⟨Z.num,Z.nxt,Z.rea,Z.tol,Z.off,Z.tk,Z.took,Z.ahe,Z.hit⟩
  | exact⟨Z.num,Z.nxt,Z.rea,Z.tol,by show s.off+1<=n+1;omega,by show (s.tk++[_]).length<=n+1;rw [List.length_append];simp;omega,by show (s.took++[_]).length<=n+1;rw [List.length_append];simp;omega,Z.ahe,Z.hit⟩
  | exact⟨Z.num,Z.nxt,Z.rea,Z.tol,by show s.off+1<=n+1;omega,Z.tk,Z.took,Z.ahe,Z.hit⟩
theorem adp.step (h:adp c H D n s)(X:c.K<=256)(V:∀(i:Nat) (x:WkM),s.wk[i]?=some x->x.done<=(c.scan x.blk.start x.blk.warm x.blk.data x.node x.done).2.1/\(c.scan x.blk.start x.blk.warm x.blk.data x.node x.done).2.1<=D/\(c.scan x.blk.start x.blk.warm x.blk.data x.node x.done).2.2.1.length<=H*((c.scan x.blk.start x.blk.warm x.blk.data x.node x.done).2.1-x.done))(Y:aaB c s k=true):adp c H D (n+1) (abi c s k):=by
 unfold aaB at Y;unfold abi
 split at Y
 · rw [if_pos (by assumption)];exact h.stepR X
 ·
  rw [if_neg (by assumption)]
  split at Y
  ·
   rw [if_pos (by assumption)];obtain⟨x,Z,h4⟩:=aeJ Y;unfold stepW
   repeat' split
   all_goals first
    | exact (h.stopW Z).up
    | exact (h.takeW Z).up
    | exact h.scanW Z (V _ x Z)
    | exact (h.putWM Z).up
  ·
   rw [if_neg (by assumption)]
   split at Y
   · rw [if_pos (by assumption)];exact h.stepMg
   · rw [if_neg (by assumption)];exact h.stepE
end
def afs (l:List Int):Prop:=∀x∈l,0<=x/\x<=255
theorem as5 (m:Int)(rs:List (List Int))(h:∀r∈rs,afs r):afs (abw m rs):=by
 cases rs with
 | nil=>intro x Z;cases Z
 | cons r t=>
  have Y:=h r (by simp);show afs (if m<1 then [] else ads m r)
  split
  · intro x Z;cases Z
  ·
   unfold ads
   split
   · exact Y
   · intro x Z;exact Y x (axk Z)
theorem ath (m:Int)(rs:List (List Int))(L:Nat)(h:∀r∈rs,afs r/\r.length<=L):∀r∈afq m rs,afs r/\r.length<=L:=by
 cases rs with
 | nil=>intro x Y;cases Y
 | cons r t=>
  have V:=h r (by simp);have X:∀q∈t,afs q/\q.length<=L:=fun q Z=>h q (by simp [Z]);show ∀q∈(if m<1 then r :: t else ahI m r t),afs q/\q.length<=L
  split
  · exact h
  ·
   unfold ahI
   split
   · exact X
   ·
    intro q Z
    rcases axG.1 Z with rfl | Z
    · exact⟨fun x Y=>V.1 x (ayQ Y),by rw [List.length_drop];omega⟩
    · exact X q Z
theorem anY (K own:Nat)(rs:List (List Int))(h:own<=K):own+(abw ((K:Int)-own) rs).length<=K:=by
 cases rs with
 | nil=>exact h
 | cons x t=>
  show own+(if (K:Int)-own<1 then [] else ads ((K:Int)-own) x).length<=K
  by_cases h1:(K:Int)-own<1
  · rw [if_pos h1];exact h
  ·
   rw [if_neg h1];unfold ads
   by_cases h2:(x.length:Int)<=(K:Int)-own
   · rw [if_pos h2];omega
   · rw [if_neg h2,ay6];omega
structure abU (c:CfM)(L:Nat)(s:PlM):Prop where
 tal:s.rd.tail.length<=c.wm/\afs s.rd.tail
 rsb:∀r∈s.rs,afs r/\r.length<=L
 buf:(s.rd.ph=2∨s.rd.ph=3)->∃x0,s.ds[s.rd.buf]?=some x0/\x0.length=s.rd.warm+s.rd.own/\s.rd.own<=c.K/\s.rd.warm<=c.wm/\afs x0
 q:∀b∈s.q,b.data.length<=c.K+c.wm
 wd:∀(i:Nat) (x:WkM),s.wk[i]?=some x->x.blk.data.length<=c.K+c.wm
section
variable {c:CfM}{s t:PlM}{i k L:Nat}{x:WkM}
theorem abU.same (h:abU c L s)(Z:t.rd=s.rd)(N:t.rs=s.rs)(U:t.ds=s.ds)(V:∀b∈t.q,b∈s.q)(X:t.wk=s.wk):abU c L t:=
 ⟨by rw [Z];exact h.tal,by rw [N];exact h.rsb,by rw [Z,U];exact h.buf,fun b Y=>h.q b (V b Y),by rw [X];exact h.wd⟩
theorem abU.wk (h:abU c L s)(Z:t.rd=s.rd)(I:t.rs=s.rs)(J:t.ds=s.ds)(N:∀b∈t.q,b∈s.q){f:WkM->WkM}(U:t.wk=s.wk.modify i f)(Y:s.wk[i]?=some x)(X:(f x).blk.data.length<=c.K+c.wm):abU c L t:=
 ⟨by rw [Z];exact h.tal,by rw [I];exact h.rsb,by rw [Z,J];exact h.buf,fun b V=>h.q b (N b V),by rw [U];exact adU (p:=fun y=>y.blk.data.length<=c.K+c.wm) h.wd Y X⟩
theorem abU.takeW (h:abU c L s)(Z:s.wk[i]?=some x):abU c L (takeW s i):=by
 have V:=h.wd i x Z;unfold Proofs.YtaamacoicojhnaaGreat.takeW
 split
 · exact h.wk (f:=fun w=>{ w with ph:=4 }) rfl rfl rfl (fun b U=>U) rfl Z V
 ·
  rename_i b q Y
  exact h.wk (f:=fun w=>{ w with ph:=2,blk:=b }) rfl rfl rfl (fun y X=>by rw [Y];exact ayM _ X) rfl Z (h.q b (by rw [Y];simp))
theorem abU.scanW (h:abU c L s)(Z:s.wk[i]?=some x):abU c L (scanW c s i):=by
 have Y:=h.wd i x Z;unfold Proofs.YtaamacoicojhnaaGreat.scanW;exact h.wk (f:=fun w=>{ w with node:=(c.scan w.blk.start w.blk.warm w.blk.data w.node w.done).1,done:=(c.scan w.blk.start w.blk.warm w.blk.data w.node w.done).2.1,hits:=w.hits++(c.scan w.blk.start w.blk.warm w.blk.data w.node w.done).2.2.1,ph:=if (c.scan w.blk.start w.blk.warm w.blk.data w.node w.done).2.2.2 then 3 else w.ph }) rfl rfl rfl (fun b X=>X) rfl Z Y
theorem ab5.other (h:ab5 c s)(U:acA s)(Y:s.wk[i]?=some x)(V:x.ph=2∨x.ph=3)(X:s.rd.ph=2∨s.rd.ph=3):x.blk.buf≠s.rd.buf:=fun e=>by
 have h1:hW x=[x.blk]:=by unfold hW;rw [if_pos V]
 have Z:=h.cnt x.blk.buf;rw [aaM,afl (U.ho.2 X),afA,if_pos e] at Z;have N:0<((s.wk.flatMap hW).map aeG.buf).count x.blk.buf:=az4.2 (axE.2 ⟨x.blk,ayo.2 ⟨x,ay9 Y,by rw [h1];simp⟩,rfl⟩)
 split at Z<;>omega
theorem abU.leaveW (h:abU c L s)(J:ab5 c s)(N:acA s)(Z:s.wk[i]?=some x)(U:x.ph=2∨x.ph=3):abU c L (leaveW s i):=by
 rw [aeO Z];refine⟨h.tal,h.rsb,fun X=>?_,h.q,adU (p:=fun y=>y.blk.data.length<=c.K+c.wm) h.wd Z (axh _)⟩;obtain⟨Y,V,I⟩:=h.buf X;refine⟨Y,?_,I⟩;show (if ah0 s.us x.blk.buf then s.ds.set x.blk.buf [] else s.ds)[s.rd.buf]?=some Y
 split
 · rw [ayH,if_neg (J.other N Z U X)];exact V
 · exact V
theorem abU.putWM (h:abU c L s)(U:ab5 c s)(Z:acA s)(Y:s.wk[i]?=some x)(X:x.ph=2∨x.ph=3):abU c L (putWM s i):=by
 unfold Proofs.YtaamacoicojhnaaGreat.putWM;rw [Y];exact abU.leaveW (s:={ s with rg:=s.rg.set (x.blk.num-s.next) (some x.hits) }) (h.same rfl rfl rfl (fun b V=>V) rfl) (U.ring _) ⟨Z.ph,Z.ho,Z.wp,Z.mp,Z.ep⟩ Y X
end
section
variable {c:CfM}{s t:PlM}{i k L:Nat}{x:WkM}
theorem abU.stopW (h:abU c L s)(U:ab5 c s)(V:acA s)(Z:s.wk[i]?=some x)(I:1<=x.ph/\x.ph<=3):abU c L (stopW s i):=by
 unfold Proofs.YtaamacoicojhnaaGreat.stopW;rw [ac9 Z]
 by_cases h1:x.ph=1
 ·
  dsimp only;rw [if_pos h1];have Y:=h.takeW Z;have J:=U.takeW Z h1;have N:=V.takeW Z
  cases X:s.q with
  | nil=>
   have e:(Proofs.YtaamacoicojhnaaGreat.takeW s i).wk[i]?=some { x with ph:=4 }:=by unfold Proofs.YtaamacoicojhnaaGreat.takeW;rw [X];exact atD Z _
   rw [ac9 e,if_pos rfl];exact Y
  | cons b q=>
   have e:(Proofs.YtaamacoicojhnaaGreat.takeW s i).wk[i]?=some { x with ph:=2,blk:=b }:=by unfold Proofs.YtaamacoicojhnaaGreat.takeW;rw [X];exact atD Z _
   rw [ac9 e,if_neg (show ¬(2=4) by decide)];exact Y.leaveW J N e (.inl rfl)
 · dsimp only;rw [if_neg h1,ac9 Z,if_neg (by omega)];exact h.leaveW U V Z (by omega)
theorem abU.stepW (h:abU c L s)(X:ab5 c s)(Y:acA s)(Z:s.wk[i]?=some x)(V:1<=x.ph/\x.ph<=3):abU c L (stepW c s i):=by
 unfold Proofs.YtaamacoicojhnaaGreat.stepW;rw [ac9 Z]
 split
 · exact h.stopW X Y Z V
 ·
  split
  · exact h.takeW Z
  ·
   split
   · exact h.scanW Z
   · exact h.putWM X Y Z (by omega)
theorem abU.rdN (h:abU c L s)(U:t.rd.tail=s.rd.tail)(V:t.rs=s.rs)(X:¬(t.rd.ph=2∨t.rd.ph=3))(Y:t.q=s.q)(Z:t.wk=s.wk):abU c L t:=
 ⟨by rw [U];exact h.tal,by rw [V];exact h.rsb,fun e=>absurd e X,by rw [Y];exact h.q,by rw [Z];exact h.wd⟩
theorem abU.takeR (h:abU c L s)(Y:ab5 c s)(N:s.fr≠[]):abU c L (takeR s):=by
 obtain⟨n,X⟩:∃n,s.fr.getLast?=some n:=⟨_,az7 N⟩;have U:n∈s.fr:=by
  obtain⟨l,e⟩:=List.getLast?_eq_some_iff.1 X;rw [e];simp
 have V:=Y.uf n U;have Z:n<s.ds.length:=by
  have:=(awR.1 V).1;rw [Y.ul] at this;rw [Y.dl];exact this
 unfold Proofs.YtaamacoicojhnaaGreat.takeR;rw [X];refine⟨h.tal,h.rsb,fun _=>⟨s.rd.tail,?_,rfl,axh _,h.tal.1,h.tal.2⟩,h.q,h.wd⟩;show ((s.ds.set n []).set n s.rd.tail)[n]?=some s.rd.tail;rw [ayH,if_pos rfl,if_pos (by rw [axb];exact Z)]
theorem abU.readR (h:abU c L s)(D:s.rd.ph=2):abU c L (readR c s):=by
 obtain⟨V,X,B,I,J,N⟩:=h.buf (.inl D);have Y:=(awR.1 X).1;unfold Proofs.YtaamacoicojhnaaGreat.readR;dsimp only
 split
 ·
  split
  · exact⟨h.tal,h.rsb,fun _=>⟨V,X,B,I,J,N⟩,h.q,h.wd⟩
  · exact h.rdN rfl rfl (by show ¬((4:Nat)=2∨(4:Nat)=3);omega) rfl rfl
 ·
  have U:=as5 ((c.K:Int)-s.rd.own) s.rs fun r H=>(h.rsb r H).1;have C:=anY c.K s.rd.own s.rs I;refine⟨⟨by dsimp only;rw [List.length_drop];omega,fun y Z=>?_⟩,ath _ _ _ h.rsb,fun _=>⟨V++abw ((c.K:Int)-s.rd.own) s.rs,?_,?_,?_,J,fun y Z=>?_⟩,h.q,h.wd⟩
  ·
   rcases ayd.1 (ayQ Z) with h1 | h1
   · exact h.tal.2 y h1
   · exact U y h1
  ·
   dsimp only;rw [ayH,if_pos rfl,if_pos Y,ay5,X]
   rfl
  · dsimp only;rw [List.length_append];omega
  · dsimp only;exact C
  ·
   rcases ayd.1 Z with h1 | h1
   · exact N y h1
   · exact U y h1
theorem abU.putR (h:abU c L s)(Z:s.rd.ph=3):abU c L (putR c s):=by
 obtain⟨V,X,I,J,N,U⟩:=h.buf (.inr Z);unfold Proofs.YtaamacoicojhnaaGreat.putR;refine⟨h.tal,h.rsb,fun e=>?_,fun b Y=>?_,h.wd⟩
 ·
  have e:(if s.rd.ended then 4 else 1)=2∨(if s.rd.ended then 4 else 1)=3:=e
  split at e<;>omega
 ·
  rcases ayd.1 Y with h1 | h1
  · exact h.q b h1
  · rw [ayp.1 h1];dsimp only;rw [ay5,X,ayr];omega
theorem abU.stepR (h:abU c L s)(V:ab5 c s)(U:acA s)(h5:s.rd.ph≠5)(X:s.cancelled=false->s.rd.ph=1->s.fr≠[]):abU c L (stepR c s):=by
 have Z:¬((5:Nat)=2∨(5:Nat)=3):=by omega
 unfold Proofs.YtaamacoicojhnaaGreat.stepR
 split
 ·
  unfold stopR shutR backR
  split
  · exact h.rdN rfl rfl Z rfl rfl
  · exact h.rdN rfl rfl Z rfl rfl
 ·
  rename_i Y
  split
  · exact h.takeR V (X (by simpa using Y) (by assumption))
  ·
   split
   · exact h.readR (by assumption)
   ·
    split
    · exact h.putR (by assumption)
    · exact h.rdN rfl rfl Z rfl rfl
theorem abU.stepMg (h:abU c L s):abU c L (stepMg s):=by
 unfold Proofs.YtaamacoicojhnaaGreat.stepMg takeM flushM ahW
 repeat' split
 all_goals exact h.same rfl rfl rfl (fun b Z=>Z) rfl
theorem abU.stepE (h:abU c L s):abU c L (stepE c s):=by
 unfold Proofs.YtaamacoicojhnaaGreat.stepE offerE aeW
 repeat' split
 all_goals exact h.same rfl rfl rfl (fun b Z=>Z) rfl
theorem abU.step (h:abU c L s)(Y:aru c s)(Z:aaB c s k=true):abU c L (abi c s k):=by
 unfold aaB at Z;unfold abi
 split at Z
 ·
  rw [if_pos (by assumption)];have h5:s.rd.ph≠5:=fun e=>by unfold abt at Z;rw [if_pos e] at Z;cases Z
  refine h.stepR Y.b Y.a.r h5 fun N X=>Y.b.free (Y.n N) Y.a.r X ?_;have V:¬s.cancelled=true:=by rw [N];decide
  unfold abt at Z;rw [if_neg h5,if_neg V,if_pos X] at Z;exact Z
 ·
  rw [if_neg (by assumption)]
  split at Z
  · rw [if_pos (by assumption)];obtain⟨x,U,h4⟩:=aeJ Z;have X:=Y.a.r.wp _ x U;exact h.stepW Y.b Y.a.r U (by omega)
  ·
   rw [if_neg (by assumption)]
   split at Z
   · rw [if_pos (by assumption)];exact h.stepMg
   · rw [if_neg (by assumption)];exact h.stepE
end
theorem avC {c:CfM}{s:PlM}{H D n L:Nat}(V:OkC c)(I:aru c s)(Z:adp c H D n s)(B:abU c L s)(hn:n<=3900)(a2:H*D<=1000000)(hL:L<=1000000)(hH:∀(i:Nat) (x:WkM),s.wk[i]?=some x->x.done<=(c.scan x.blk.start x.blk.warm x.blk.data x.node x.done).2.1/\(c.scan x.blk.start x.blk.warm x.blk.data x.node x.done).2.1<=D/\(c.scan x.blk.start x.blk.warm x.blk.data x.node x.done).2.2.1.length<=H*((c.scan x.blk.start x.blk.warm x.blk.data x.node x.done).2.1-x.done)):OkM c s:=by
 have U:=I.a.r;have X:=I.a.f;have N:=I.b;have w1:=V.W;have w2:=V.K;have w3:=V.R;have w4:=V.O;have w5:=V.F;have w6:=V.wm;have g1:=Z.num;have g2:=Z.nxt;have g3:=Z.rea;have g4:=Z.tol;have g5:=Z.off;have g6:=Z.tk;have g7:=Z.took;have g8:=Z.ahe;have J:=N.perm.length_eq;rw [List.length_append,List.length_range] at J;have a1:=X.ol;refine⟨X.wl,X.gl,by omega,fun x Y=>(awR.1 (N.uf x Y)).1,by rw [N.dl,N.ul],by omega,by omega,by omega,by omega,fun r hr=>awT (B.rsb r hr).2 hL,B.tal.1,by omega,by omega,by omega,by omega,U.ph,by omega,fun h1 h2 h3=>N.free (I.n h2) U h1 h3,fun C=>?_,fun h5=>by rw [X.shu,decide_eq_false h5],fun i x Y=>?_,fun i x Y C A=>?_,U.mp,fun h1 _=>X.ml h1,fun h3=>by rw [X.en,decide_eq_false h3],U.ep⟩
 · obtain⟨z,h,j,o,v,y⟩:=B.buf C;refine⟨z,N.ut _ ?_,h,j,o,v,y⟩;unfold acn;rw [afl (U.ho.2 C)];simp
 ·
  have h1:=U.wp i x Y;have h2:=B.wd i x Y;have h3:=Z.hit i x Y;have h4:=hH i x Y;have e:H*x.done+H*((c.scan x.blk.start x.blk.warm x.blk.data x.node x.done).2.1-x.done)=H*(c.scan x.blk.start x.blk.warm x.blk.data x.node x.done).2.1:=by rw [<-Nat.mul_add];congr 1;omega
  have e2:=Nat.mul_le_mul_left H h4.2.1;exact⟨h1.1,h1.2,by omega,fun _=>by omega⟩
 · obtain⟨p1,p2,p3,p4⟩:=(I.n A).place X.gl Y (.inr C);exact⟨p1,p3,p4,by omega⟩
theorem apl {c:CfM}{H D:Nat}(rs:List (List Int)):adp c H D 0 (ajI c rs):=by
 refine⟨axe _,axe _,axe _,axe _,axe _,axe _,axe _,axe _,fun i x Z=>?_⟩;have:=ay8 (ay9 (show (List.replicate c.W (wk0 1))[i]?=some x from Z));rw [this];exact⟨axh _,axh _⟩
theorem aq5 {c:CfM}{L:Nat}(rs:List (List Int))(h:∀r∈rs,afs r/\r.length<=L):abU c L (ajI c rs):=by
 refine⟨⟨axh _,fun x Z=>by cases Z⟩,h,fun e=>?_,fun b Y=>(by cases Y),fun i x Z=>?_⟩
 · have e:(1:Nat)=2∨(1:Nat)=3:=e;omega
 · have:=ay8 (ay9 (show (List.replicate c.W (wk0 1))[i]?=some x from Z));rw [this];exact axh _
def amB (c:CfM)(H D:Nat):Prop:=∀(Y wm:Nat) (Z:List Int) (z d:Nat),Z.length<=c.K+c.wm->d<=D->d<=(c.scan Y wm Z z d).2.1/\(c.scan Y wm Z z d).2.1<=D/\(c.scan Y wm Z z d).2.2.1.length<=H*((c.scan Y wm Z z d).2.1-d)
structure ag8 (c:CfM)(H D L n:Nat)(s:PlM):Prop where
 p:aru c s
 g:adp c H D n s
 d:abU c L s
section
variable {c:CfM}{s:PlM}{H D L n k:Nat}
theorem ag8.step (h:ag8 c H D L n s)(X:c.K<=256)(V:amB c H D)(Z:aaB c s k=true):ag8 c H D L (n+1) (abi c s k):=
 ⟨h.p.step Z,h.g.step X (fun i x Y=>V _ _ _ _ _ (h.d.wd i x Y) (h.g.hit i x Y).2) Z,h.d.step h.p Z⟩
theorem ag8.up (h:ag8 c H D L n s):ag8 c H D L (n+1) s:=⟨h.p,h.g.up,h.d⟩
theorem ag8.pick (h:ag8 c H D L n s)(Y:c.K<=256)(X:amB c H D)(m:Int):ag8 c H D L (n+1) (act c s m):=by
 unfold act
 cases Z:aeC c s m with
 | none=>exact h.up
 | some k=>exact h.step Y X (adO Z).2
theorem ag8.cancel (h:ag8 c H D L n s):ag8 c H D L n (aaE s):=by
 refine⟨h.p.cancel,?_,?_⟩
 ·
  unfold aaE
  split
  · exact h.g
  · exact⟨h.g.num,h.g.nxt,h.g.rea,h.g.tol,h.g.off,h.g.tk,h.g.took,h.g.ahe,h.g.hit⟩
 ·
  unfold aaE
  split
  · exact h.d
  · exact h.d.same rfl rfl rfl (fun b Z=>Z) rfl
theorem ag8.new (hW:1<=c.W)(rs:List (List Int))(h:∀r∈rs,afs r/\r.length<=L):ag8 c H D L 0 (ajI c rs):=⟨apV hW rs,apl rs,aq5 rs h⟩
theorem ag8.ok (h:ag8 c H D L n s)(V:OkC c)(X:n<=3900)(Z:H*D<=1000000)(U:L<=1000000)(N:amB c H D):OkM c s:=
 avC V h.p h.g h.d X Z U fun i x Y=>N _ _ _ _ _ (h.d.wd i x Y) (h.g.hit i x Y).2
theorem ao3 (s:PlM):(aaE s).cancelled=true∨ac1 (aaE s)=true:=by
 unfold aaE
 cases Z:s.cancelled with
 | true=>exact .inl Z
 | false=>
  cases ho:ac1 s with
  | true=>exact .inr ho
  | false=>exact .inl rfl
end
abbrev blV (Y Z wm:Int)(a:Option Addr)(n c:Nat):Array Value:=#[.int .i64 Y,.int .i64 Z,.int .i64 wm,.slice a n c]
def ak4 (L Z wm:Int)(n:Nat):Bool:=decide (0<=Z/\Z<=4611686020574871551/\0<=wm/\wm<=L-1/\wm<=Z/\1<=(n:Int)-wm/\(n:Int)-wm<=256)
theorem amK {wss:List (List Int)}(h:∀x∈wss,x.length<=1000000):0<=aaY wss/\aaY wss<=1000000:=by
 obtain⟨N,h1,_,h3⟩:=ai7 wss;have:=h3 1000000 h;omega
theorem ajG {W0:World}{B:Nat}{fold:Bool}{wss:List (List Int)}(o U wm:Int)(a:Option Addr)(n c:Nat)(w:World)(h:alm W0 B fold wss w)(hn:n<=1000000) :
  Calls ZP 268 #[.pointer (some ⟨B,0,none⟩),.agg (blV o U wm a n c)] w fun e w'=>e=.returned (.bool (ak4 (aaY wss) U wm n))/\Below w.heap.size w w':=by
 obtain⟨W,hW⟩:∃W,W=w.alloc (.cells (blV o U wm a n c) 120):=⟨_,rfl⟩;have hB:Below w.heap.size w W:=by rw [hW];exact aa1 _ _
 have j:W.heap[w.heap.size]?=some (.cells (blV o U wm a n c) 120 (0,0)):=by rw [hW];exact axg _ _
 have Z:Hid (∀V,RowKit.Below W.heap.size W V->V.cell? ⟨w.heap.size,0,none⟩=some (.int .i64 o)/\V.cell? ⟨w.heap.size,1,none⟩=some (.int .i64 U)/\V.cell? ⟨w.heap.size,2,none⟩=some (.int .i64 wm)/\V.cell? ⟨w.heap.size,3,none⟩=some (.slice a n c)/\w.heap.size<V.heap.size):=fun V hV=>by
  have h:=(hV.block _ (awU.1 j).1).trans j;exact⟨by simp [World.cell?,h],by simp [World.cell?,h],by simp [World.cell?,h],by simp [World.cell?,h],(awU.1 h).1⟩
 obtain⟨m0,m1⟩:=amK h.len;obtain⟨L,hL⟩:∃n,aaY wss=n:=⟨_,rfl⟩;have HU:=ax3 (h.below hB);have KS:Hid (∀V,RowKit.Below W.heap.size W V->Calls ZP 95 #[.pointer (some ⟨B,0,none⟩)] V fun e w'=>e=.returned (.int .i64 L)/\V=w'):=fun V hV=>by
  have h:=(HU.out.below hV).longest;rw [hL] at h;exact h
 rw [hL] at m0 m1 ⊢;have H:=ax3 hB;obtain⟨s,v,x,y,z⟩:=Z.out W (axf _ _);clear j h hB hL HU;go_enter func268,ntmps268;go_upto_region 1 with fail
 rw [<-hW];clear hW
 by_cases h0:U<0
 ·
  have d0:decide (U<(0:Int))=true:=by simpa using h0
  have e:ak4 L U wm n=false:=by unfold ak4;simp;omega
  have I:=ax3 e;clear e h0;go_wp2;go_ret;exact⟨by rw [I.out];rfl,H.out⟩
 have d0:decide (U<(0:Int))=false:=by simpa using h0
 by_cases h1:4611686020574871551<U
 ·
  have d1:decide ((4611686020574871551:Int)<U)=true:=by simpa using h1
  have e:ak4 L U wm n=false:=by unfold ak4;simp;omega
  have I:=ax3 e;clear e h0 h1;go_wp2;go_ret;exact⟨by rw [I.out];rfl,H.out⟩
 have d1:decide ((4611686020574871551:Int)<U)=false:=by simpa using h1
 go_upto_region 3 with fail
 clear d0 d1
 by_cases h2:wm<0
 ·
  have d2:decide (wm<(0:Int))=true:=by simpa using h2
  have e:ak4 L U wm n=false:=by unfold ak4;simp;omega
  have I:=ax3 e;clear e h0 h1 h2;refine wp_region_noPanic ?_;refine wp_region_held_drew (S:=RowKit.Below W.heap.size W) (by kernel_rfl) (aa2 W 1) (fun J=>?_);obtain⟨A,Y⟩:∃X,X=W.drew:=⟨_,rfl⟩;rw [<-Y] at J ⊢;clear Y s v x y z;refine tkB 0 Z.out ?_;refine tkB 1 Z.out ?_;refine tkB 2 Z.out ?_;refine tkB 3 Z.out ?_;refine tkN 4 ?_
  try simp only [Act.put,pA,pB,pC]
  refine tkN 5 ?_
  try simp only [Act.put,pA,pB,pC]
  refine tkN 6 ?_
  try simp only [Act.put,pA,pB,pC]
  refine tkN 7 ?_
  try simp only [Act.put,pA,pB,pC]
  refine tkN 8 ?_
  try simp only [Act.put,pA,pB,pC]
  refine tkN 9 ?_
  try simp only [Act.put,pA,pB,pC]
  refine tkA 10 ?_;refine tkA 11 ?_;refine tkN 12 ?_
  try simp only [Act.put,pA,pB,pC]
  refine tkN 13 ?_
  try simp only [Act.put,pA,pB,pC]
  refine tkN 14 ?_
  try simp only [Act.put,pA,pB,pC]
  refine tkN 15 ?_
  try simp only [Act.put,pA,pB,pC]
  refine tkN 16 ?_
  try simp only [Act.put,pA,pB,pC]
  refine tkA 17 ?_;refine wpAnyH_done (by kernel_rfl) ?_ _;refine ax4 ?_;have C:=ax3 J;go_wp2;go_ret;exact⟨by rw [I.out];rfl,H.out.trans (C.out.mono H.out.size)⟩
 have d2:decide (wm<(0:Int))=false:=by simpa using h2
 have a1:0<=wm:=by omega
 have kw:IntKind.i64.wrap (L-1)=L-1:=by rw [ax2];omega
 by_cases h3:L-1<wm
 ·
  have d3:decide (L-1<wm)=true:=by simpa using h3
  have e:ak4 L U wm n=false:=by unfold ak4;simp;omega
  have I:=ax3 e;clear e h0 h1 h2 h3;refine wp_region_noPanic ?_;refine wp_region_held_drew (S:=RowKit.Below W.heap.size W) (by kernel_rfl) (aa2 W 1) (fun J=>?_);obtain⟨A,Y⟩:∃X,X=W.drew:=⟨_,rfl⟩;rw [<-Y] at J ⊢;clear Y s v x y z;refine tkB 0 Z.out ?_;refine tkB 1 Z.out ?_;refine tkB 2 Z.out ?_;refine tkB 3 Z.out ?_;refine tkB 4 Z.out ?_;refine tkB 5 Z.out ?_;refine tkB 6 Z.out ?_;refine rdy 7 (fun K D=>?_);go_simp
  go_at_call 95;refine (KS.out A J).mono ?_;rintro e w2 ⟨rfl,rfl⟩
  refine D.out _ _ (J) (fun N=>?_);clear D K
  try simp only [Act.put,pA,pB,pC]
  refine tkA 8 ?_;refine tkA 9 ?_;refine tkA 10 ?_;refine tkA 11 ?_;refine tkN 12 ?_
  try simp only [Act.put,pA,pB,pC]
  refine tkN 13 ?_
  try simp only [Act.put,pA,pB,pC]
  refine tkN 14 ?_
  try simp only [Act.put,pA,pB,pC]
  refine tkN 15 ?_
  try simp only [Act.put,pA,pB,pC]
  refine tkN 16 ?_
  try simp only [Act.put,pA,pB,pC]
  refine tkA 17 ?_;refine wpAnyH_done (by kernel_rfl) ?_ _;refine ax4 ?_;have C:=ax3 N;go_wp2;go_ret;exact⟨by rw [I.out];rfl,H.out.trans (C.out.mono H.out.size)⟩
 have d3:decide (L-1<wm)=false:=by simp;omega
 by_cases h4:U<wm
 ·
  have d4:decide (U<wm)=true:=by simpa using h4
  have e:ak4 L U wm n=false:=by unfold ak4;simp;omega
  have I:=ax3 e;clear e h0 h1 h2 h3 h4;refine wp_region_noPanic ?_;refine wp_region_held_drew (S:=RowKit.Below W.heap.size W) (by kernel_rfl) (aa2 W 1) (fun J=>?_);obtain⟨A,Y⟩:∃X,X=W.drew:=⟨_,rfl⟩;rw [<-Y] at J ⊢;clear Y s v x y z;refine tkB 0 Z.out ?_;refine tkB 1 Z.out ?_;refine tkB 2 Z.out ?_;refine tkB 3 Z.out ?_;refine tkB 4 Z.out ?_;refine tkB 5 Z.out ?_;refine tkB 6 Z.out ?_;refine rdy 7 (fun K D=>?_);go_simp
  go_at_call 95;refine (KS.out A J).mono ?_;rintro e w2 ⟨rfl,rfl⟩
  refine D.out _ _ (J) (fun N=>?_);clear D K
  try simp only [Act.put,pA,pB,pC]
  refine tkB 8 Z.out ?_;refine tkB 9 Z.out ?_;refine tkB 10 Z.out ?_;refine tkB 11 Z.out ?_;refine tkB 12 Z.out ?_;refine tkB 13 Z.out ?_;refine tkB 14 Z.out ?_;refine tkB 15 Z.out ?_;refine tkB 16 Z.out ?_;refine tkB 17 Z.out ?_;refine wpAnyH_done (by kernel_rfl) ?_ _;refine ax4 ?_;have C:=ax3 N;go_wp2;go_ret;exact⟨by rw [I.out];rfl,H.out.trans (C.out.mono H.out.size)⟩
 have d4:decide (U<wm)=false:=by simp;omega
 have a2:wm<=1000000:=by omega
 have e:ak4 L U wm n=(decide (1<=(n:Int)-wm)&&decide ((n:Int)-wm<=256)):=by
  unfold ak4;rw [axq];simp;omega
 have I:=ax3 e;clear e h0 h1 h2 h3 h4;refine wp_region_noPanic ?_;refine wp_region_held_drew (S:=RowKit.Below W.heap.size W) (by kernel_rfl) (aa2 W 1) (fun J=>?_);obtain⟨A,Y⟩:∃X,X=W.drew:=⟨_,rfl⟩;rw [<-Y] at J ⊢;clear Y s v x y z;refine tkB 0 Z.out ?_;refine tkB 1 Z.out ?_;refine tkB 2 Z.out ?_;refine tkB 3 Z.out ?_;refine tkB 4 Z.out ?_;refine tkB 5 Z.out ?_;refine tkB 6 Z.out ?_;refine rdy 7 (fun K D=>?_);go_simp
 go_at_call 95;refine (KS.out A J).mono ?_;rintro e w2 ⟨rfl,rfl⟩
 refine D.out _ _ (J) (fun N=>?_);clear D K
 try simp only [Act.put,pA,pB,pC]
 refine tkB 8 Z.out ?_;refine tkB 9 Z.out ?_;refine tkB 10 Z.out ?_;refine tkB 11 Z.out ?_;refine tkB 12 Z.out ?_;refine tkB 13 Z.out ?_;refine tkB 14 Z.out ?_;refine tkB 15 Z.out ?_;refine tkB 16 Z.out ?_;refine tkB 17 Z.out ?_;refine wpAnyH_done (by kernel_rfl) ?_ _;refine ax4 ?_;have C:=ax3 N;obtain⟨s,v,x,y,z⟩:=Z.out A N;clear J N d2 d3 d4
 by_cases h5:1<=(n:Int)-wm
 ·
  have d5:decide (1<=(n:Int)-wm)=true:=by simpa using h5
  rw [d5,ayC] at I;clear h5;go_wp2;go_ret;exact⟨by rw [I.out];rfl,H.out.trans (C.out.mono H.out.size)⟩
 ·
  have d5:decide (1<=(n:Int)-wm)=false:=by simpa using h5
  rw [d5,Bool.false_and] at I;clear h5;go_wp2;go_ret;exact⟨by rw [I.out];rfl,H.out.trans (C.out.mono H.out.size)⟩
abbrev prV (z d:Int):Value:=.agg #[.int .i64 z,.int .i64 d]
def avc (N:Nat)(L Z wm:Int)(n:Nat)(z d:Int):Bool:=ak4 L Z wm n&&decide ((0<=z/\z<(N:Int))/\0<=d/\d<=(n:Int))
theorem aeo {W0:World}{B:Nat}{fold:Bool}{wss:List (List Int)}(nu s wm:Int)(a:Option Addr)(n c:Nat)(z d:Int)(w:World)(h:alm W0 B fold wss w)(hn:n<=1000000) :
  Calls ZP 241 #[.pointer (some ⟨B,0,none⟩),.agg (blV nu s wm a n c),prV z d] w fun e w'=>e=.returned (.bool (avc (aa0 wss).length (aaY wss) s wm n z d))/\Below w.heap.size w w':=by
 obtain⟨W,hW⟩:∃W,W=(w.alloc (.cells (blV nu s wm a n c) 120)).alloc (.cells #[.int .i64 z,.int .i64 d] 247):=⟨_,rfl⟩;have hB:Below w.heap.size w W:=by rw [hW];exact ((axf _ _).alloc (axe _) _).alloc (by simp) _
 have hO:Bx w.heap.size [.cells (blV nu s wm a n c) 120,.cells #[.int .i64 z,.int .i64 d] 247] W:=by rw [hW];exact ((Bx.nil _ w).snoc _ rfl).snoc _ (by simp)
 have Z:Hid (∀V,RowKit.Below W.heap.size W V->V.cell? ⟨w.heap.size,0,none⟩=some (.int .i64 nu)/\V.cell? ⟨w.heap.size,1,none⟩=some (.int .i64 s)/\V.cell? ⟨w.heap.size,2,none⟩=some (.int .i64 wm)/\V.cell? ⟨w.heap.size,3,none⟩=some (.slice a n c)/\V.cell? ⟨w.heap.size+1,0,none⟩=some (.int .i64 z)/\V.cell? ⟨w.heap.size+1,1,none⟩=some (.int .i64 d)):=fun V hV=>by
  have h:=hO.below hV;exact⟨h.cell (i:=0) rfl rfl,h.cell (i:=0) rfl rfl,h.cell (i:=0) rfl rfl,h.cell (i:=0) rfl rfl,h.cell (i:=1) rfl rfl,h.cell (i:=1) rfl rfl⟩
 have HU:=ax3 (h.below hB);obtain⟨N,hN⟩:∃k,(aa0 wss).length=k:=⟨_,rfl⟩;obtain⟨S,j⟩:∃k,ak4 (aaY wss) s wm n=k:=⟨_,rfl⟩;have KS:Hid (∀V,RowKit.Below W.heap.size W V->Calls ZP 269 #[.pointer (some ⟨B,0,none⟩)] V fun e w'=>e=.returned (.int .i64 (N:Int))/\V=w'):=fun V hV=>by
  have h:=(HU.out.below hV).states;rw [hN] at h;exact h
 have KN:Hid (∀V,RowKit.Below W.heap.size W V->Calls ZP 268 #[.pointer (some ⟨B,0,none⟩),.agg (blV nu s wm a n c)] V fun e w'=>e=.returned (.bool S)/\RowKit.Below V.heap.size V w'):=fun V hV=>by
  have h:=ajG nu s wm a n c V (HU.out.below hV) hn;rw [j] at h;exact h
 unfold avc;rw [hN,j];have A:=ax3 hB;clear hO h hB hN j HU
 cases S with
 | false=>
  have v:Hid ((false&&decide ((0<=z/\z<(N:Int))/\0<=d/\d<=(n:Int)))=false):=rfl;go_enter func241,ntmps241;go_upto_region 1 with fail
  rw [<-hW];clear hW;refine wp_region_noPanic ?_;refine wp_region_held_drew (S:=RowKit.Below W.heap.size W) (by kernel_rfl) (aa2 W 1) (fun J=>?_);obtain⟨y,Y⟩:∃X,X=W.drew:=⟨_,rfl⟩;rw [<-Y] at J ⊢;clear Y;refine tkB 0 Z.out ?_;refine tkB 1 Z.out ?_;refine rdy 2 (fun K I=>?_);go_simp
  go_at_call 268;refine (KN.out y J).mono ?_;rintro e o ⟨rfl,H⟩
  refine I.out _ _ (J.trans (H.mono J.size)) (fun U=>?_);clear I K
  try simp only [Act.put,pA,pB,pC]
  refine tkA 3 ?_;refine tkN 4 ?_
  try simp only [Act.put,pA,pB,pC]
  refine tkN 5 ?_
  try simp only [Act.put,pA,pB,pC]
  refine tkN 6 ?_
  try simp only [Act.put,pA,pB,pC]
  refine tkA 7 ?_;refine tkA 8 ?_;refine tkN 9 ?_
  try simp only [Act.put,pA,pB,pC]
  refine tkN 10 ?_
  try simp only [Act.put,pA,pB,pC]
  refine tkN 11 ?_
  try simp only [Act.put,pA,pB,pC]
  refine tkN 12 ?_
  try simp only [Act.put,pA,pB,pC]
  refine tkN 13 ?_
  try simp only [Act.put,pA,pB,pC]
  refine tkA 14 ?_;refine tkA 15 ?_;refine tkN 16 ?_
  try simp only [Act.put,pA,pB,pC]
  refine tkN 17 ?_
  try simp only [Act.put,pA,pB,pC]
  refine tkN 18 ?_
  try simp only [Act.put,pA,pB,pC]
  refine tkA 19 ?_;refine tkA 20 ?_;refine tkN 21 ?_
  try simp only [Act.put,pA,pB,pC]
  refine tkN 22 ?_
  try simp only [Act.put,pA,pB,pC]
  refine tkN 23 ?_
  try simp only [Act.put,pA,pB,pC]
  refine tkN 24 ?_
  try simp only [Act.put,pA,pB,pC]
  refine tkN 25 ?_
  try simp only [Act.put,pA,pB,pC]
  refine tkN 26 ?_
  try simp only [Act.put,pA,pB,pC]
  refine tkA 27 ?_;refine tkA 28 ?_;refine wpAnyH_done (by kernel_rfl) ?_ _;refine ax4 ?_;have x:=ax3 U;go_wp2;go_ret;exact⟨by rw [v.out];rfl,A.out.trans (x.out.mono A.out.size)⟩
 | true=>
  by_cases h0:0<=z
  case neg=>
   have d0:decide ((0:Int)<=z)=false:=by simpa using h0
   have e:(true&&decide ((0<=z/\z<(N:Int))/\0<=d/\d<=(n:Int)))=false:=by
    rw [ayC]
    first | exact decide_eq_false (by omega) | exact decide_eq_true (by omega)
   have v:=ax3 e;clear e h0;go_enter func241,ntmps241;go_upto_region 1 with fail
   rw [<-hW];clear hW;refine wp_region_noPanic ?_;refine wp_region_held_drew (S:=RowKit.Below W.heap.size W) (by kernel_rfl) (aa2 W 1) (fun J=>?_);obtain⟨y,Y⟩:∃X,X=W.drew:=⟨_,rfl⟩;rw [<-Y] at J ⊢;clear Y;refine tkB 0 Z.out ?_;refine tkB 1 Z.out ?_;refine rdy 2 (fun K I=>?_);go_simp
   go_at_call 268;refine (KN.out y J).mono ?_;rintro e o ⟨rfl,H⟩
   refine I.out _ _ (J.trans (H.mono J.size)) (fun U=>?_);clear I K
   try simp only [Act.put,pA,pB,pC]
   refine tkB 3 Z.out ?_;refine tkB 4 Z.out ?_;refine tkB 5 Z.out ?_;refine tkB 6 Z.out ?_;refine tkB 7 Z.out ?_;refine tkB 8 Z.out ?_;refine tkN 9 ?_
   try simp only [Act.put,pA,pB,pC]
   refine tkN 10 ?_
   try simp only [Act.put,pA,pB,pC]
   refine tkN 11 ?_
   try simp only [Act.put,pA,pB,pC]
   refine tkN 12 ?_
   try simp only [Act.put,pA,pB,pC]
   refine tkN 13 ?_
   try simp only [Act.put,pA,pB,pC]
   refine tkA 14 ?_;refine tkA 15 ?_;refine tkN 16 ?_
   try simp only [Act.put,pA,pB,pC]
   refine tkN 17 ?_
   try simp only [Act.put,pA,pB,pC]
   refine tkN 18 ?_
   try simp only [Act.put,pA,pB,pC]
   refine tkA 19 ?_;refine tkA 20 ?_;refine tkN 21 ?_
   try simp only [Act.put,pA,pB,pC]
   refine tkN 22 ?_
   try simp only [Act.put,pA,pB,pC]
   refine tkN 23 ?_
   try simp only [Act.put,pA,pB,pC]
   refine tkN 24 ?_
   try simp only [Act.put,pA,pB,pC]
   refine tkN 25 ?_
   try simp only [Act.put,pA,pB,pC]
   refine tkN 26 ?_
   try simp only [Act.put,pA,pB,pC]
   refine tkA 27 ?_;refine tkA 28 ?_;refine wpAnyH_done (by kernel_rfl) ?_ _;refine ax4 ?_;have x:=ax3 U;go_wp2;go_ret;exact⟨by rw [v.out];rfl,A.out.trans (x.out.mono A.out.size)⟩
  have d0:decide ((0:Int)<=z)=true:=by simpa using h0
  by_cases h1:z<(N:Int)
  case neg=>
   have d1:decide (z<(N:Int))=false:=by simpa using h1
   have e:(true&&decide ((0<=z/\z<(N:Int))/\0<=d/\d<=(n:Int)))=false:=by
    rw [ayC]
    first | exact decide_eq_false (by omega) | exact decide_eq_true (by omega)
   have v:=ax3 e;clear e h0 h1;go_enter func241,ntmps241;go_upto_region 1 with fail
   rw [<-hW];clear hW;refine wp_region_noPanic ?_;refine wp_region_held_drew (S:=RowKit.Below W.heap.size W) (by kernel_rfl) (aa2 W 1) (fun J=>?_);obtain⟨y,Y⟩:∃X,X=W.drew:=⟨_,rfl⟩;rw [<-Y] at J ⊢;clear Y;refine tkB 0 Z.out ?_;refine tkB 1 Z.out ?_;refine rdy 2 (fun K I=>?_);go_simp
   go_at_call 268;refine (KN.out y J).mono ?_;rintro e o ⟨rfl,H⟩
   refine I.out _ _ (J.trans (H.mono J.size)) (fun U=>?_);clear I K
   try simp only [Act.put,pA,pB,pC]
   refine tkB 3 Z.out ?_;refine tkB 4 Z.out ?_;refine tkB 5 Z.out ?_;refine tkB 6 Z.out ?_;refine tkB 7 Z.out ?_;refine tkB 8 Z.out ?_;refine tkB 9 Z.out ?_;refine tkB 10 Z.out ?_;refine tkB 11 Z.out ?_;refine rdy 12 (fun K I=>?_);go_simp
   go_at_call 269;refine (KS.out o U).mono ?_;rintro e w3 ⟨rfl,rfl⟩
   refine I.out _ _ (U) (fun C=>?_);clear I K
   try simp only [Act.put,pA,pB,pC]
   refine tkA 13 ?_;refine tkA 14 ?_;refine tkA 15 ?_;refine tkN 16 ?_
   try simp only [Act.put,pA,pB,pC]
   refine tkN 17 ?_
   try simp only [Act.put,pA,pB,pC]
   refine tkN 18 ?_
   try simp only [Act.put,pA,pB,pC]
   refine tkA 19 ?_;refine tkA 20 ?_;refine tkN 21 ?_
   try simp only [Act.put,pA,pB,pC]
   refine tkN 22 ?_
   try simp only [Act.put,pA,pB,pC]
   refine tkN 23 ?_
   try simp only [Act.put,pA,pB,pC]
   refine tkN 24 ?_
   try simp only [Act.put,pA,pB,pC]
   refine tkN 25 ?_
   try simp only [Act.put,pA,pB,pC]
   refine tkN 26 ?_
   try simp only [Act.put,pA,pB,pC]
   refine tkA 27 ?_;refine tkA 28 ?_;refine wpAnyH_done (by kernel_rfl) ?_ _;refine ax4 ?_;have x:=ax3 C;go_wp2;go_ret;exact⟨by rw [v.out];rfl,A.out.trans (x.out.mono A.out.size)⟩
  have d1:decide (z<(N:Int))=true:=by simpa using h1
  by_cases h2:0<=d
  case neg=>
   have d2:decide ((0:Int)<=d)=false:=by simpa using h2
   have e:(true&&decide ((0<=z/\z<(N:Int))/\0<=d/\d<=(n:Int)))=false:=by
    rw [ayC]
    first | exact decide_eq_false (by omega) | exact decide_eq_true (by omega)
   have v:=ax3 e;clear e h0 h1 h2;go_enter func241,ntmps241;go_upto_region 1 with fail
   rw [<-hW];clear hW;refine wp_region_noPanic ?_;refine wp_region_held_drew (S:=RowKit.Below W.heap.size W) (by kernel_rfl) (aa2 W 1) (fun J=>?_);obtain⟨y,Y⟩:∃X,X=W.drew:=⟨_,rfl⟩;rw [<-Y] at J ⊢;clear Y;refine tkB 0 Z.out ?_;refine tkB 1 Z.out ?_;refine rdy 2 (fun K I=>?_);go_simp
   go_at_call 268;refine (KN.out y J).mono ?_;rintro e o ⟨rfl,H⟩
   refine I.out _ _ (J.trans (H.mono J.size)) (fun U=>?_);clear I K
   try simp only [Act.put,pA,pB,pC]
   refine tkB 3 Z.out ?_;refine tkB 4 Z.out ?_;refine tkB 5 Z.out ?_;refine tkB 6 Z.out ?_;refine tkB 7 Z.out ?_;refine tkB 8 Z.out ?_;refine tkB 9 Z.out ?_;refine tkB 10 Z.out ?_;refine tkB 11 Z.out ?_;refine rdy 12 (fun K I=>?_);go_simp
   go_at_call 269;refine (KS.out o U).mono ?_;rintro e w3 ⟨rfl,rfl⟩
   refine I.out _ _ (U) (fun C=>?_);clear I K
   try simp only [Act.put,pA,pB,pC]
   refine tkB 13 Z.out ?_;refine tkB 14 Z.out ?_;refine tkB 15 Z.out ?_;refine tkB 16 Z.out ?_;refine tkB 17 Z.out ?_;refine tkB 18 Z.out ?_;refine tkB 19 Z.out ?_;refine tkB 20 Z.out ?_;refine tkN 21 ?_
   try simp only [Act.put,pA,pB,pC]
   refine tkN 22 ?_
   try simp only [Act.put,pA,pB,pC]
   refine tkN 23 ?_
   try simp only [Act.put,pA,pB,pC]
   refine tkN 24 ?_
   try simp only [Act.put,pA,pB,pC]
   refine tkN 25 ?_
   try simp only [Act.put,pA,pB,pC]
   refine tkN 26 ?_
   try simp only [Act.put,pA,pB,pC]
   refine tkA 27 ?_;refine tkA 28 ?_;refine wpAnyH_done (by kernel_rfl) ?_ _;refine ax4 ?_;have x:=ax3 C;go_wp2;go_ret;exact⟨by rw [v.out];rfl,A.out.trans (x.out.mono A.out.size)⟩
  have d2:decide ((0:Int)<=d)=true:=by simpa using h2
  obtain⟨D,hD⟩:∃D,decide (d<=(n:Int))=D:=⟨_,rfl⟩;have e:(true&&decide ((0<=z/\z<(N:Int))/\0<=d/\d<=(n:Int)))=D:=by rw [ayC,<-hD];simp [h0,h1,h2]
  have v:=ax3 e;clear e h0 h1 h2;go_enter func241,ntmps241;go_upto_region 1 with fail
  rw [<-hW];clear hW;refine wp_region_noPanic ?_;refine wp_region_held_drew (S:=RowKit.Below W.heap.size W) (by kernel_rfl) (aa2 W 1) (fun J=>?_);obtain⟨y,Y⟩:∃X,X=W.drew:=⟨_,rfl⟩;rw [<-Y] at J ⊢;clear Y;refine tkB 0 Z.out ?_;refine tkB 1 Z.out ?_;refine rdy 2 (fun K I=>?_);go_simp
  go_at_call 268;refine (KN.out y J).mono ?_;rintro e o ⟨rfl,H⟩
  refine I.out _ _ (J.trans (H.mono J.size)) (fun U=>?_);clear I K
  try simp only [Act.put,pA,pB,pC]
  refine tkB 3 Z.out ?_;refine tkB 4 Z.out ?_;refine tkB 5 Z.out ?_;refine tkB 6 Z.out ?_;refine tkB 7 Z.out ?_;refine tkB 8 Z.out ?_;refine tkB 9 Z.out ?_;refine tkB 10 Z.out ?_;refine tkB 11 Z.out ?_;refine rdy 12 (fun K I=>?_);go_simp
  go_at_call 269;refine (KS.out o U).mono ?_;rintro e w3 ⟨rfl,rfl⟩
  refine I.out _ _ (U) (fun C=>?_);clear I K
  try simp only [Act.put,pA,pB,pC]
  refine tkB 13 Z.out ?_;refine tkB 14 Z.out ?_;refine tkB 15 Z.out ?_;refine tkB 16 Z.out ?_;refine tkB 17 Z.out ?_;refine tkB 18 Z.out ?_;refine tkB 19 Z.out ?_;refine tkB 20 Z.out ?_;refine tkB 21 Z.out ?_;refine tkB 22 Z.out ?_;refine tkB 23 Z.out ?_;refine tkB 24 Z.out ?_;refine tkB 25 Z.out ?_;refine tkB 26 Z.out ?_;refine tkB 27 Z.out ?_;refine tkB 28 Z.out ?_;refine wpAnyH_done (by kernel_rfl) ?_ _;refine ax4 ?_;have x:=ax3 C;go_wp2;go_ret;exact⟨by rw [v.out];rfl,A.out.trans (x.out.mono A.out.size)⟩
def ark (fold:Bool)(wss:List (List Int))(Z wm:Int)(n:Nat)(z d:Int):Bool:=(aan fold wss&&au3 (aa0 wss).length z 0)&&ak4 (aaY wss) Z wm n&&decide (0<=d/\d<=(n:Int))
def ae8 (Z:Int)(l:List aam):List aam:=l.filter fun h=>decide (Z<h.1)
theorem aj7 (Z:Int)(l m:List aam):ae8 Z (l++m)=ae8 Z l++ae8 Z m:=by unfold ae8;rw [List.filter_append]
def abJ (n:Nat)(d m:Int):Nat:=(min (max m 0) ((n:Int)-d)).toNat
theorem agb {n:Nat}{d m:Int}(h0:0<=d)(h1:d<=(n:Int)):d.toNat+abJ n d m<=n:=by unfold abJ;omega
def agM (Z:List Int)(d m:Int):List Int:=(Z.drop d.toNat).take (abJ Z.length d m)
def asL (fold:Bool)(ws:List (List Int))(Z wm:Int)(Y:List Int)(z d m:Int):List aam:=ae8 Z (afZ fold ws z.toNat (Z-wm+d) (agM Y d m))
def byN (F:List Int)(j:Nat):Int:=(F[j]?).getD 0
def enN (p:Int)(F:List Int)(j:Nat):Int:=p+((min j F.length:Nat):Int)+1
def ndN (fold:Bool)(ws:List (List Int))(z:Nat)(F:List Int)(Z:List Nat):Nat:=adf fold ws z (Z.map (byN F))
def hsN (fold:Bool)(ws:List (List Int))(Z p:Int)(F:List Int):Nat->List Nat->List aam
 | _,[]=>[]
 | z,j :: r=>(if Z<enN p F j then (aaD ws (adF fold ws z (byN F j))).map (fun v=>((enN p F j,v):aam)) else [])++hsN fold ws Z p F (adF fold ws z (byN F j)) r
section
variable {fold:Bool}{ws:List (List Int)}{F:List Int}
theorem asj (Z:∀x∈F,0<=x/\x<256)(j:Nat):0<=byN F j/\byN F j<256:=by
 unfold byN
 cases h:F[j]? with
 | none=>simp
 | some x=>exact Z x (ay9 h)
theorem avz (p:Int)(j:Nat):p+1<=enN p F j/\enN p F j<=p+F.length+1:=by
 unfold enN;omega
theorem anf (z j:Nat)(Z:List Nat):ndN fold ws z F (Z++[j])=adF fold ws (ndN fold ws z F Z) (byN F j):=by
 unfold ndN;rw [ay7,afV]
 rfl
theorem avq {z:Nat}(Y:z<(aa0 ws).length)(Z:List Nat):ndN fold ws z F Z<(aa0 ws).length:=as9 Y _
theorem ajB (Y p:Int)(j:Nat):∀(Z:List Nat) (z:Nat),hsN fold ws Y p F z (Z++[j])=hsN fold ws Y p F z Z++(if Y<enN p F j then (aaD ws (adF fold ws (ndN fold ws z F Z) (byN F j))).map (fun v=>((enN p F j,v):aam)) else [])
 | [],z=>by simp [hsN,ndN,adf]
 | i :: Z,z=>by
  rw [ay1];simp only [hsN];rw [ajB Y p j Z,ayi]
  rfl
theorem aqK (Y p:Int):∀(Z:List Nat) (z:Nat),z<(aa0 ws).length->(hsN fold ws Y p F z Z).length<=(aa0 ws).length*Z.length
 | [],z,_=>by simp [hsN]
 | j :: Z,z,hz=>by
  have X:(aa0 ws)[z]?=some (aa0 ws)[z]:=ay4 hz;have V:=(awR.1 (agc (fold:=fold) X (byN F j)).1).1;have U:=aqK Y p Z (adF fold ws z (byN F j)) V;have h9:=acI ws (adF fold ws z (byN F j));simp only [hsN,List.length_append,axU];rw [Nat.mul_succ]
  split
  · rw [ayq];omega
  · simp;omega
theorem agx (z:Nat):∀k,k<=F.length->ndN fold ws z F (List.range k)=adf fold ws z (F.take k)
 | 0,_=>by simp [ndN]
 | k+1,h=>by
  have Z:F[k]?=some F[k]:=ay4 (by omega);rw [ayt,anf,agx z k (by omega),axH,Z,afV];unfold byN;rw [Z]
  rfl
theorem ajK (Z p:Int)(z:Nat):∀k,k<=F.length->hsN fold ws Z p F z (List.range k)=ae8 Z (afZ fold ws z p (F.take k))
 | 0,_=>by simp [hsN,afZ,ae8]
 | k+1,h=>by
  have X:F[k]?=some F[k]:=ay4 (by omega);rw [ayt,ajB,ajK Z p z k (by omega),agx z k (by omega),axH,X,akM,aj7];congr 1;have U:byN F k=F[k]:=by unfold byN;rw [X];rfl
  have V:enN p F k=p+((F.take k).length:Int)+1:=by unfold enN;rw [ay6]
  rw [U,V];show _=ae8 Z ((aaD ws (adF fold ws (adf fold ws z (F.take k)) F[k])).map (fun v=>((p+((F.take k).length:Int)+1,v):aam))++[]);rw [ayj];unfold ae8
  split
  ·
   rename_i h1
   rw [List.filter_eq_self.2];intro x Y;obtain⟨v,_,rfl⟩:=axE.1 Y;exact decide_eq_true h1
  ·
   rename_i h1
   rw [List.filter_eq_nil_iff.2];intro x Y;obtain⟨v,_,rfl⟩:=axE.1 Y
   simpa using h1
end
theorem anE {n:Nat}{d k:Int}{j:Nat}(Y:d<=(n:Int))(Z:j<abJ n d k):0<k-(j:Int)/\d+(j:Int)<(n:Int):=by unfold abJ at Z;omega
theorem aou {n:Nat}{d k:Int}(Z:d<=(n:Int)):¬0<k-(abJ n d k:Int)∨¬d+(abJ n d k:Int)<(n:Int):=by unfold abJ;omega
theorem an5 (Z:List Int)(d:Nat)(k:Int)(Y:d<=Z.length):(agM Z (d:Int) k).length=abJ Z.length d k:=by
 unfold agM;rw [ay6,List.length_drop,axs];have:=agb (n:=Z.length) (d:=(d:Int)) (m:=k) (by omega) (by omega);rw [axs] at this;omega
theorem au9 {Z:List Int}{d j:Nat}{k:Int}(X:j<(agM Z (d:Int) k).length):Z[d+j]?=some (byN (agM Z (d:Int) k) j):=by
 unfold byN;have h:(agM Z (d:Int) k)[j]?=some (agM Z (d:Int) k)[j]:=ay4 X;obtain⟨y,Y⟩:∃y,(agM Z (d:Int) k)[j]=y:=⟨_,rfl⟩;rw [Y] at h;rw [h];unfold agM at h;rw [awS,axs] at h
 split at h
 · rw [ayP] at h;exact h
 · cases h
section
variable {V0:World}{fold:Bool}{wss:List (List Int)}{z:Nat}{at0:Int}{x12 x13 base:Nat}{V V':World}{p q v':Value}{F G F':List Int}{P Q:List aam}
theorem awE {x:Nat}{c0 c1 u0 u1:Value}{t:TypeId}(h:V.heap[x]?=some (.cells #[c0,c1] t (0,0))):((V.setCell ⟨x,0,none⟩ u0).setCell ⟨x,1,none⟩ u1).heap[x]?=some (.cells #[u0,u1] t (0,0))/\
  V.grownBy ((V.setCell ⟨x,0,none⟩ u0).setCell ⟨x,1,none⟩ u1) (some x):=by
 have g:∀(W:World) (o:Nat) (u:Value),W.grownBy (W.setCell ⟨x,o,none⟩ u) (some x):=fun W o u=>⟨rfl,rfl,rfl,(KeepsWalks.setCell W _ u).size,fun k _ Y=>axn _ _ _ k (fun e=>Y (by rw [e]))⟩;have X:=g V 0 u0;have U:=g (V.setCell ⟨x,0,none⟩ u0) 1 u1;refine⟨?_,⟨rfl,rfl,rfl,awT X.size U.size,fun k Y Z=>(U.block k (ax6 Y X.size) Z).trans (X.block k Y Z)⟩⟩;have h:=aa4 (i:=1) (aa4 (i:=0) h u0) u1
 simpa using h
end
theorem aoK (g:Nat)(n:Int)(w:World) :
  Calls ZP 242 #[.pointer (some ⟨g,0,none⟩),.int .i64 n] w fun e w'=>e=.returned (.func (.func 270) #[] #[.pointer (some ⟨w.heap.size+1,0,none⟩),.pointer (some ⟨w.heap.size,0,none⟩)])/\
   w'=(w.alloc (.cells #[.pointer (some ⟨g,0,none⟩)] 368)).alloc (.cells #[.int .i64 n] 3):=by
 go_enter func242,ntmps242;go_wp2;go_ret;exact⟨rfl,rfl⟩
section
attribute [local go_sem] Oper.semAt_some
attribute [local simp] aab aa6
attribute [local go_sem] aab aa6
abbrev sbQ (nu st wm:Int)(b:Option Addr)(n c:Nat)(z d:Int):Array Value:=#[.int .i64 nu,.int .i64 st,.int .i64 wm,.slice b n c,.int .i64 z,.int .i64 d]
def SbX (g:Nat)(nu st wm:Int)(b:Option Addr)(n c:Nat)(z d:Int)(W:World):Prop:=W.heap[g]?=some (.cells (sbQ nu st wm b n c z d) 329 (0,0))
section
variable {g:Nat}{nu st wm:Int}{b:Option Addr}{n c:Nat}{z d:Int}{W V:World}
theorem SbX.lt (h:SbX g nu st wm b n c z d W):g<W.heap.size:=(awU.1 h).1
theorem SbX.cells (h:SbX g nu st wm b n c z d W):(W.cell? ⟨g,0,none⟩=some (.int .i64 nu)/\W.cell? ⟨g,1,none⟩=some (.int .i64 st)/\W.cell? ⟨g,2,none⟩=some (.int .i64 wm)/\W.cell? ⟨g,3,none⟩=some (.slice b n c)/\W.cell? ⟨g,4,none⟩=some (.int .i64 z)/\W.cell? ⟨g,5,none⟩=some (.int .i64 d))/\W.frozen? ⟨g,4,none⟩=false/\W.frozen? ⟨g,5,none⟩=false:=by
 unfold SbX at h;exact⟨⟨by simp [World.cell?,h],by simp [World.cell?,h],by simp [World.cell?,h],by simp [World.cell?,h],by simp [World.cell?,h],by simp [World.cell?,h]⟩,by simp [World.frozen?,h],by simp [World.frozen?,h]⟩
theorem SbX.node (h:SbX g nu st wm b n c z d W)(y:Int):SbX g nu st wm b n c y d (W.setCell ⟨g,4,none⟩ (.int .i64 y)):=by
 unfold SbX at h ⊢;have:=aa4 (i:=4) h (.int .i64 y)
 simpa using this
theorem SbX.done (h:SbX g nu st wm b n c z d W)(y:Int):SbX g nu st wm b n c z y (W.setCell ⟨g,5,none⟩ (.int .i64 y)):=by
 unfold SbX at h ⊢;have:=aa4 (i:=5) h (.int .i64 y)
 simpa using this
theorem SbX.below (h:SbX g nu st wm b n c z d W)(Z:Below W.heap.size W V):SbX g nu st wm b n c z d V:=(Z.block g h.lt).trans h
theorem SbX.same {Y X:Int}(h:SbX g nu st wm b n c z d W)(U:SbX g nu st wm b n c Y X W):z=Y/\d=X:=by
 have a:=h.cells.1;have Z:=U.cells.1;rw [a.2.2.2.2.1,ayN,Value.int.injEq] at Z;rw [a.2.2.2.2.2,ayN,Value.int.injEq] at Z;exact⟨Z.2.2.2.2.1.2,Z.2.2.2.2.2.2⟩
end
def KpN (bl g:Nat)(W Z:World):Prop:=
 W.heap.size<=Z.heap.size/\(∀k cs t f,W.heap[k]?=some (.cells cs t f)->k≠bl->k≠g->abX bl W≠some k->Z.heap[k]?=some (.cells cs t f))/\(abX bl Z=abX bl W∨∃r,abX bl Z=some r/\W.heap.size<=r/\r<Z.heap.size)/\
  (∀nu st wm b n c z d,SbX g nu st wm b n c z d W->∃Y,SbX g nu st wm b n c Y d Z)
theorem KpN.t {bl g:Nat}{A B C:World}(h:KpN bl g A B)(k:KpN bl g B C):KpN bl g A C:=by
 obtain⟨h1,h2,h3,h4⟩:=h;obtain⟨s,v,x,y⟩:=k;refine⟨awT h1 s,fun i cs t f J H I N=>?_,?_,fun nu st wm b n c z d o=>?_⟩
 ·
  refine v i cs t f (h2 i cs t f J H I N) H I ?_
  rcases h3 with e | ⟨r,e,Z,_⟩
  · rw [e];exact N
  ·
   rw [e];intro j;have:=KpL.lt (bl:=bl) J
   cases j
   omega
 ·
  rcases x with e | ⟨r,e,Z,Y⟩
  ·
   rw [e]
   rcases h3 with U | ⟨r,U,Z,Y⟩
   · exact .inl U
   · exact .inr ⟨r,U,Z,by omega⟩
  · exact .inr ⟨r,e,by omega,Y⟩
 · obtain⟨D,X⟩:=h4 nu st wm b n c z d o;exact y nu st wm b n c D d X
theorem KpN.b {bl g:Nat}{w:World}(Z:bl<w.heap.size)(H:g<w.heap.size)(W:World)(l:Nat)(o o':Obj)(N:w.heap.size<=l)(h:W.heap[l]?=some o)(I:o.isCells=false)(X:o.isWalk=false):KpN bl g W (W.putObj l o'):=by
 obtain⟨h1,h2,h3⟩:=KpL.b (bl:=bl) Z W l o o' N h I X;refine⟨h1,fun k cs t f J Z _ U=>h2 k cs t f J Z U,h3,fun nu st wm b n c z d Y=>⟨z,?_⟩⟩;unfold SbX at Y ⊢;rw [ayn (by omega)];exact Y
theorem KpN.of_below {bl g:Nat}{W V:World}(Z:Below W.heap.size W V)(U:bl<W.heap.size):KpN bl g W V:=by
 obtain⟨h1,h2,h3⟩:=KpL.of_below (bl:=bl) Z U;exact⟨h1,fun k cs t f N Z _ X=>h2 k cs t f N Z X,h3,fun nu st wm b n c z d Y=>⟨z,Y.below Z⟩⟩
def PbN (g q:Nat)(r:Nat)(W Y:World):Prop:=r=q∨r=g/\∀nu st wm b n c z d,SbX g nu st wm b n c z d W->∃Z,SbX g nu st wm b n c z Z Y
structure adt (bl g q:Nat)(w W:World):Prop where
 size:w.heap.size<=W.heap.size
 cells:∀k cs t f,w.heap[k]?=some (.cells cs t f)->k≠bl->k≠g->k≠q->W.heap[k]?=some (.cells cs t f)
 row:∀r,abX bl W=some r->w.heap.size<=r/\r<W.heap.size
section
variable {bl g q:Nat}{w W V:World}
theorem adt.body (h:adt bl g q w W)(D:KpN bl g W V):adt bl g q w V:=by
 obtain⟨I,J,N,_⟩:=D;refine⟨awT h.size I,fun k cs t f X U Y H=>J k cs t f (h.cells k cs t f X U Y H) U Y (fun e=>?_),fun r Z=>?_⟩
 · have h1:=KpL.lt (bl:=bl) X;have h2:=(h.row k e).1;omega
 ·
  rcases N with e | ⟨C,e,h1,h2⟩
  · rw [e] at Z;have:=h.row r Z;omega
  ·
   rw [e] at Z
   cases Z
   have:=h.size;omega
theorem adt.own {p:Nat}(h:adt bl g q w W)(Z:W.grownBy V (some p))(D:p=g∨p=q)(Y:bl≠p)(X:bl<W.heap.size):adt bl g q w V:=by
 have e:abX bl V=abX bl W:=by
  unfold abX;rw [axp (a:=⟨bl,0,none⟩) (Z.block bl X (fun e=>Y (awV e)))]
 refine⟨awT h.size Z.size,fun k cs t f I H J N=>?_,fun r U=>?_⟩
 · have h1:=h.cells k cs t f I H J N;exact (Z.block k (KpL.lt (bl:=bl) h1) (fun e=>by have:=awV e;omega)).trans h1
 · rw [e] at U;have:=h.row r U;have:=Z.size;omega
theorem KpN.box {b:Nat}{t:TypeId}{v:Value}(h:KpN bl g W V)(Z:Boxed W b t v)(h1:b≠bl)(h2:b≠g)(h3:abX bl W≠some b):Boxed V b t v:=h.2.1 b _ _ _ Z h1 h2 h3
end
def auZ (p:Int)(F:List Int)(j:Nat):Array Value:=#[.int .i64 (enN p F j),.int .u8 (byN F j)]
theorem PbN.lt {g q k:Nat}(X:g<k)(Y:q<k):∀r W Z,PbN g q r W Z->r<k:=fun r W Z h=>by rcases h with rfl | ⟨rfl,_⟩<;>assumption
theorem al3 {g q p2 bl:Nat}(nu st wm z0:Int)(b:Option Addr)(n c:Nat)(d:Nat)(k:Int)(B:List Int)(mm:Nat)(w0 w:World)(hD:Bys w0 b n B)(au:agC w0 w)
  (bq:w0.heap.size<=g) (bk:w0.heap.size<=q) (bw:w0.heap.size<=bl) (b2:(bl≠g/\bl≠q/\g≠q)/\p2≠g/\p2≠q/\p2≠bl) (aJ:bl<w.heap.size)
  (h3:Boxed w q 3 (.int .i64 k)) (h2:Boxed w p2 368 (.pointer (some ⟨g,0,none⟩))) (hg:SbX g nu st wm b n c z0 d w)
  (ae:∀r,abX bl w≠some r) (hd:d<=n) (hn:n<=1000000) (bj:0<=st/\st<=4611686020574871551) (bi:0<=wm/\wm<=1000000) (hk:-9223372036854775808<=k/\k<=9223372036854775807) :
  abk Fence.wide mm ZP 270 #[.pointer (some ⟨q,0,none⟩),.pointer (some ⟨p2,0,none⟩)] (auZ (st-wm+d) (agM B d k)) (KpN bl g) (PbN g q) (fun js W=>js=List.range (agM B d k).length/\∃z',SbX g nu st wm b n c z' (d+((agM B d k).length:Nat)) W) (fun _=>True) ((agM B d k).length+1) w:=by
 intro l J Jx W D hJ bx hY h0;have aW:B.length=n:=hD.len;have a7:(agM B (d:Int) k).length=abJ n d k:=by rw [an5 B d k (by omega),aW]
 obtain⟨⟨n1,n2,n3⟩,n4,n5,n6⟩:=b2;have aq:adt bl g q w W:=⟨D.size,fun k cs t f hc _ _ _=>(D.block k (KpL.lt (bl:=bl) hc)).trans hc,fun r hr=>absurd hr (by
  unfold abX;rw [axp (a:=⟨bl,0,none⟩) (D.block bl aJ)];exact ae r)⟩
 have ak:=hg.lt;have aa:=h3.lt;have bd:=ax3 aa;have b9:Hid (∀V,adt bl g q w V->agC w0 V):=fun V hV=>⟨awT au.1 hV.size,fun k cs t f hc=>hV.cells k cs t f (au.2 k cs t f hc) (by have:=KpL.lt (bl:=bl) hc;omega) (by have:=KpL.lt (bl:=bl) hc;omega) (by have:=KpL.lt (bl:=bl) hc;omega)⟩;have HP:Hid (∀V,adt bl g q w V->V.cell? ⟨p2,0,none⟩=some (.pointer (some ⟨g,0,none⟩))/\bl<V.heap.size/\g<V.heap.size/\q<V.heap.size):=fun V hV=>by
  have e2:=hV.cells p2 _ _ _ h2 n6 n4 n5;exact⟨by simp [World.cell?,e2],ax6 aJ hV.size,ax6 ak hV.size,ax6 aa hV.size⟩
 have HD:Hid (∀V,adt bl g q w V->Bys V b n B):=fun V hV=>⟨(b9.out V hV).sl1 hD.1,hD.2⟩;have b1:Hid (SbX g nu st wm b n c z0 d W):=(D.block g ak).trans hg;have aY:Hid (Boxed W q 3 (.int .i64 k)):=(D.block q aa).trans h3;have av:Hid (∀j,j<abJ n d k->B[d+j]?=some (byN (agM B (d:Int) k) j)):=fun j hj=>au9 (by rw [a7];exact hj);have aw:Hid (∀j,j<abJ n d k->enN (st-wm+d) (agM B (d:Int) k) j=st-wm+((d:Int)+(j:Int)+1)):=fun j hj=>by unfold enN;rw [a7];omega
 have a8:Hid (¬0<k-(abJ n d k:Int)∨¬(d:Int)+(abJ n d k:Int)<(n:Int)):=aou (by omega);have aX:Hid (∀j:Nat,j<abJ n d k->0<k-(j:Int)/\(d:Int)+(j:Int)<(n:Int)):=fun j hj=>anE (by omega) hj;have b6:d+abJ n d k<=n:=by have:=agb (n:=n) (d:=(d:Int)) (m:=k) (by omega) (by omega);rwa [axs] at this
 have bb:Hid ((abJ n d k:Int)<=max k 0):=by rw [Hid];unfold abJ;omega
 rw [a7] at hY;rw [a7];obtain⟨F,hF⟩:∃F,agM B (d:Int) k=F:=⟨_,rfl⟩;obtain⟨T,hT⟩:∃T,abJ n (d:Int) k=T:=⟨_,rfl⟩;rw [hF,hT] at hY;rw [hF] at av aw;rw [hT] at av aw a8 aX bb b6;rw [hT];have HN:=ax3 (And.intro n1 (And.intro n2 n3));clear hD au h3 h2 hg ae D a7 aW hF hT n1 n2 n3 n4 n5 n6 ak aa;obtain⟨c2,_⟩:=HP.out W aq;refine callsIn_of_wp func270 rfl trivial ?_ rfl;simp only [ntmps270,axT,axU,axV,Nat.reduceAdd,Nat.reduceSub,axW,axX,axY,axZ,ay0,ay1]
 gi_wp2
 clear c2
 gi_loopw [4] (fun s4 wr=>∃j:Nat,j<=T/\J (List.range j) wr/\Hid (Boxed wr q 3 (.int .i64 (k-(j:Int))))/\Hid (∃z',SbX g nu st wm b n c z' ((d:Int)+(j:Int)) wr)/\Hid (adt bl g q w wr)) (fun _ wr=>akX q wr)
 case atStart=>exact⟨0,axh _,h0,by simpa [Hid] using aY.out,⟨z0,by simpa using b1.out⟩,aq⟩
 case round=>
  clear b1 aY aq h0;obtain⟨j,bp,hj,A,HG,y⟩:=hrel;obtain⟨n1,n2,n3⟩:=HN.out;obtain⟨c2,cb,cg,cq⟩:=HP.out wr y.out;obtain⟨z,hz⟩:=HG.out;obtain⟨Y,ac⟩:∃x:Int,k-(j:Int)=x:=⟨_,rfl⟩;obtain⟨dj,s⟩:∃x:Int,(d:Int)+(j:Int)=x:=⟨_,rfl⟩
  by_cases aj:j<T
  ·
   obtain⟨a1,a2⟩:=aX.out j aj;have ar:=aw.out j aj;obtain⟨b3,o3,cI,e3,bm,cc,ad⟩:=abm (HD.out wr y.out).1 (show d+j<n by omega);subst e3;have bv:=(HD.out wr y.out).2 cI (ay9 ad);have aH:byN F j=cI:=by have h:=av.out j aj;rw [ad] at h;exact (awV h).symm
   rw [ac] at A a1;rw [s] at hz a2 ar;have e1:Hid (k-((j+1:Nat):Int)=Y-1):=by rw [Hid];omega
   have e2:Hid ((d:Int)+((j+1:Nat):Int)=dj+1):=by rw [Hid];omega
   have bu:0<=dj:=by omega
   have bt:dj<=1000000:=by omega
   have bo:Y<=9223372036854775807:=by omega
   have be:Hid (akX q wr=Y.toNat):=by rw [Hid];unfold akX;rw [A.out.cell];rfl
   have ab:o3+(d+j)=o3+dj.toNat:=by omega
   rw [ab] at cc;obtain⟨⟨g0,g1,g2,g3,g4,g5⟩,f4,f5⟩:=hz.cells;have q0:=A.out.cell;have d1:decide (0<Y)=true:=by simpa using a1
   have d2:decide (dj<(n:Int))=true:=by simpa using a2
   have v:=ax3 hz;have HJ:=ax3 hj;have HC:=ax3 (And.intro aH (And.intro ar ad));have ab:=ax3 ab;have bh:=ax3 a1;clear hz hj ac s ad aH ar HG
   gi_wp2
   refine abc (af1 _ _) mixed (by kernel_rfl) (by kernel_rfl) ?_
   repeat (go_big_quiet_step (fail))
   refine wpQuiet_nil ?_;rintro _ ⟨nq,rfl⟩;have Z:Below wr.heap.size wr (wr.drewN nq):=⟨rfl,rfl,rfl,axe _,fun _ _=>rfl⟩;obtain⟨W1,aM⟩:∃X,X=wr.drewN nq:=⟨_,rfl⟩;rw [<-aM] at Z ⊢;clear aM;have N:=acT hJ HJ.out Z;have ap:adt bl g q w W1:=y.out.body (KpN.of_below Z cb);have aS:Boxed W1 q 3 (.int .i64 Y):=(Z.block q cq).trans A.out;have U:=v.out.below Z;clear c2 cb cg cq g0 g1 g2 g3 g4 g5 f4 f5 q0 d1 d2 cc Z HJ y A v;obtain⟨c2,cb,cg,cq⟩:=HP.out W1 ap;obtain⟨⟨g0,g1,g2,g3,g4,g5⟩,f4,f5⟩:=U.cells;have HJ:=ax3 N;have y:=ax3 ap;have A:=ax3 aS;have v:=ax3 U;obtain⟨b4,o4,b7,e4,_,cc,af⟩:=abm (HD.out W1 y.out).1 (show d+j<n by omega)
   cases e4
   have b5:b7=cI:=by have h:=HC.out.2.2;rw [af] at h;exact awV h
   subst b5;rw [ab.out] at cc;clear N ap aS U af
   gi_wp2
   refine abc (af1 _ _) mixed (by kernel_rfl) (by kernel_rfl) ?_
   repeat (go_big_quiet_step (fail))
   refine wpQuiet_nil ?_;rintro _ ⟨ay,rfl⟩;have H:Below W1.heap.size W1 (W1.drewN ay):=⟨rfl,rfl,rfl,axe _,fun _ _=>rfl⟩;obtain⟨W2,aL⟩:∃X,X=W1.drewN ay:=⟨_,rfl⟩;rw [<-aL] at H ⊢;clear aL;have aG:=acT hJ HJ.out H;have ao:adt bl g q w W2:=y.out.body (KpN.of_below H cb);have aR:Boxed W2 q 3 (.int .i64 Y):=(H.block q cq).trans A.out;have ag:=v.out.below H;clear c2 cb cg cq g0 g1 g2 g3 g4 g5 f4 f5 cc H HJ y A v;obtain⟨c2,cb,cg,cq⟩:=HP.out W2 ao;obtain⟨⟨g0,g1,g2,g3,g4,g5⟩,f4,f5⟩:=ag.cells;have A:=ax3 aR;obtain⟨W3,C⟩:∃X,X=W2.setCell ⟨g,5,none⟩ (.int .i64 (dj+1)):=⟨_,rfl⟩;have aF:J (List.range j) W3:=by rw [C];exact akk hJ aG 5 _ (.inr ⟨rfl,fun nu st wm b n c z d h=>⟨_,h.done _⟩⟩)
   have aU:adt bl g q w W3:=by rw [C];exact ao.own (aa9 W2 g 5 _) (.inl rfl) n1 cb
   have aQ:Boxed W3 q 3 (.int .i64 Y):=by rw [C];exact (axn W2 ⟨g,5,none⟩ _ q (Ne.symm n3)).trans A.out
   have aC:SbX g nu st wm (some ⟨b3,o3,none⟩) n c z (dj+1) W3:=by rw [C];exact ag.done _
   have HJ:=ax3 aF;have y:=ax3 aU;have v:=ax3 aC;have b0:=ax3 aQ;clear aG ao aR ag aF aU aQ aC
   gi_wp2
   rw [<-C];clear c2 cb cg cq g0 g1 g2 g3 g4 g5 f4 f5 C A;obtain⟨c2,cb,cg,cq⟩:=HP.out W3 y.out;obtain⟨⟨g0,g1,g2,g3,g4,g5⟩,f4,f5⟩:=v.out.cells;refine aaJ (af1 _ _) 19 mixed (by kernel_rfl) (by kernel_rfl) ?_;dsimp only [List.take_succ_cons,List.take_zero,List.drop_succ_cons,List.drop_zero]
   repeat (go_big_quiet_step (fail))
   refine wpQuiet_nil ?_;rintro _ ⟨ax,rfl⟩;have I:Below W3.heap.size W3 (W3.drewN ax):=⟨rfl,rfl,rfl,axe _,fun _ _=>rfl⟩;obtain⟨W4,aK⟩:∃X,X=W3.drewN ax:=⟨_,rfl⟩;rw [<-aK] at I ⊢;clear aK;have aE:=acT hJ HJ.out I;have am:Hid (adt bl g q w W4):=y.out.body (KpN.of_below I cb);have aP:Hid (Boxed W4 q 3 (.int .i64 Y)):=(I.block q cq).trans b0.out;have aB:Hid (SbX g nu st wm (some ⟨b3,o3,none⟩) n c z (dj+1) W4):=v.out.below I;obtain⟨fn,tmps,assign,body,ah,aN⟩:=hY (List.range j) j W4 aE (by rw [List.length_range];omega);dsimp only [auZ] at ah;rw [HC.out.1,HC.out.2.1] at ah;clear c2 cb cg cq g0 g1 g2 g3 g4 g5 f4 f5 I HJ y b0 v aE
   gi_wp2
   refine aN.mono ?_;rintro e W5 (⟨rfl,hJ5,hk5⟩ | ⟨rfl,hJx5⟩)
   ·
    have ai:abX bl W4≠some q:=fun e=>by
     have h1:=(am.out.row q e).1;have h2:=bd.out;omega
    have a6:Boxed W5 q 3 (.int .i64 Y):=hk5.box aP.out (Ne.symm n2) (Ne.symm n3) ai;obtain⟨z5,aA⟩:=hk5.2.2.2 _ _ _ _ _ _ _ _ aB.out;have al:adt bl g q w W5:=am.out.body hk5;have aI:=(HP.out W5 al).2.1;rw [<-ayt] at hJ5;have q0:=a6.cell;have q1:=a6.frozen;have q2:=a6.lt;obtain⟨W6,o⟩:∃X,X=W5.setCell ⟨q,0,none⟩ (.int .i64 (Y-1)):=⟨_,rfl⟩;have aV:J (List.range (j+1)) W6:=by rw [o];exact akk hJ hJ5 0 _ (.inl rfl)
    have aT:adt bl g q w W6:=by rw [o];exact al.own (aa9 W5 q 0 _) (.inr rfl) n2 aI
    have aO:Boxed W6 q 3 (.int .i64 (Y-1)):=by rw [o];exact a6.set _
    have az:SbX g nu st wm (some ⟨b3,o3,none⟩) n c z5 (dj+1) W6:=by rw [o];exact (axn W5 ⟨q,0,none⟩ _ g n3).trans aA
    have bf:=ax3 aT;have aZ:=ax3 aO;have b8:=ax3 az;have bg:=ax3 aV;clear am aP aB aN ah a6 aA al hJ5 hk5 aT aO az aV
    gi_wp2
    rw [<-o]
    go_roundw
    case rel=>exact⟨j+1,by omega,bg.out,by rw [Hid,e1.out];exact aZ.out,⟨z5,by rw [e2.out];exact b8.out⟩,bf⟩
    case measure=>
     rw [be.out];unfold akX;rw [aZ.out.cell];show (Y-1).toNat<Y.toNat;have h1:=bh.out;omega
   ·
    gi_wp2
    refine bodyPost_ret (results_none rfl _ _ _) rfl ?_;exact⟨⟨_,rfl⟩,.inr ⟨_,trivial,hJx5⟩⟩
  ·
   obtain rfl:T=j:=by omega
   rw [ac] at A a8;rw [s] at hz a8;have e2:Hid ((d:Int)+(T:Int)=dj):=s;have q0:=A.out.cell;obtain⟨⟨g0,g1,g2,g3,g4,g5⟩,f4,f5⟩:=hz.cells;have v:=ax3 hz;have HJ:=ax3 hj;have aD:=a8.out;clear hz hj ac s HG a8
   by_cases a1:0<Y
   ·
    have a2:¬dj<(n:Int):=by omega
    have d1:decide (0<Y)=true:=by simpa using a1
    have d2:decide (dj<(n:Int))=false:=by simpa using a2
    clear aD a1 a2
    gi_wp2
    refine abc (af1 _ _) mixed (by kernel_rfl) (by kernel_rfl) ?_
    repeat (go_big_quiet_step (fail))
    refine wpQuiet_nil ?_;rintro _ ⟨nq,rfl⟩;have Z:Below wr.heap.size wr (wr.drewN nq):=⟨rfl,rfl,rfl,axe _,fun _ _=>rfl⟩;have N:=acT hJ HJ.out Z;have U:=v.out.below Z
    gi_wp2
    go_end0
    exact⟨⟨_,rfl⟩,.inl ⟨_,⟨rfl,z,by rw [e2.out];exact U⟩,N⟩⟩
   ·
    have d1:decide (0<Y)=false:=by simpa using a1
    clear aD a1
    gi_wp2
    refine abc (af1 _ _) mixed (by kernel_rfl) (by kernel_rfl) ?_
    repeat (go_big_quiet_step (fail))
    refine wpQuiet_nil ?_;rintro _ ⟨nq,rfl⟩;have Z:Below wr.heap.size wr (wr.drewN nq):=⟨rfl,rfl,rfl,axe _,fun _ _=>rfl⟩;have N:=acT hJ HJ.out Z;have U:=v.out.below Z
    gi_wp2
    go_end0
    exact⟨⟨_,rfl⟩,.inl ⟨_,⟨rfl,z,by rw [e2.out];exact U⟩,N⟩⟩
end
theorem aea {fn:Func}{p u v:Tmp}{tmps:Array Value}{W:World}{B C:Nat}{x y l:Value}(h:fn.results=#[.cell p 247,.cell u 69,.tmp v])(V:tmps.getD p undef=.pointer (some ⟨B,0,none⟩))(X:tmps.getD u undef=.pointer (some ⟨C,0,none⟩))(J:W.heap[B]?=some (.cells #[x,y] 247 (0,0)))(I:W.cell? ⟨C,0,none⟩=some l) :
  (results fn tmps).run ZP W=.ok (.tuple #[.agg #[x,y],l,tmps.getD v undef]) W:=by
 have N:(loadVar 247 ⟨B,0,none⟩).run ZP W=.ok (.agg #[x,y]) W:=run_loadVar_row W B 247 247 #[x,y] (0,0) _ J underlying247 rfl (by kernel_rfl);have U:(loadVar 69 ⟨C,0,none⟩).run ZP W=.ok l W:=by
  go_simp
 have Y:tmps[p]?.getD undef=.pointer (some ⟨B,0,none⟩):=by simpa using V
 have Z:tmps[u]?.getD undef=.pointer (some ⟨C,0,none⟩):=by simpa using X
 simp [results,h,Y,Z,asAddr,N,U,Result.andThen]
theorem aod (p:Option Addr)(N X wm:Int)(b:Option Addr)(n c:Nat)(z d m:Int)(w:World)
  (hR:∀V,Below w.heap.size w V->Calls ZP 241 #[.pointer p,.agg (blV N X wm b n c),prV z d] V fun e w'=>e=.returned (.bool false)/\Below V.heap.size V w') :
  Calls ZP 200 #[.pointer p,.agg (blV N X wm b n c),prV z d,.int .i64 m] w fun e w'=>e=.returned (.tuple #[prV z d,.slice none 0 0,.bool false])/\Below w.heap.size w w':=by
 obtain⟨W,hW⟩:∃W,W=((((w.alloc (.cells #[.pointer p] 88)).alloc (.cells (blV N X wm b n c) 120)).alloc (.cells #[.int .i64 z,.int .i64 d] 247)).alloc (.cells #[.int .i64 0,.int .i64 0] 247)).alloc (.cells #[.slice none 0 0] 69):=⟨_,rfl⟩;have H:Below w.heap.size w W:=by rw [hW];exact (((((axf _ _).alloc (axe _) _).alloc (by simp) _).alloc (by simp;omega) _).alloc (by simp;omega) _).alloc (by simp;omega) _
 have hO:Bx w.heap.size [.cells #[.pointer p] 88,.cells (blV N X wm b n c) 120,.cells #[.int .i64 z,.int .i64 d] 247,.cells #[.int .i64 0,.int .i64 0] 247,.cells #[.slice none 0 0] 69] W:=by rw [hW];exact (((((Bx.nil _ w).snoc _ rfl).snoc _ (by simp)).snoc _ (by simp)).snoc _ (by simp)).snoc _ (by simp)
 have HC:Hid (∀V,RowKit.Below W.heap.size W V->V.cell? ⟨w.heap.size,0,none⟩=some (.pointer p)/\(V.cell? ⟨w.heap.size+1,0,none⟩=some (.int .i64 N)/\V.cell? ⟨w.heap.size+1,1,none⟩=some (.int .i64 X)/\V.cell? ⟨w.heap.size+1,2,none⟩=some (.int .i64 wm)/\V.cell? ⟨w.heap.size+1,3,none⟩=some (.slice b n c))/\(V.cell? ⟨w.heap.size+1+1,0,none⟩=some (.int .i64 z)/\V.cell? ⟨w.heap.size+1+1,1,none⟩=some (.int .i64 d))/\
   V.heap[w.heap.size+1+1+1]?=some (.cells #[.int .i64 0,.int .i64 0] 247 (0,0))/\V.heap[w.heap.size+1+1+1+1]?=some (.cells #[.slice none 0 0] 69 (0,0))/\RowKit.Below w.heap.size w V):=fun V hV=>by
  have h:=hO.below hV;exact⟨h.cell (i:=0) rfl rfl,⟨h.cell (i:=1) rfl rfl,h.cell (i:=1) rfl rfl,h.cell (i:=1) rfl rfl,h.cell (i:=1) rfl rfl⟩,⟨h.cell (i:=2) rfl rfl,h.cell (i:=2) rfl rfl⟩,h 3 _ rfl,h 4 _ rfl,H.trans (hV.mono H.size)⟩
 have HR:=ax3 (hR W H);obtain⟨q1,⟨j,o,s,v⟩,⟨x,y⟩,_⟩:=HC.out W (axf _ _);clear H hO hR;go_enter func200,ntmps200;go_upto_region 1 with fail
 rw [<-hW];clear hW;go_upto_region 2 with (go_at_call 241;refine HR.out.mono ?_;rintro e Z ⟨rfl,B⟩)
 clear q1 j o s v x y HR;obtain⟨q1,⟨j,o,s,v⟩,⟨x,y⟩,Y,I,U⟩:=HC.out Z B;obtain⟨z0,z1,z2,z3⟩:Z.cell? ⟨w.heap.size+1+1+1,0,none⟩=some (.int .i64 0)/\Z.cell? ⟨w.heap.size+1+1+1,1,none⟩=some (.int .i64 0)/\Z.frozen? ⟨w.heap.size+1+1+1,0,none⟩=false/\Z.frozen? ⟨w.heap.size+1+1+1,1,none⟩=false:=⟨by simp [World.cell?,Y],by simp [World.cell?,Y],by simp [World.frozen?,Y],by simp [World.frozen?,Y]⟩;obtain⟨y0,y1⟩:Z.cell? ⟨w.heap.size+1+1+1+1,0,none⟩=some (.slice none 0 0)/\Z.frozen? ⟨w.heap.size+1+1+1+1,0,none⟩=false:=⟨by simp [World.cell?,I],by simp [World.frozen?,I]⟩;have D:=ax3 I;have C:=ax3 Y;have J:=ax3 U;clear Y I U;go_wp2;have h1:=aa4 (i:=1) (aa4 (i:=0) C.out (.int .i64 z)) (.int .i64 d);have A:((Z.setCell ⟨w.heap.size+1+1+1,0,none⟩ (.int .i64 z)).setCell ⟨w.heap.size+1+1+1,1,none⟩ (.int .i64 d)).heap[w.heap.size+1+1+1]?=some (.cells #[.int .i64 z,.int .i64 d] 247 (0,0)):=by simpa using h1
 have h2:((Z.setCell ⟨w.heap.size+1+1+1,0,none⟩ (.int .i64 z)).setCell ⟨w.heap.size+1+1+1,1,none⟩ (.int .i64 d)).heap[w.heap.size+1+1+1+1]?=some (.cells #[.slice none 0 0] 69 (0,0)):=
  (axn _ _ _ _ (by show w.heap.size+1+1+1+1≠w.heap.size+1+1+1;omega)).trans ((axn _ _ _ _ (by show w.heap.size+1+1+1+1≠w.heap.size+1+1+1;omega)).trans D.out)
 have h3:=aa4 (i:=0) h2 (.slice none 0 0);have h4:=(axn _ ⟨w.heap.size+1+1+1+1,0,none⟩ (.slice none 0 0) (w.heap.size+1+1+1) (by show w.heap.size+1+1+1≠w.heap.size+1+1+1+1;omega)).trans A;refine bodyPost_ret (aea (l:=.slice none 0 0) rfl rfl rfl h4 (by simp [World.cell?,h3])) rfl ?_;exact⟨rfl,((J.out.setCell (by show w.heap.size<=w.heap.size+1+1+1;omega) _).setCell (by show w.heap.size<=w.heap.size+1+1+1;omega) _).setCell (by show w.heap.size<=w.heap.size+1+1+1+1;omega) _⟩
end Go.Proofs.YtaamacoicojhnaaGreat
